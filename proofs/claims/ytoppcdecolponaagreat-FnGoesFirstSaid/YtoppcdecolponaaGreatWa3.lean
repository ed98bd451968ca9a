/- Contracts of functions that hand out memory of their own,or write memory that they were handed. -/
import Derived.Test.YtoppcdecolponaaGreatV5
import Derived.Test.YtoppcdecolponaaGreatAlS4
import Derived.Lib.ItoaLen
import Derived.Lib.AtoiAllCases
import Derived.Test.YtoppcdecolponaaGreatV0
import Derived.Lib.Join
namespace Go.Proofs.YtoppcdecolponaaGreat.AL
open Go
set_option linter.unusedVariables false
set_option linter.unusedSimpArgs false
def rens (f:V→Option V):List V→Option (List V)
 | []=>some []
 | v::l=>match f v,rens f l with
   | some u,some us=>some (u::us)
   | _,_=>none
def V.ren (s:Nat→Option Nat):Nat→V→Option V
 | 0,_=>none
 | fu+1,v=>match v with
   | .w x=>some (.w x)
   | .sl k r=>some (.sl k r)
   | .rp r o=>some (.rp r o)
   | .raw x=>some (.raw x)
   | .agg cs=>match rens (V.ren s fu) cs with
     | some us=>some (.agg us)
     | none=>none
   | .tup cs=>match rens (V.ren s fu) cs with
     | some us=>some (.tup us)
     | none=>none
   | .fn f cs=>match rens (V.ren s fu) cs with
     | some us=>some (.fn f us)
     | none=>none
   | .cp b o=>match s b with
     | some b'=>some (.cp b' o)
     | none=>none
   | .ls b len=>match s b with
     | some b'=>some (.ls b' len)
     | none=>none
   | .ap b len j o=>match s b with
     | some b'=>some (.ap b' len j o)
     | none=>none
theorem rens_rel {R R':V→Value→Prop} {f:V→Option V} (hf:∀ v u x,f v=some u→R v x→R' u x):∀ {l us l'},rens f l=some us→Pt R l l'→Pt R' us l'
 | [],us,l',h,hp=>by simp [rens] at h;subst h;rw[hp.unnil];exact Pt.nil
 | v::l,us,l',h,hp=>by
   obtain⟨x,r,rfl,h1,h2⟩:=hp.uncons
   simp only[rens] at h
   split at h
   ·rename_i u us1 e1 e2
    cases h
    exact Pt.cons (hf _ _ _ e1 h1) (rens_rel hf e2 h2)
   ·cases h
theorem ren_rel {M M':Mem} {Z Z':Zl} {s:Nat→Option Nat} (hM:sub M M') (hs:∀ (b b':Nat) p,s b=some b'→Z[b]?=some p→∃ p',Z'[b']?=some p'∧grow p p'):∀ fu v u x,V.ren s fu v=some u→RL M Z v x→RL M' Z' u x
 | 0,v,u,x,h,_=>by cases h
 | fu+1,v,u,x,h,hr=>by
   have ih:=ren_rel hM hs fu
   cases v with
   | w v=>cases h;obtain⟨rfl,hf⟩:=hr.w_inv;exact .fz (.w hf)
   | sl k rows=>cases h;exact .fz (hr.sl_inv.mono hM)
   | rp row off=>cases h;exact .fz (hr.rp_inv.mono hM)
   | raw v=>cases h;obtain⟨rfl,hf⟩:=hr.raw_inv;exact .fz (.raw hf)
   | agg cs =>
     simp only[V.ren] at h
     split at h
     ·rename_i us e1
      cases h
      obtain⟨vs,rfl,hl,hh⟩:=hr.agg_inv
      have:=rens_rel (R:=RL M Z) (R':=RL M' Z') ih e1 (l':=vs.toList) ⟨by simpa using hl,fun i x y h1 h2=>hh i x y h1 (by simpa using h2)⟩
      exact .agg (by simpa using this.1) fun i x y h1 h2=>this.2 i x y h1 (by simpa using h2)
     ·cases h
   | tup cs =>
     simp only[V.ren] at h
     split at h
     ·rename_i us e1
      cases h
      obtain⟨vs,rfl,hl,hh⟩:=hr.tup_inv
      have:=rens_rel (R:=RL M Z) (R':=RL M' Z') ih e1 (l':=vs.toList) ⟨by simpa using hl,fun i x y h1 h2=>hh i x y h1 (by simpa using h2)⟩
      exact .tup (by simpa using this.1) fun i x y h1 h2=>this.2 i x y h1 (by simpa using h2)
     ·cases h
   | fn f cs =>
     simp only[V.ren] at h
     split at h
     ·rename_i us e1
      cases h
      obtain⟨vs,rfl,hl,hh⟩:=hr.fn_inv
      have:=rens_rel (R:=RL M Z) (R':=RL M' Z') ih e1 (l':=vs.toList) ⟨by simpa using hl,fun i x y h1 h2=>hh i x y h1 (by simpa using h2)⟩
      exact .fn (by simpa using this.1) fun i x y h1 h2=>this.2 i x y h1 (by simpa using h2)
     ·cases h
   | cp b off =>
     simp only[V.ren] at h
     split at h
     ·rename_i b' hb
      cases h
      obtain⟨a,row',hz,rfl,hc⟩:=hr.cp_inv'
      obtain⟨⟨a1,lb1⟩,h1,hg⟩:=hs _ _ _ hb hz
      obtain⟨e,e1⟩:=hg.cl hc
      simp only at e e1
      subst e1
      exact .cp h1 e
     ·cases h
   | ls b len =>
     simp only[V.ren] at h
     split at h
     ·rename_i b' hb
      cases h
      cases hr with
      | fz h=>cases h
      | ls hz hle hw h =>
        obtain⟨⟨a1,lb1⟩,h1,g⟩:=hs _ _ _ hb hz
        rcases g.arr with⟨r1,e,g1,g2⟩|e
        ·simp only at e g2
         subst e
         exact .ls h1 (by omega) hw fun e=>by rw[h (by omega),g2 (by omega)]
        ·simp only at e
         subst e
         exact .lsD h1 hw
      | lsD hz hw =>
        obtain⟨⟨a1,lb1⟩,h1,g⟩:=hs _ _ _ hb hz
        have e:=g.deadI
        simp only at e
        subst e
        exact .lsD h1 hw
     ·cases h
   | ap b len j off =>
     simp only[V.ren] at h
     split at h
     ·rename_i b' hb
      cases h
      cases hr with
      | fz h=>cases h
      | ap hz hle hw h =>
        obtain⟨⟨a1,lb1⟩,h1,g⟩:=hs _ _ _ hb hz
        rcases g.arr with⟨r1,e,g1,g2⟩|e
        ·simp only at e g2
         subst e
         refine .ap h1 (by omega) hw fun e=>?_
         obtain⟨ad,e1,e2⟩:=h (by omega)
         exact⟨ad,by rw[g2 (by omega),e1],e2⟩
        ·simp only at e
         subst e
         exact .apD h1 hw
      | apD hz hw =>
        obtain⟨⟨a1,lb1⟩,h1,g⟩:=hs _ _ _ hb hz
        have e:=g.deadI
        simp only at e
        subst e
        exact .apD h1 hw
     ·cases h
def posN:List Nat→Nat→Option Nat
 | [],_=>none
 | i::l,j=>match Nat.beq i j with
   | true=>some 0
   | false=>match posN l j with
     | some k=>some (k+1)
     | none=>none
theorem posN_inv:∀ {l:List Nat} {j k:Nat},posN l j=some k→l[k]?=some j
 | i::l,j,k,h=>by
   simp only[posN] at h
   split at h
   ·rename_i e;cases h;rw[Nat.eq_of_beq_eq_true e];rfl
   ·split at h
    ·rename_i k' e;cases h;exact(posN_inv e:l[k']?=some j)
    ·cases h
theorem posN_none:∀ {l:List Nat} {j:Nat},posN l j=none→j∉l
 | [],j,_=>by simp
 | i::l,j,h=>by
   simp only[posN] at h
   split at h
   ·cases h
   ·rename_i e
    split at h
    ·cases h
    ·rename_i e2
     simp only[List.mem_cons,not_or]
     exact⟨fun e'=>Nat.ne_of_beq_eq_false e e'.symm,posN_none e2⟩
def mapO {α γ:Type} (f:α→Option γ):List α→Option (List γ)
 | []=>some []
 | x::l=>match f x,mapO f l with
   | some y,some r=>some (y::r)
   | _,_=>none
theorem mapO_inv {α γ:Type} {f:α→Option γ}:∀ {l:List α} {r:List γ},mapO f l=some r→r.length=l.length∧∀ (i:Nat) x,l[i]?=some x→∃ y,f x=some y∧r[i]?=some y
 | [],r,h=>by simp [mapO] at h;subst h;exact⟨rfl,fun i x h=>by simp at h⟩
 | x::l,r,h=>by
   simp only[mapO] at h
   split at h
   ·rename_i y r' e1 e2
    cases h
    obtain⟨h1,h2⟩:=mapO_inv e2
    refine⟨by simp [h1],fun i x' hx=>?_⟩
    cases i with
    | zero=>simp at hx;subst hx;exact⟨y,e1,rfl⟩
    | succ i=>exact h2 i x' (by simpa using hx)
   ·cases h
def LB.froz:LB→Bool
 | .cell row=>fzs row
 | .arr ..=>true
 | .gone=>false
 | .dead=>true
theorem LB.froz_rel {M Z lb cells} (h:LB.rel M Z lb cells) (hf:lb.froz=true) {M':Mem} (hs:sub M M') (Z'):LB.rel M' Z' lb cells:=by
 cases lb with
 | cell row =>
   obtain⟨h1,_⟩:=fzs_rel (M:=M) (Z:=Z) h hf
   exact h1.mono fun _ _ h=>.fz (h.mono hs)
 | arr k rows =>
   obtain⟨rows',h1,h2,h3,h4,h5⟩:=h
   exact⟨rows',h1,h2,h3,fun i r r' hr hr'=>(h4 i r r' hr hr').mono fun x y=>RF.mono hs,h5⟩
 | gone=>cases hf
 | dead=>exact h.elim
theorem LB.at.froz {M Z m a lb} (h:LB.at M Z m a lb) (hf:lb.froz=true):∃ cells,m a=some ⟨cells,true,lb.sz⟩∧LB.rel M Z lb cells:=by
 cases lb with
 | cell row=>exact h
 | arr k rows=>exact h
 | gone=>cases hf
 | dead=>exact h.elim
def adrs (Z:Zl):List Nat:=Z.filterMap (·.1)
theorem adrs_mem {Z:Zl} {a:Nat}:a∈adrs Z↔∃ (i:Nat) (lb:LB),Z[i]?=some (some a,lb):=by
 unfold adrs
 rw[List.mem_filterMap]
 constructor
 ·rintro⟨⟨a',lb⟩,h1,h2⟩
  obtain⟨i,hi⟩:=List.mem_iff_getElem?.1 h1
  simp only at h2
  subst h2
  exact⟨i,lb,hi⟩
 ·rintro⟨i,lb,h⟩
  exact⟨(some a,lb),List.mem_of_getElem? h,rfl⟩
structure Lent (bs n:Nat) (Ma m:Mem) (Z0:Zl) (L:List LB):Prop where
 hL:Z0.map (·.2)=L
 low:∀ a,a∈adrs Z0→bs≤a∧a<n∧Ma a=none
 nil:∀ (i:Nat) lb,Z0[i]?=some (none,lb)→lb=.dead∨∃ k,lb=.arr k []
 inj:∀ (i j:Nat) a lb lb',Z0[i]?=some (some a,lb)→Z0[j]?=some (some a,lb')→i=j
 cell:∀ (i:Nat) a lb,Z0[i]?=some (some a,lb)→∃ cells,m a=some ⟨cells,true,lb.sz⟩∧lb.rel Ma Z0 cells
structure Back (n n1:Nat) (Ma m m1:Mem) (Z0:Zl) (M1:Mem) (Z1:Zl):Prop where
 cell:∀ (i:Nat) a lb,Z1[i]?=some (some a,lb)→(a∈adrs Z0∨n≤a)∧a<n1∧∃ cells,m1 a=some ⟨cells,true,lb.sz⟩∧lb.rel M1 Z1 cells
 froz:∀ (i:Nat) p,Z1[i]?=some p→p.2.froz=true
 nil:∀ (i:Nat) lb,Z1[i]?=some (none,lb)→lb=.dead∨∃ k,lb=.arr k []
 inj:∀ (i j:Nat) a lb lb',Z1[i]?=some (some a,lb)→Z1[j]?=some (some a,lb')→i=j
 hM:∀ b x,M1 b=some x→m1 b=some x∧(Ma b=some x∨n≤b)∧∀ (i:Nat) lb,Z1[i]?≠some (some b,lb)
 hma:sub Ma M1
 keep:∀ b x,b∉adrs Z0→m b=some x→m1 b=some x
 ext:∀ (b:Nat) p,Z0[b]?=some p→∃ p1,Z1[b]?=some p1∧grow p p1
 lo:∀ (i:Nat) a lb,Z1[i]?=some (some a,lb)→n≤a∨∃ lb0,Z0[i]?=some (some a,lb0)
structure GV (G:Prg) (f:Nat) (L0:List LB) (vargs:List V) (post:V→List LB→Prop):Prop where
 run:∀ args bs m n Ma Z0,Fresh m n→bs≤n→sub Ma m→Lent bs n Ma m Z0 L0→Pt (RL Ma Z0) vargs args →
  CallW G f args bs m n fun v m1 n1=>∃ u M1 Z1,RL M1 Z1 u v∧post u (Z1.map (·.2))∧Back n n1 Ma m m1 Z0 M1 Z1
def RetG (r:Nat) (res:List RV) (post:V→List LB→Prop) (e:Ex) (tl:Tl) (L:List LB):Prop:=
 (e=.normal∨e=.ret)∧∃ v u u' L1 K,retV tl L res=some v∧V.ren (posN (List.range r++K)) 6 v=some u∧Wk u u'∧mapO (fun i=>L[i]?) (List.range r++K)=some L1∧L1.all LB.froz=true∧(List.range r++K).Nodup∧post u' L1
theorem gv_in {G f body res L0 vargs post} (hG:G f=some ⟨body,res⟩) (h:VC L0.length G body (RetG L0.length res post) (tlOf 0 vargs) L0):GV G f L0 vargs post:=by
 refine⟨fun args bs m n Ma Z0 hF hb hs hA hp=>?_⟩
 have hZl:Z0.length=L0.length:=by rw[←hA.hL];simp
 have hM:StM (N:=L0.length) ⟨fun b=>if b∈adrs Z0 then none else m b,Ma,n,bs,adrs Z0,Z0.map (·.1),Nat.le_of_eq (by rw[List.length_map,hZl])⟩ Z0 Ma L0 m n:=by
  refine⟨hb,Nat.le_refl _,hF,hA.hL,fun b x hx=>⟨hs b x hx,.inl hx,fun i lb e=>?_⟩,fun b x hx=>?_,fun b hb'=>?_,sub_refl _,fun a ha=>⟨(hA.low a ha).1,if_pos ha,(hA.low a ha).2.1⟩,fun i a lb e=>?_,hA.nil,hA.inj,fun i a lb e=>.inr (by rw[List.getElem?_map,e];rfl)⟩
  ·rw[(hA.low b (adrs_mem.2 ⟨i,lb,e⟩)).2.2] at hx;cases hx
  ·simp only at hx
   split at hx
   ·cases hx
   ·exact hx
  ·simp only
   split
   ·rfl
   ·exact hF b hb'
  ·have hm:=adrs_mem.2 ⟨i,lb,e⟩
   obtain⟨cells,h1,h2⟩:=hA.cell i a lb e
   exact⟨.inr hm,(hA.low a hm).2.1,.of h1 h2⟩
 have hS:Slots Ma Z0 (tlOf 0 vargs) (tm0 args):=fun t v hv=>by
  obtain⟨_,x,h1,h2⟩:=tlOf_rel hp hv
  have:tm0 args t=x:=by simp only[tm0,List.getD];rw[show t=t-0 from rfl,h1];rfl
  rw[this];exact h2
 obtain⟨e,tm1,m1,n1,Z1,M1,tl1,L1,hb1,he,hM1,hS1,hex,v,u0,u,L2,K,h1,h2,hwk,h3,h4,h5,h6⟩:=h _ _ _ _ _ _ hM hS
 obtain⟨x,g1,g2⟩:=retV_rel hM1 hS1 h1
 obtain⟨k1,k2⟩:=mapO_inv h3
 have hget:∀ (i:Nat) j,(List.range L0.length++K)[i]?=some j→∃ p,Z1[j]?=some p∧L2[i]?=some p.2:=by
  intro i j hij
  obtain⟨lb,q1,q2⟩:=k2 i j hij
  obtain⟨a,ha⟩:=hM1.getZ q1
  exact⟨_,ha,q2⟩
 obtain⟨Z2,hZ2⟩:∃ Z2:Zl,mapO (fun i=>Z1[i]?) (List.range L0.length++K)=some Z2:=by
  have gen:∀ l:List Nat,(∀ j,j∈l→∃ p,Z1[j]?=some p)→∃ Z2:Zl,mapO (fun i=>Z1[i]?) l=some Z2:=by
   intro l
   induction l with
   | nil=>exact fun _=>⟨[],rfl⟩
   | cons j l ih =>
     intro hl
     obtain⟨p,hp⟩:=hl j (List.mem_cons_self ..)
     obtain⟨Z2,h2⟩:=ih fun j' hj'=>hl j' (List.mem_cons_of_mem _ hj')
     exact⟨p::Z2,by simp only[mapO,hp,h2]⟩
  refine gen _ fun j hj=>?_
  obtain⟨i,hi⟩:=List.mem_iff_getElem?.1 hj
  obtain⟨p,hp,_⟩:=hget i j hi
  exact⟨p,hp⟩
 obtain⟨z1,z2⟩:=mapO_inv hZ2
 have hz:∀ (i:Nat) p,Z2[i]?=some p→∃ j,(List.range L0.length++K)[i]?=some j∧Z1[j]?=some p:=by
  intro i p hp
  have hi:i<(List.range L0.length++K).length:=by rw[←z1];exact(List.getElem?_eq_some_iff.1 hp).1
  obtain⟨y,q1,q2⟩:=z2 i _ (List.getElem?_eq_getElem hi)
  rw[hp] at q2;cases q2
  exact⟨_,List.getElem?_eq_getElem hi,q1⟩
 have hL2:Z2.map (·.2)=L2:=by
  apply List.ext_getElem?
  intro i
  rw[List.getElem?_map]
  by_cases hi:i<(List.range L0.length++K).length
  ·obtain⟨p,q1,q2⟩:=hget i _ (List.getElem?_eq_getElem hi)
   obtain⟨y,q3,q4⟩:=z2 i _ (List.getElem?_eq_getElem hi)
   rw[q1] at q3;cases q3
   rw[q4,q2];rfl
  ·rw[List.getElem?_eq_none (by omega),List.getElem?_eq_none (by omega)];rfl
 refine⟨x,m1,n1,.call hG hb1 hex g1,u,M1,Z2,hwk.relL _ (ren_rel (sub_refl _) (fun b b' p hs hp=>?_) 6 v u0 x h2 g2),by rw[hL2];exact h6,?_⟩
 ·obtain⟨y,q1,q2⟩:=z2 _ _ (posN_inv hs)
  rw[hp] at q1;cases q1
  exact⟨p,q2,grow.refl p⟩
 ·have hf:∀ (i:Nat) p,Z2[i]?=some p→p.2.froz=true:=fun i p hp=>by
   have:L2[i]?=some p.2:=by rw[←hL2,List.getElem?_map,hp];rfl
   exact List.all_eq_true.1 h4 _ (List.mem_of_getElem? this)
  refine⟨fun i a lb hi=>?_,hf,fun i lb hi=>?_,fun i j a l1 l2 e1 e2=>?_,fun b y hb'=>?_,hM1.hma,fun b y hb' hy=>?_,fun b p hp=>?_,fun i a lb hi=>?_⟩
  ·obtain⟨j,q1,q2⟩:=hz i _ hi
   obtain⟨q3,q4,q7⟩:=hM1.cell j a lb q2
   obtain⟨cells,q5,q6⟩:=q7.froz (hf i _ hi)
   exact⟨q3.symm,q4,cells,q5,LB.froz_rel q6 (hf i _ hi) (sub_refl _) _⟩
  ·obtain⟨j,q1,q2⟩:=hz i _ hi
   exact hM1.nl j lb q2
  ·obtain⟨j1,q1,q2⟩:=hz i _ e1
   obtain⟨j2,q3,q4⟩:=hz j _ e2
   have hj:=hM1.inj j1 j2 a l1 l2 q2 q4
   subst hj
   exact(List.getElem?_inj (List.getElem?_eq_some_iff.1 q1).1 h5).1 (q1.trans q3.symm)
  ·obtain⟨q1,q2,q3⟩:=hM1.hM b y hb'
   refine⟨q1,q2,fun i lb e=>?_⟩
   obtain⟨j,_,q4⟩:=hz i _ e
   exact q3 j lb q4
  ·exact hM1.h0 b y (by show(if b∈adrs Z0 then none else m b)=some y;rw[if_neg hb'];exact hy)
  ·obtain⟨p1,q1,q2⟩:=he.hZ b p (by rw[←hZl];exact(List.getElem?_eq_some_iff.1 hp).1) hp
   have hbl:b<L0.length:=by rw[←hZl];exact(List.getElem?_eq_some_iff.1 hp).1
   obtain⟨y,q3,q4⟩:=z2 b b (by rw[List.getElem?_append_left (by simpa using hbl)];simp [hbl])
   rw[q1] at q3;cases q3
   exact⟨p1,q4,q2⟩
  ·obtain⟨j,q1,q2⟩:=hz i _ hi
   rcases hM1.lo j a lb q2 with h8|h8
   ·exact .inl h8
   ·have h8:(Z0.map (·.1))[j]?=some (some a):=h8
    rw[List.getElem?_map] at h8
    cases e8:Z0[j]? with
    | none=>rw[e8] at h8;cases h8
    | some p0 =>
      rw[e8] at h8
      obtain⟨a0,lb0⟩:=p0
      simp only[Option.map_some,Option.some.injEq] at h8
      subst h8
      have hjl:j<L0.length:=by rw[←hZl];exact(List.getElem?_eq_some_iff.1 e8).1
      have hjj:(List.range L0.length++K)[j]?=some j:=by rw[List.getElem?_append_left (by simpa using hjl)];simp [hjl]
      have:i=j:=(List.getElem?_inj (List.getElem?_eq_some_iff.1 q1).1 h5).1 (q1.trans hjj.symm)
      subst this
      exact .inr ⟨lb0,e8⟩
def mergeF {α:Type} (X X1:List α) (ρ:List Nat) (j:Nat):Option α:=match posN ρ j with
 | some i=>X1[i]?
 | none=>match Nat.blt j X.length with
   | true=>X[j]?
   | false=>X1[ρ.length+(j-X.length)]?
def mergeG {α:Type} (X X1:List α) (ρ:List Nat):Option (List α):=mapO (mergeF X X1 ρ) (List.range (X.length+(X1.length-ρ.length)))
def backN (ρ:List Nat) (n:Nat) (i:Nat):Option Nat:=match Nat.blt i ρ.length with
 | true=>ρ[i]?
 | false=>some (n+(i-ρ.length))
theorem mapO_snd {Z:List Nat} {f:Nat→Option (Option Nat×LB)} {g:Nat→Option LB} (hfg:∀ j,(f j).map (·.2)=g j):∀ {l:List Nat} {L:List LB},mapO g l=some L→∃ Z:Zl,mapO f l=some Z∧Z.map (·.2)=L
 | [],L,h=>by simp [mapO] at h;subst h;exact⟨[],rfl,rfl⟩
 | j::l,L,h=>by
   simp only[mapO] at h
   split at h
   ·rename_i y r e1 e2
    cases h
    obtain⟨Z',h1,h2⟩:=mapO_snd (Z:=Z) hfg e2
    have:=hfg j
    rw[e1] at this
    cases e:f j with
    | none=>rw[e] at this;cases this
    | some p=>rw[e] at this;cases this;exact⟨p::Z',by simp only[mapO,e,h1],by simp [h2]⟩
   ·cases h
theorem mergeF_snd (Z Z1:Zl) (ρ:List Nat) (j:Nat):(mergeF Z Z1 ρ j).map (·.2)=mergeF (Z.map (·.2)) (Z1.map (·.2)) ρ j:=by
 unfold mergeF
 cases posN ρ j with
 | some i=>simp
 | none =>
   simp only[List.length_map]
   cases Nat.blt j Z.length <;> simp
theorem merge_st {N:Nat} {c:Cx N} {Z:Zl} {M:Mem} {L:List LB} {m:Mem} {n:Nat} (hM:StM c Z M L m n) {m1:Mem} {n1:Nat} (hn:n≤n1) (hf:Fresh m1 n1) (hdom:∀ (i:Nat) b lb,Z[i]?=some (some b,lb)→m b=none→m1 b=none) {ρ:List Nat} (hnd:ρ.Nodup) {Z0 Z1:Zl} (hZ0:mapO (fun i=>Z[i]?) ρ=some Z0) {M2:Mem} (hs:sub M M2)
 (hM2:∀ b x,M2 b=some x→m1 b=some x∧(M b=some x∨n≤b)∧∀ (i:Nat) lb,Z1[i]?≠some (some b,lb))
 (hcell:∀ (i:Nat) a lb,Z1[i]?=some (some a,lb)→(a∈adrs Z0∨n≤a)∧a<n1∧∃ cells,m1 a=some ⟨cells,true,lb.sz⟩∧∀ Z',lb.rel M2 Z' cells)
 (hnil:∀ (i:Nat) lb,Z1[i]?=some (none,lb)→lb=.dead∨∃ k,lb=.arr k []) (hinj:∀ (i j:Nat) a lb lb',Z1[i]?=some (some a,lb)→Z1[j]?=some (some a,lb')→i=j)
 (hkeep:∀ b x,b∉adrs Z0→m b=some x→m1 b=some x) (hext:∀ (b:Nat) p,Z0[b]?=some p→∃ p1,Z1[b]?=some p1∧grow p p1) (hlo:∀ (i:Nat) a lb,Z1[i]?=some (some a,lb)→n≤a∨∃ lb0,Z0[i]?=some (some a,lb0)) {L':List LB} (hL':mergeG L (Z1.map (·.2)) ρ=some L') :
 ∃ Z',StM c Z' M2 L' m1 n1∧ExtV Z M Z' M2∧(∀ (i i':Nat) p,backN ρ L.length i=some i'→Z1[i]?=some p→Z'[i']?=some p)∧∀ (j:Nat) p,Z'[j]?=some p→(∃ i:Nat,Z1[i]?=some p)∨Z[j]?=some p:=by
 obtain⟨k1,k2⟩:=mapO_inv hZ0
 have hZL:=hM.lenZ
 have hrho:ρ.length≤Z1.length:=by
  rw[←k1]
  rcases Nat.lt_or_ge Z1.length Z0.length with h|h
  ·obtain⟨p1,h1,_⟩:=hext Z1.length _ (List.getElem?_eq_getElem h)
   simp at h1
  ·exact h
 have hg:mapO (mergeF (Z.map (·.2)) (Z1.map (·.2)) ρ) (List.range (Z.length+(Z1.length-ρ.length)))=some L':=by
  rw[←hM.hL] at hL'
  unfold mergeG at hL'
  simpa using hL'
 obtain⟨Z',hZ',hsnd⟩:=mapO_snd (Z:=[]) (f:=mergeF Z Z1 ρ) (mergeF_snd Z Z1 ρ) hg
 obtain⟨z1,z2⟩:=mapO_inv hZ'
 have hat:∀ (j:Nat) p,Z'[j]?=some p→mergeF Z Z1 ρ j=some p∧j<Z.length+(Z1.length-ρ.length):=by
  intro j p hp
  have hj:j<Z.length+(Z1.length-ρ.length):=by have:=(List.getElem?_eq_some_iff.1 hp).1;simp at z1;omega
  obtain⟨y,q1,q2⟩:=z2 j j (by simp [hj])
  rw[hp] at q2;cases q2
  exact⟨q1,hj⟩
 have hto:∀ (j:Nat),j<Z.length+(Z1.length-ρ.length)→∃ p,mergeF Z Z1 ρ j=some p∧Z'[j]?=some p:=by
  intro j hj
  obtain⟨y,q1,q2⟩:=z2 j j (by simp [hj])
  exact⟨y,q1,q2⟩
 have kinds:∀ (j:Nat) p,Z'[j]?=some p→(∃ i:Nat,ρ[i]?=some j∧Z1[i]?=some p)∨(j∉ρ∧Z[j]?=some p)∨(Z.length≤j∧Z1[ρ.length+(j-Z.length)]?=some p):=by
  intro j p hp
  obtain⟨h1,_⟩:=hat j p hp
  unfold mergeF at h1
  cases e:posN ρ j with
  | some i=>rw[e] at h1;exact .inl ⟨i,posN_inv e,h1⟩
  | none =>
    rw[e] at h1
    simp only at h1
    cases e2:Nat.blt j Z.length with
    | true=>rw[e2] at h1;exact .inr (.inl ⟨posN_none e,h1⟩)
    | false =>
      rw[e2] at h1
      refine .inr (.inr ⟨?_,h1⟩)
      rcases Nat.lt_or_ge j Z.length with h|h
      ·have:=(Nat.blt_eq (x:=j) (y:=Z.length)) ▸ h
       rw[←Nat.blt_eq] at h;rw[h] at e2;cases e2
      ·exact h
 have hρZ:∀ (i:Nat) j,ρ[i]?=some j→∃ p,Z[j]?=some p∧Z0[i]?=some p:=fun i j hij=>by
  obtain⟨y,q1,q2⟩:=k2 i j hij
  exact⟨y,q1,q2⟩
 have hA:∀ a,a∈adrs Z0→∃ (j:Nat) (lb:LB),j∈ρ∧Z[j]?=some (some a,lb):=by
  intro a ha
  obtain⟨i,lb,hi⟩:=adrs_mem.1 ha
  have hi2:i<ρ.length:=by rw[←k1];exact(List.getElem?_eq_some_iff.1 hi).1
  obtain⟨p,q1,q2⟩:=hρZ i _ (List.getElem?_eq_getElem hi2)
  rw[hi] at q2;cases q2
  exact⟨_,lb,List.getElem_mem hi2,q1⟩
 have hout:∀ (j:Nat) a lb,j∉ρ→Z[j]?=some (some a,lb)→a∉adrs Z0∧a<n:=by
  intro j a lb hj hz
  refine⟨fun ha=>?_,(hM.cell j a lb hz).2.1⟩
  obtain⟨j',lb',h1,h2⟩:=hA a ha
  have:=hM.inj j j' a lb lb' hz h2
  subst this;exact hj h1
 have hE:ExtV Z M Z' M2:=by
  refine⟨hs,fun b p hp=>?_⟩
  have hb:b<Z.length:=(List.getElem?_eq_some_iff.1 hp).1
  obtain⟨p',h1,h2⟩:=hto b (by omega)
  unfold mergeF at h1
  cases e:posN ρ b with
  | some i =>
    rw[e] at h1
    obtain⟨q,q1,q2⟩:=hρZ i b (posN_inv e)
    rw[hp] at q1;cases q1
    obtain⟨p1,g1,g2⟩:=hext i p q2
    have h1:Z1[i]?=some p':=h1
    rw[g1] at h1;cases h1
    exact⟨_,h2,g2⟩
  | none =>
    rw[e] at h1
    have hbl:Nat.blt b Z.length=true:=by rw[Nat.blt_eq];exact hb
    simp only[hbl] at h1
    rw[hp] at h1;cases h1
    exact⟨_,h2,grow.refl _⟩
 refine⟨Z',⟨hM.hbs,by have:=hM.hn;omega,hf,hsnd,fun b x hb=>?_,fun b x hb=>?_,hM.f0,sub_trans hM.hma hs,hM.hbr,fun j a lb hj=>?_,fun j lb hj=>?_,fun j j' a l1 l2 e1 e2=>?_,fun j a lb hj=>?_⟩,hE,fun i i' p hb hi=>?_,fun j p hj=>(kinds j p hj).elim (fun ⟨i,_,q⟩=>.inl ⟨i,q⟩) fun h=>h.elim (fun ⟨_,q⟩=>.inr q) fun ⟨_,q⟩=>.inl ⟨_,q⟩⟩
 ·obtain⟨h1,h2,h3⟩:=hM2 b x hb
  refine⟨h1,?_,fun j lb e=>?_⟩
  ·rcases h2 with h2|h2
   ·exact(hM.hM b x h2).2.1
   ·exact .inr (by have:=hM.hn;omega)
  ·rcases kinds j _ e with⟨i,_,q⟩|⟨_,q⟩|⟨_,q⟩
   ·exact h3 _ _ q
   ·rcases h2 with h2|h2
    ·exact(hM.hM b x h2).2.2 _ _ q
    ·have:=(hM.cell _ _ _ q).2.1;omega
   ·exact h3 _ _ q
 ·refine hkeep b x (fun ha=>?_) (hM.h0 b x hb)
  obtain⟨j,lb,_,q⟩:=hA b ha
  have:=hM.m0A (hM.cell _ _ _ q).1
  rw[this] at hb;cases hb
 ·have new:∀ i:Nat,Z1[i]?=some (some a,lb)→c.okA a∧a<n1∧lb.at M2 Z' m1 a:=by
   intro i q
   obtain⟨h1,h2,cells,h3,h4⟩:=hcell _ _ _ q
   refine⟨?_,h2,.of h3 (h4 _)⟩
   rcases h1 with h1|h1
   ·obtain⟨j',lb',_,q'⟩:=hA a h1
    exact(hM.cell _ _ _ q').1
   ·exact .inl (by have:=hM.hn;omega)
  rcases kinds j _ hj with⟨i,_,q⟩|⟨hno,q⟩|⟨_,q⟩
  ·exact new _ q
  ·obtain⟨h1,h2,h3⟩:=hM.cell _ _ _ q
   refine⟨h1,by omega,h3.mono hE ?_⟩
   cases e:m a with
   | none=>exact hdom j a lb q e
   | some x=>exact hkeep _ _ (hout _ _ _ hno q).1 e
  ·exact new _ q
 ·rcases kinds j _ hj with⟨i,_,q⟩|⟨hno,q⟩|⟨_,q⟩
  ·exact hnil _ _ q
  ·exact hM.nl _ _ q
  ·exact hnil _ _ q
 ·have cross:∀ (i:Nat) (j:Nat) lb lb',Z1[i]?=some (some a,lb)→j∉ρ→Z[j]?=some (some a,lb')→False:=by
   intro i j lb lb' q1 hno q2
   obtain⟨h1,h2⟩:=hout _ _ _ hno q2
   rcases(hcell _ _ _ q1).1 with h|h
   ·exact h1 h
   ·omega
  rcases kinds j _ e1 with⟨i,r1,q⟩|⟨hno,q⟩|⟨hge,q⟩ <;> rcases kinds j' _ e2 with⟨i',r2,q'⟩|⟨hno',q'⟩|⟨hge',q'⟩
  ·have:=hinj _ _ _ _ _ q q';subst this;rw[r1] at r2;cases r2;rfl
  ·exact(cross _ _ _ _ q hno' q').elim
  ·have:=hinj _ _ _ _ _ q q';have:=(List.getElem?_eq_some_iff.1 r1).1;omega
  ·exact(cross _ _ _ _ q' hno q).elim
  ·exact hM.inj _ _ _ _ _ q q'
  ·exact(cross _ _ _ _ q' hno q).elim
  ·have:=hinj _ _ _ _ _ q q';have:=(List.getElem?_eq_some_iff.1 r2).1;omega
  ·exact(cross _ _ _ _ q hno' q').elim
  ·have:=hinj _ _ _ _ _ q q';omega
 ·have hcn:=hM.hn
  rcases kinds j _ hj with⟨i,r1,q⟩|⟨hno,q⟩|⟨hge,q⟩
  ·rcases hlo _ _ _ q with h8|⟨lb0,h8⟩
   ·exact .inl (by omega)
   ·obtain⟨p,g1,g2⟩:=hρZ i j r1
    rw[h8] at g2;cases g2
    exact hM.lo j a lb0 g1
  ·exact hM.lo j a lb q
  ·rcases hlo _ _ _ q with h8|⟨lb0,h8⟩
   ·exact .inl (by omega)
   ·have:=(List.getElem?_eq_some_iff.1 h8).1;omega
 ·unfold backN at hb
  cases e:Nat.blt i ρ.length with
  | true =>
    rw[e] at hb
    have hb:ρ[i]?=some i':=hb
    obtain⟨q,q1,q2⟩:=hρZ i i' hb
    have hi':i'<Z.length:=(List.getElem?_eq_some_iff.1 q1).1
    obtain⟨p',h1,h2⟩:=hto i' (by omega)
    unfold mergeF at h1
    cases e3:posN ρ i' with
    | none=>exact absurd (List.mem_of_getElem? hb) (posN_none e3)
    | some i2 =>
      rw[e3] at h1
      have:=posN_inv e3
      have hi2:i2=i:=(List.getElem?_inj (List.getElem?_eq_some_iff.1 this).1 hnd).1 (this.trans hb.symm)
      subst hi2
      have h1:Z1[i2]?=some p':=h1
      rw[hi] at h1;cases h1
      exact h2
  | false =>
    rw[e] at hb
    cases hb
    have hge:ρ.length≤i:=by
     rcases Nat.lt_or_ge i ρ.length with h|h
     ·rw[←Nat.blt_eq] at h;rw[h] at e;cases e
     ·exact h
    have hi1:=(List.getElem?_eq_some_iff.1 hi).1
    obtain⟨p',h1,h2⟩:=hto (L.length+(i-ρ.length)) (by omega)
    unfold mergeF at h1
    cases e3:posN ρ (L.length+(i-ρ.length)) with
    | some i2 =>
      obtain⟨q,q1,_⟩:=hρZ _ _ (posN_inv e3)
      have:=(List.getElem?_eq_some_iff.1 q1).1
      omega
    | none =>
      rw[e3] at h1
      have hb2:Nat.blt (L.length+(i-ρ.length)) Z.length=false:=by
       cases e4:Nat.blt (L.length+(i-ρ.length)) Z.length with
       | false=>rfl
       | true=>rw[Nat.blt_eq] at e4;omega
      simp only[hb2] at h1
      have e5:ρ.length+(L.length+(i-ρ.length)-Z.length)=i:=by omega
      rw[e5,hi] at h1;cases h1
      exact h2
section
variable {N : Nat} {G : Prg} {tl : Tl} {L : List LB} {K : Tl → List LB → Prop} {l : List IOp} {q : Bool} {d : Nat}
theorem callG_core {f es us vargs L0} {post:V→List LB→Prop} {R:V→List LB→Prop} (ρ:List Nat) (ha:evEs tl es=some us) (hr:rens (V.ren (posN ρ) 6) us=some vargs) (hL0:mapO (fun i=>L[i]?) ρ=some L0) (hfz:L0.all LB.froz=true) (hnd:ρ.Nodup) (hq:q=false∨ρ=[])
 (hc:GV G f L0 vargs post) (k:∀ u L1,post u L1→∃ L' u',mergeG L L1 ρ=some L'∧V.ren (backN ρ L.length) 6 u=some u'∧R u' L')
 {c:Cx N} {Z M tm m n} (hM:StM c Z M L m n) (hS:Slots M Z tl tm):∃ v m1 n1 Z' M1 u' L',Big G (if q=true then n else c.bs) (.call f (es.map (·.ev tm))) m n (.ret v) m1 n1∧ExtV Z M Z' M1∧StM c Z' M1 L' m1 n1∧RL M1 Z' u' v∧R u' L':=by
 have hpt:=evEs_rel hS ha
 rw[←hM.hL] at hL0
 obtain⟨Z0,hZ0,hsnd⟩:=mapO_snd (Z:=[]) (f:=fun i=>Z[i]?) (g:=fun i=>(Z.map (·.2))[i]?) (fun j=>by simp) hL0
 obtain⟨k1,k2⟩:=mapO_inv hZ0
 have hz0:∀ (i:Nat) p,Z0[i]?=some p→∃ j,ρ[i]?=some j∧Z[j]?=some p:=fun i p hp=>by
  have hi:i<ρ.length:=by rw[←k1];exact(List.getElem?_eq_some_iff.1 hp).1
  obtain⟨y,q1,q2⟩:=k2 i _ (List.getElem?_eq_getElem hi)
  rw[hp] at q2;cases q2
  exact⟨_,List.getElem?_eq_getElem hi,q1⟩
 have hbs:(if q=true then n else c.bs)≤n:=by
  have h1:=hM.hbs;have h2:=hM.hn
  split <;> omega
 have hLent:Lent (if q=true then n else c.bs) n M m Z0 L0:=by
  refine⟨hsnd,fun a ha'=>?_,fun i lb hi=>?_,fun i j a l1 l2 e1 e2=>?_,fun i a lb hi=>?_⟩
  ·obtain⟨i,lb,hi⟩:=adrs_mem.1 ha'
   obtain⟨j,h1,h2⟩:=hz0 i _ hi
   obtain⟨g1,g2,_⟩:=hM.cell _ _ _ h2
   have hqf:q=false:=by
    rcases hq with hq|hq
    ·exact hq
    ·subst hq;simp at h1
   subst hqf
   refine⟨by simpa using hM.bsA g1,g2,?_⟩
   cases e:M a with
   | none=>rfl
   | some x=>exact absurd h2 ((hM.hM a x e).2.2 _ _)
  ·obtain⟨j,_,h2⟩:=hz0 i _ hi
   exact hM.nl _ _ h2
  ·obtain⟨j1,h1,h2⟩:=hz0 i _ e1
   obtain⟨j2,h3,h4⟩:=hz0 j _ e2
   have:=hM.inj _ _ _ _ _ h2 h4
   subst this
   exact(List.getElem?_inj (List.getElem?_eq_some_iff.1 h1).1 hnd).1 (h1.trans h3.symm)
  ·obtain⟨j,h1,h2⟩:=hz0 i _ hi
   obtain⟨_,_,g5⟩:=hM.cell _ _ _ h2
   have hfr:lb.froz=true:=List.all_eq_true.1 hfz _ (by rw[←hsnd];exact List.mem_map.2 ⟨_,List.mem_of_getElem? hi,rfl⟩)
   obtain⟨cells,g3,g4⟩:=g5.froz hfr
   exact⟨cells,g3,LB.froz_rel g4 hfr (sub_refl _) _⟩
 have hp:Pt (RL M Z0) vargs (es.map (·.ev tm)):=rens_rel (ren_rel (sub_refl _) (fun b b' p hs hz=>by
  obtain⟨y,q1,q2⟩:=k2 _ _ (posN_inv hs)
  rw[hz] at q1;cases q1
  exact⟨p,q2,grow.refl p⟩) 6) hr hpt
 obtain⟨v,m1,n1,hb,u,M1,Z1,g1,g2,B⟩:=hc.run _ _ m n M Z0 hM.fresh hbs hM.subM hLent hp
 obtain⟨hn,hf⟩:=hb.fresh hM.fresh
 obtain⟨L',u',hL',hu',k'⟩:=k u _ g2
 obtain⟨Z',hM',hE,hback,_⟩:=merge_st hM hn hf (fun _ _ _ hz e=>hb.dom _ (hM.cell _ _ _ hz).2.1 e) hnd hZ0 B.hma B.hM (fun i a lb hi=>by
  obtain⟨h1,h2,cells,h3,h4⟩:=B.cell i a lb hi
  exact⟨h1,h2,cells,h3,fun Z'=>LB.froz_rel h4 (B.froz i _ hi) (sub_refl _) Z'⟩) B.nil B.inj B.keep B.ext B.lo hL'
 have hrel:RL M1 Z' u' v:=ren_rel (sub_refl _) (fun b b' p hs hz=>⟨p,hback _ _ _ hs hz,grow.refl p⟩) 6 u u' v hu' g1
 exact⟨v,m1,n1,Z',M1,u',L',hb,hE,hM',hrel,k'⟩
theorem Fg {f es us vargs L0} {post:V→List LB→Prop} (ρ:List Nat) (ha:evEs tl es=some us) (hr:rens (V.ren (posN ρ) 6) us=some vargs) (hL0:mapO (fun i=>L[i]?) ρ=some L0) (hfz:L0.all LB.froz=true) (hnd:ρ.Nodup) (hq:q=false∨ρ=[])
 (hc:GV G f L0 vargs post) (k:∀ u L1,post u L1→∃ L' u',mergeG L L1 ρ=some L'∧V.ren (backN ρ L.length) 6 u=some u'∧VO N G l K ((d,u')::tl) L'):VO N G (⟨some d,.call f es,none,q⟩::l) K tl L:=by
 intro c Z M tm m n hM hS
 obtain⟨v,m1,n1,Z',M1,u',L',hb,hE,hM',hrel,k'⟩:=callG_core (q:=q) ρ ha hr hL0 hfz hnd hq hc k hM hS
 obtain⟨tm2,m2,n2,Z2,M3,tl2,L2,hb2,he2,r⟩:=k' c Z' M1 (upd tm d v) m1 n1 hM' ((hS.mono hE).put hrel)
 exact⟨tm2,m2,n2,Z2,M3,tl2,L2,op_run (o:=⟨some d,.call f es,none,q⟩) rfl (.inr ⟨f,_,rfl,hb⟩) hb2,hE.trans he2,r⟩
def V.refs:Nat→V→Bool
 | 0,_=>false
 | fu+1,v=>match v with
   | .w _|.cp .. | .ls .. | .ap .. | .raw _=>true
   | .agg cs=>cs.all (V.refs fu)
   | .tup cs=>cs.all (V.refs fu)
   | _=>false
theorem V.refs_rel {M M':Mem} {Z:Zl}:∀ {fu v x},RL M Z v x→V.refs fu v=true→RL M' Z v x
 | 0,v,x,h,hb=>by cases hb
 | fu+1,v,x,h,hb=>by
   have all:∀ {cs:List V},cs.all (V.refs fu)=true→∀ (i:Nat) u,cs[i]?=some u→V.refs fu u=true:=fun h i u hu=>List.all_eq_true.1 h u (List.mem_of_getElem? hu)
   cases v with
   | w v=>obtain⟨rfl,hf⟩:=h.w_inv;exact .fz (.w hf)
   | raw v=>obtain⟨rfl,hf⟩:=h.raw_inv;exact .fz (.raw hf)
   | agg cs =>
     obtain⟨vs,rfl,hl,hh⟩:=h.agg_inv
     exact .agg hl fun i u y h1 h2=>V.refs_rel (hh i u y h1 h2) (all hb i u h1)
   | tup cs =>
     obtain⟨vs,rfl,hl,hh⟩:=h.tup_inv
     exact .tup hl fun i u y h1 h2=>V.refs_rel (hh i u y h1 h2) (all hb i u h1)
   | cp b off=>cases h with
     | fz h=>cases h
     | cp hz hc=>exact .cp hz hc
   | ap b len j off=>cases h with
     | fz h=>cases h
     | ap hz h1 h2 h3=>exact .ap hz h1 h2 h3
     | apD hz h1=>exact .apD hz h1
   | ls b len=>cases h with
     | fz h=>cases h
     | ls hz h1 h2 h3=>exact .ls hz h1 h2 h3
     | lsD hz h1=>exact .lsD hz h1
   | _=>cases hb
def LB.words:LB→Prop
 | .cell row=>∀ v,v∈row→∃ x,v=.w x
 | .arr _ rows=>∀ r,r∈rows→∀ v,v∈r→∃ x,v=.w x
 | .gone=>True
 | .dead=>True
theorem words_pt {M M':Mem} {r:List V} {r':List Value} (h:Pt (RF M) r r') (hw:∀ v,v∈r→∃ x,v=.w x):Pt (RF M') r r':=
 ⟨h.1,fun i x y h1 h2=>by
   obtain⟨z,rfl⟩:=hw x (List.mem_of_getElem? h1)
   have:=h.2 i _ y h1 h2
   cases this with
   | w h=>exact .w h⟩
theorem LB.words_rel {M M':Mem} {Z Z':Zl} {lb cells} (h:LB.rel M Z lb cells) (hw:lb.words):LB.rel M' Z' lb cells:=by
 cases lb with
 | cell row =>
   refine⟨h.1,fun i x y h1 h2=>?_⟩
   obtain⟨z,rfl⟩:=hw x (List.mem_of_getElem? h1)
   obtain⟨rfl,hf⟩:=(h.2 i _ y h1 h2).w_inv
   exact .fz (.w hf)
 | arr k rows =>
   obtain⟨rows',h1,h2,h3,h4,h5⟩:=h
   exact⟨rows',h1,h2,h3,fun i r r' hr hr'=>words_pt (h4 i r r' hr hr') (hw r (List.mem_of_getElem? hr)),h5⟩
 | gone=>exact h.elim
 | dead=>exact h.elim
theorem s_callGL {f es us us' p} {post:V→List LB→Prop} (ha:evEs tl es=some us) (hz:frs (fr L 6) us=some (us',p)) (ho:∀ e,e∈p→e.1=e.2)
 (hc:GV G f [] us' post) (k:∀ u L1,post u L1→V.refs 6 u=true∧(∀ lb,lb∈L1→lb.words)∧∃ L' u',mergeG L L1 []=some L'∧V.ren (backN [] L.length) 6 u=some u'∧VO N G l K ((d,u')::tl) L'):VO N G (⟨some d,.call f es,none,q⟩::l) K tl L:=by
 intro c Z M tm m n hM hS
 have hp:Pt (RL m []) us' (es.map (·.ev tm)):=(frs_rel (R:=RL M Z) (fr_rel hM hM.subM (fun _ _ _ _=>rfl) 6) hz ho (evEs_rel hS ha)).mono fun _ _=>.fz
 have hbs:(if q=true then n else c.bs)≤n:=by
  have h1:=hM.hbs;have h2:=hM.hn
  split <;> omega
 have hLent:Lent (if q=true then n else c.bs) n m m [] []:=⟨rfl,fun a ha=>by simp [adrs] at ha,fun i lb h=>by simp at h,fun i j a l1 l2 h=>by simp at h,fun i a lb h=>by simp at h⟩
 obtain⟨v,m1,n1,hb,u,M1,Z1,g1,g2,B⟩:=hc.run _ _ m n m [] hM.fresh hbs (sub_refl _) hLent hp
 obtain⟨hn,hf⟩:=hb.fresh hM.fresh
 obtain⟨hur,hw,L',u',hL',hu',k'⟩:=k u _ g2
 have hZn:∀ (i:Nat) a lb,Z1[i]?=some (some a,lb)→n≤a:=fun i a lb hi=>by
  rcases(B.cell i a lb hi).1 with h|h
  ·simp [adrs] at h
  ·exact h
 obtain⟨Z',hM',hE,hback,_⟩:=merge_st (ρ:=[]) (Z0:=[]) (M2:=M) hM hn hf (fun _ _ _ hz e=>hb.dom _ (hM.cell _ _ _ hz).2.1 e) List.nodup_nil rfl (sub_refl _) (fun b x hb=>by
  have h1:=(hM.hM b x hb).1
  refine⟨B.keep b x (by simp [adrs]) h1,.inl hb,fun i lb e=>?_⟩
  have:=hZn i b lb e
  rw[hM.fresh b this] at h1;cases h1) (fun i a lb hi=>by
  obtain⟨h1,h2,cells,h3,h4⟩:=B.cell i a lb hi
  exact⟨h1,h2,cells,h3,fun Z'=>LB.words_rel h4 (hw lb (List.mem_map.2 ⟨_,List.mem_of_getElem? hi,rfl⟩))⟩) B.nil B.inj B.keep B.ext B.lo hL'
 have hrel:RL M Z' u' v:=ren_rel (sub_refl _) (fun b b' p hs hz=>⟨p,hback _ _ _ hs hz,grow.refl p⟩) 6 u u' v hu' (V.refs_rel g1 hur)
 obtain⟨tm2,m2,n2,Z2,M3,tl2,L2,hb2,he2,r⟩:=k' c Z' M (upd tm d v) m1 n1 hM' ((hS.mono hE).put hrel)
 exact⟨tm2,m2,n2,Z2,M3,tl2,L2,op_run (o:=⟨some d,.call f es,none,q⟩) rfl (.inr ⟨f,_,rfl,hb⟩) hb2,hE.trans he2,r⟩
end
theorem Fv {r res post e tl L v u L1} (K:List Nat) (he:e=.normal∨e=.ret) (h1:retV tl L res=some v) (h2:V.ren (posN (List.range r++K)) 6 v=some u) (h3:mapO (fun i=>L[i]?) (List.range r++K)=some L1) (h4:L1.all LB.froz=true) (h5:(List.range r++K).Nodup) (h:post u L1) :
 RetG r res post e tl L:=⟨he,v,u,u,L1,K,h1,h2,.refl _,h3,h4,h5,h⟩
def maskL:Nat→List LB→List LB
 | 0,L=>L
 | r+1,_::L=>.gone::maskL r L
 | _+1,[]=>[]
theorem maskL_at:∀ {r:Nat} {L:List LB} {i:Nat} {lb:LB},(maskL r L)[i]?=some lb→lb≠.gone→r≤i∧L[i]?=some lb
 | 0,L,i,lb,h,_=>⟨Nat.zero_le _,h⟩
 | r+1,x::L,i,lb,h,hn=>by
   cases i with
   | zero=>simp [maskL] at h;exact absurd h.symm hn
   | succ i =>
     obtain⟨h1,h2⟩:=maskL_at (r:=r) (L:=L) (i:=i) (by simpa[maskL] using h) hn
     exact⟨by omega,by simpa using h2⟩
 | r+1,[],i,lb,h,_=>by simp [maskL] at h
def RetF (r:Nat) (res:List RV) (post:V→List LB→Prop) (e:Ex) (tl:Tl) (L:List LB):Prop:=
 (e=.normal∨e=.ret)∧∃ v u p u',retV tl L res=some v∧fr (maskL r L) 6 v=some (u,p)∧(∀ e,e∈p→e.1=e.2)∧Wk u u'∧(L.take r).all LB.froz=true∧post u' (L.take r)
theorem gv_inF {G f body res L0 vargs post} (hG:G f=some ⟨body,res⟩) (h:VC L0.length G body (RetF L0.length res post) (tlOf 0 vargs) L0):GV G f L0 vargs post:=by
 refine⟨fun args bs m n Ma Z0 hF hb hs hA hp=>?_⟩
 have hZl:Z0.length=L0.length:=by rw[←hA.hL];simp
 have hM:StM (N:=L0.length) ⟨fun b=>if b∈adrs Z0 then none else m b,Ma,n,bs,adrs Z0,Z0.map (·.1),Nat.le_of_eq (by rw[List.length_map,hZl])⟩ Z0 Ma L0 m n:=by
  refine⟨hb,Nat.le_refl _,hF,hA.hL,fun b x hx=>⟨hs b x hx,.inl hx,fun i lb e=>?_⟩,fun b x hx=>?_,fun b hb'=>?_,sub_refl _,fun a ha=>⟨(hA.low a ha).1,if_pos ha,(hA.low a ha).2.1⟩,fun i a lb e=>?_,hA.nil,hA.inj,fun i a lb e=>.inr (by rw[List.getElem?_map,e];rfl)⟩
  ·rw[(hA.low b (adrs_mem.2 ⟨i,lb,e⟩)).2.2] at hx;cases hx
  ·simp only at hx
   split at hx
   ·cases hx
   ·exact hx
  ·simp only
   split
   ·rfl
   ·exact hF b hb'
  ·have hm:=adrs_mem.2 ⟨i,lb,e⟩
   obtain⟨cells,h1,h2⟩:=hA.cell i a lb e
   exact⟨.inr hm,(hA.low a hm).2.1,.of h1 h2⟩
 have hS:Slots Ma Z0 (tlOf 0 vargs) (tm0 args):=fun t v hv=>by
  obtain⟨_,x,h1,h2⟩:=tlOf_rel hp hv
  have:tm0 args t=x:=by simp only[tm0,List.getD];rw[show t=t-0 from rfl,h1];rfl
  rw[this];exact h2
 obtain⟨e,tm1,m1,n1,Z1,M1,tl1,L1,hb1,he,hM1,hS1,hex,v,u0,p,u,h1,h2,h3,hwk,h4,h6⟩:=h _ _ _ _ _ _ hM hS
 obtain⟨x,g1,g2⟩:=retV_rel hM1 hS1 h1
 have hn1:n≤n1:=hM1.hn
 have htk:∀ (i:Nat) p,(Z1.take L0.length)[i]?=some p↔(i<L0.length∧Z1[i]?=some p):=by
  intro i p
  rw[List.getElem?_take]
  split
  ·rename_i hi;exact⟨fun h=>⟨hi,h⟩,fun h=>h.2⟩
  ·rename_i hi;exact⟨fun h=>by(cases h),fun h=>absurd h.1 hi⟩
 have hlo:∀ (i:Nat) a lb,Z1[i]?=some (some a,lb)→n≤a∨∃ lb0,Z0[i]?=some (some a,lb0):=by
  intro i a lb hi
  rcases hM1.lo i a lb hi with h8|h8
  ·exact .inl h8
  ·have h8:(Z0.map (·.1))[i]?=some (some a):=h8
   rw[List.getElem?_map] at h8
   cases e8:Z0[i]? with
   | none=>rw[e8] at h8;cases h8
   | some p0 =>
     rw[e8] at h8
     obtain⟨a0,lb0⟩:=p0
     simp only[Option.map_some,Option.some.injEq] at h8
     subst h8
     exact .inr ⟨lb0,rfl⟩
 let M2:Mem:=fun b=>if b∈adrs (Z1.take L0.length) then none else if Ma b=none∧b<n then none else m1 b
 have hsub:sub M1 M2:=by
  intro b y hy
  obtain⟨k1,k2,k3⟩:=hM1.hM b y hy
  have hno:b∉adrs (Z1.take L0.length):=fun hin=>by
   obtain⟨i,lb,hi⟩:=adrs_mem.1 hin
   exact k3 i lb ((htk i _).1 hi).2
  show(if b∈adrs (Z1.take L0.length) then none else if Ma b=none∧b<n then none else m1 b)=some y
  rw[if_neg hno,if_neg (fun hc=>by
   rcases k2 with k2|k2
   ·have k2:Ma b=some y:=k2
    rw[hc.1] at k2;cases k2
   ·exact absurd hc.2 (Nat.not_lt.2 k2))]
  exact k1
 have hM2i:∀ b y,M2 b=some y→b∉adrs (Z1.take L0.length)∧¬ (Ma b=none∧b<n)∧m1 b=some y:=by
  intro b y hy
  have hy:(if b∈adrs (Z1.take L0.length) then none else if Ma b=none∧b<n then none else m1 b)=some y:=hy
  split at hy
  ·cases hy
  ·rename_i h7
   split at hy
   ·cases hy
   ·rename_i h8;exact⟨h7,h8,hy⟩
 have hZL:(Z1.take L0.length).map (·.2)=L1.take L0.length:=by rw[←hM1.hL,List.map_take]
 have hlen1:L0.length≤Z1.length:=by
  rcases Nat.lt_or_ge Z1.length L0.length with h|h
  ·obtain⟨p1,h1,_⟩:=he.hZ Z1.length _ h (List.getElem?_eq_getElem (by rw[hZl];exact h))
   simp at h1
  ·exact h
 have hf:∀ (i:Nat) p,(Z1.take L0.length)[i]?=some p→p.2.froz=true:=fun i p hp=>by
  have:(L1.take L0.length)[i]?=some p.2:=by rw[←hZL,List.getElem?_map,hp];rfl
  exact List.all_eq_true.1 h4 _ (List.mem_of_getElem? this)
 refine⟨x,m1,n1,.call hG hb1 hex g1,u,M2,Z1.take L0.length,.fz (hwk.rel _ (fr_relM hM1 hsub (fun i lb h h'=>(maskL_at h h').2) (fun i a lb hl hg hz=>?_) 6 v u0 p x h2 h3 g2)),by rw[hZL];exact h6,?_⟩
 ·have hr:=(maskL_at hl hg).1
  have hno:a∉adrs (Z1.take L0.length):=fun hin=>by
   obtain⟨j,lb',hj⟩:=adrs_mem.1 hin
   obtain⟨h7,h8⟩:=(htk j _).1 hj
   have:=hM1.inj i j a lb lb' hz h8
   omega
  show(if a∈adrs (Z1.take L0.length) then none else if Ma a=none∧a<n then none else m1 a)=m1 a
  rw[if_neg hno,if_neg (fun hc=>?_)]
  rcases hlo i a lb hz with h7|⟨lb0,h7⟩
  ·omega
  ·have:=(List.getElem?_eq_some_iff.1 h7).1;omega
 ·refine⟨fun i a lb hi=>?_,hf,fun i lb hi=>hM1.nl i lb ((htk i _).1 hi).2,fun i j a l1 l2 e1 e2=>hM1.inj i j a l1 l2 ((htk i _).1 e1).2 ((htk j _).1 e2).2,fun b y hb'=>?_,fun b y hb'=>hsub b y (hM1.hma b y hb'),fun b y hb' hy=>?_,fun b p hp=>?_,fun i a lb hi=>hlo i a lb ((htk i _).1 hi).2⟩
  ·obtain⟨q3,q4,q7⟩:=hM1.cell i a lb ((htk i _).1 hi).2
   obtain⟨cells,q5,q6⟩:=q7.froz (hf i _ hi)
   exact⟨q3.symm,q4,cells,q5,LB.froz_rel q6 (hf i _ hi) hsub _⟩
  ·obtain⟨q1,q2,q3⟩:=hM2i b y hb'
   refine⟨q3,?_,fun i lb e=>q1 (adrs_mem.2 ⟨i,lb,e⟩)⟩
   rcases Nat.lt_or_ge b n with hlt|hge
   ·cases e:Ma b with
    | none=>exact absurd ⟨e,hlt⟩ q2
    | some z =>
      have h7:=(hM1.hM b z (hM1.hma b z e)).1
      rw[q3] at h7;cases h7;exact .inl rfl
   ·exact .inr hge
  ·exact hM1.h0 b y (by show(if b∈adrs Z0 then none else m b)=some y;rw[if_neg hb'];exact hy)
  ·obtain⟨p1,q1,q2⟩:=he.hZ b p (by rw[←hZl];exact(List.getElem?_eq_some_iff.1 hp).1) hp
   have hbl:b<L0.length:=by rw[←hZl];exact(List.getElem?_eq_some_iff.1 hp).1
   exact⟨p1,(htk b _).2 ⟨hbl,q1⟩,q2⟩
theorem retF_leaf {r res post e tl L v u p} (he:e=.normal∨e=.ret) (h1:retV tl L res=some v) (h2:fr (maskL r L) 6 v=some (u,p)) (h3:∀ e,e∈p→e.1=e.2) (h4:(L.take r).all LB.froz=true) (h:post u (L.take r)):RetF r res post e tl L:=
 ⟨he,v,u,p,u,h1,h2,h3,.refl _,h4,h⟩
theorem s_nilC {N:Nat} {G:Prg} {tl:Tl} {L:List LB} (b off k:Nat) {Q:Ex→Tl→List LB→Prop} {c:C} {L1 L2:List LB} {row row':List V} {j:Nat} (hb:L[b]?=some (.cell row)) (ho:row[off]?=some (.w (.slice none 0 0))) (hL:pushN L (.arr k [])=some (L1,j)) (hr:setN row off (.ls j 0)=some row') (hL2:setN L1 b (.cell row')=some L2)
 (h:VC N G c Q tl L2):VC N G c Q tl L:=by
 intro cx Z M tm m n hM hS
 have:=pushN_inv hL;cases this
 obtain⟨hoff,rfl⟩:=setN_inv hr
 obtain⟨_,rfl⟩:=setN_inv hL2
 have hlt:∀ (i:Nat) p,Z[i]?=some p→i<Z.length:=fun i p hp=>(List.getElem?_eq_some_iff.1 hp).1
 have hget:∀ (i:Nat) p,(Z++[((none:Option Nat),LB.arr k [])])[i]?=some p→Z[i]?=some p∨(i=Z.length∧p=(none,.arr k [])):=by
  intro i p hp
  rw[List.getElem?_append] at hp
  split at hp
  ·exact .inl hp
  ·rename_i hi
   rw[List.getElem?_singleton] at hp
   split at hp
   ·cases hp;exact .inr ⟨by omega,rfl⟩
   ·cases hp
 have hE:ExtV Z M (Z++[(none,.arr k [])]) M:=⟨sub_refl _,fun b p hp=>⟨p,by rw[List.getElem?_append_left (hlt b p hp)];exact hp,grow.refl p⟩⟩
 have hZ:(Z++[((none:Option Nat),LB.arr k [])])[L.length]?=some (none,.arr k []):=by
  rw[←hM.lenZ,List.getElem?_append_right (Nat.le_refl _)];simp
 have hM1:StM cx (Z++[(none,.arr k [])]) M (L++[.arr k []]) m n:=by
  refine⟨hM.hbs,hM.hn,hM.fresh,by simp [hM.hL],fun b x hb=>?_,hM.h0,hM.f0,hM.hma,hM.hbr,fun j a lb hj=>?_,fun j lb hj=>?_,fun i j a l1 l2 h1 h2=>?_,fun j a lb hj=>?_⟩
  ·obtain⟨h1,h2,h3⟩:=hM.hM b x hb
   refine⟨h1,h2,fun j lb e=>?_⟩
   rcases hget j _ e with e1|⟨_,e1⟩
   ·exact h3 j lb e1
   ·cases e1
  ·rcases hget j _ hj with e1|⟨_,e1⟩
   ·obtain⟨h1,h2,h3⟩:=hM.cell j a lb e1
    exact⟨h1,h2,h3.mono hE rfl⟩
   ·cases e1
  ·rcases hget j _ hj with e1|⟨_,e1⟩
   ·exact hM.nl j lb e1
   ·cases e1;exact .inr ⟨k,rfl⟩
  ·rcases hget i _ h1 with e1|⟨_,e1⟩ <;> rcases hget j _ h2 with e2|⟨_,e2⟩
   ·exact hM.inj i j a l1 l2 e1 e2
   ·cases e2
   ·cases e1
   ·cases e1
  ·rcases hget j _ hj with e1|⟨_,e1⟩
   ·exact hM.lo j a lb e1
   ·cases e1
 obtain⟨oa,hZb⟩:=hM.getZ hb
 cases oa with
 | none=>obtain⟨k',e⟩:=hM.nil _ _ hZb;cases e
 | some a =>
   have hZb1:(Z++[((none:Option Nat),LB.arr k [])])[b]?=some (some a,.cell row):=by rw[List.getElem?_append_left (hlt b _ hZb)];exact hZb
   obtain⟨_,_,cells,hm,hrel⟩:=hM1.cell b a _ hZb1
   have hrel:Pt (RL M (Z++[((none:Option Nat),LB.arr k [])])) row cells:=hrel
   have hoff':off<cells.length:=by rw[←hrel.1];exact hoff
   have hcell:cells[off]?=some (.slice none 0 0):=by
    obtain⟨y,q1,q2⟩:=hrel.get ho
    rw[q1,q2.w_inv.1]
   have hg:grow (some a,LB.cell row) (some a,LB.cell (row.set off (.ls L.length 0))):=⟨trivial,rfl⟩
   have hext:ExtV (Z++[((none:Option Nat),LB.arr k [])]) M ((Z++[((none:Option Nat),LB.arr k [])]).set b (some a,.cell (row.set off (.ls L.length 0)))) M:=by
    refine⟨sub_refl _,fun i p hp=>?_⟩
    by_cases e:b=i
    ·subst e;rw[hZb1] at hp;cases hp
     exact⟨_,by rw[List.getElem?_set,if_pos rfl,if_pos (List.getElem?_eq_some_iff.1 hZb1).1],hg⟩
    ·exact⟨p,by rw[List.getElem?_set,if_neg e];exact hp,grow.refl p⟩
   have hrel2:Pt (RL M (Z++[((none:Option Nat),LB.arr k [])])) (row.set off (.ls L.length 0)) cells:=by
    refine⟨by simp [hrel.1],fun i x y h1 h2=>?_⟩
    rw[List.getElem?_set] at h1
    by_cases e:off=i
    ·subst e
     rw[if_pos rfl,if_pos hoff] at h1
     cases h1
     rw[hcell] at h2;cases h2
     exact .ls hZ (Nat.le_refl _) rfl fun _=>rfl
    ·rw[if_neg e] at h1;exact hrel.2 i x y h1 h2
   obtain⟨he2,hM2⟩:=hM1.write hZb1 cells hg rfl (Pt.mono hrel2 fun _ _=>RL.mono hext)
   have hmm:upd m a (some ⟨cells,true,LB.sz (.cell row)⟩)=m:=upd_id hm
   rw[hmm] at hM2
   obtain⟨e,tm1,m1,n1,Z1,M1,tl1,L1,hb1,he1,r⟩:=h cx _ M tm m n hM2 (hS.mono (hE.tr he2))
   exact⟨e,tm1,m1,n1,Z1,M1,tl1,L1,hb1,(hE.tr he2).trans he1,r⟩
end Go.Proofs.YtoppcdecolponaaGreat.AL
namespace Go.Proofs.YtoppcdecolponaaGreat.AL
open Go
set_option linter.unusedVariables false
set_option linter.unusedSimpArgs false
abbrev Hs:=List (Nat×List V×Nat)
def Mk0 (X:Xs) (a d:Nat):Prop:=(d=0→¬ XIn X a)∧(d=1→(a,false)∉X)
theorem Mk0.nil (a d:Nat):Mk0 [] a d:=⟨fun _ ⟨_,h⟩=>(nomatch h),fun _ h=>(nomatch h)⟩
theorem Mk0.ok {X:Xs} {a d:Nat} {o:O} (h:Mk0 X a d) (hd:d=0∨(d=1∧o.isCall=true)):XOk o X a:=by
 rcases hd with rfl|⟨rfl,hc⟩
 ·exact⟨fun h1=>h.1 rfl ⟨_,h1⟩,fun _ h1=>h.1 rfl ⟨_,h1⟩⟩
 ·exact⟨h.2 rfl,fun e=>by rw[hc] at e;cases e⟩
theorem Mk0.add {X:Xs} {a d:Nat} {o:O} {T:List Nat} (h:Mk0 X a d) (ha:a∉T):Mk0 (XAdd o T X) a d:=by
 refine⟨fun e h1=>?_,fun e h1=>?_⟩
 ·rcases XAdd.xin.1 h1 with h2|h2
  ·exact ha h2
  ·exact h.1 e h2
 ·rcases XAdd.mem.1 h1 with⟨h2,_⟩|h2
  ·exact ha h2
  ·exact h.2 e h2
theorem Mk0.call {X:Xs} {a d:Nat} {o:O} {T:List Nat} (h:Mk0 X a d) (hd:d=0∨d=1) (hc:o.isCall=true):Mk0 (XAdd o T X) a 1:=by
 refine⟨fun e=>(by cases e),fun _ h1=>?_⟩
 rcases XAdd.mem.1 h1 with⟨_,h2⟩|h2
 ·rw[hc] at h2;cases h2
 ·rcases hd with rfl|rfl
  ·exact h.1 rfl ⟨_,h2⟩
  ·exact h.2 rfl h2
structure HidR (Z:Zl) (M:Mem) (L:List LB) (h:Mem) (X:Xs) (hs:Hs):Prop where
 nd:(hs.map (·.1)).Nodup
 row:∀ e,e∈hs→L[e.1]?=some .gone∧∃ a cells,Z[e.1]?=some (some a,.gone)∧h a=some ⟨cells,true,1⟩∧Pt (RL M Z) e.2.1 cells∧Mk0 X a e.2.2
 dom:∀ a x,h a=some x→∃ e,e∈hs∧Z[e.1]?=some (some a,.gone)
 xs:∀ a,XIn X a→∃ x,h a=some x
theorem HidR.noX {Z M L h X hs} (hH:HidR Z M L h X hs):HidR Z M L h [] hs:=
 ⟨hH.nd,fun e he=>let ⟨h1,a,cells,h2,h3,h4,_⟩:=hH.row e he;⟨h1,a,cells,h2,h3,h4,Mk0.nil _ _⟩,hH.dom,fun a ⟨_,h⟩=>nomatch h⟩
def VH (N:Nat) (G:Prg) (l:List IOp) (K:Tl→List LB→Prop) (hs:Hs) (tl:Tl) (L:List LB):Prop:=
 ∀ (c:Cx N) Z M tm m n h X,StM c Z M L m n→Slots M Z tl tm→HidR Z M L h X hs→∃ tm1 m1 n1 Z1 M1 tl1 L1,Big G c.bs (.opsH h X l tm) m n (.exit .normal tm1) m1 n1∧ExtN N Z M Z1 M1∧StM c Z1 M1 L1 m1 n1∧Slots M1 Z1 tl1 tm1∧K tl1 L1
def rstH:Hs→List LB→Option (List LB)
 | [],L=>some L
 | (b,row,_)::hs,L=>match setN L b (.cell row) with
   | some L1=>rstH hs L1
   | none=>none
def hideL:List Nat→List LB→Option (List LB×Hs)
 | [],L=>some (L,[])
 | b::bs,L=>match L[b]? with
   | some (.cell row)=>match setN L b .gone with
     | some L1=>match hideL bs L1 with
       | some (L2,hs)=>some (L2,(b,row,0)::hs)
       | none=>none
     | none=>none
   | _=>none
theorem hideL_gone:∀ {bs:List Nat} {L L':List LB} {hs:Hs} {b:Nat},hideL bs L=some (L',hs)→L[b]?=some .gone→L'[b]?=some .gone∧b∉hs.map (·.1)
 | [],L,L',hs,b,h,hb=>by cases h;exact⟨hb,by simp⟩
 | b0::bs,L,L',hs,b,h,hb=>by
   simp only[hideL] at h
   split at h
   ·rename_i row hr
    split at h
    ·rename_i L1 hL1
     split at h
     ·rename_i L2 hs2 h2
      cases h
      obtain⟨_,rfl⟩:=setN_inv hL1
      have hne:b0≠b:=fun e=>by subst e;rw[hr] at hb;cases hb
      obtain⟨i1,i2⟩:=hideL_gone h2 (show(L.set b0 LB.gone)[b]?=some .gone by rw[List.getElem?_set,if_neg hne];exact hb)
      exact⟨i1,by simp only[List.map_cons,List.mem_cons,not_or];exact⟨Ne.symm hne,i2⟩⟩
     ·cases h
    ·cases h
   ·cases h
theorem StM.hide {N:Nat} {c:Cx N} {Z M L m n} (h:StM c Z M L m n) {b a:Nat} {row:List V} (hb:Z[b]?=some (some a,.cell row)) :
 ExtV Z M (Z.set b (some a,.gone)) M∧StM c (Z.set b (some a,.gone)) M (L.set b .gone) (upd m a none) n:=by
 have hlt:b<Z.length:=(List.getElem?_eq_some_iff.1 hb).1
 have hget:∀ (i:Nat) p,(Z.set b (some a,LB.gone))[i]?=some p→(i≠b∧Z[i]?=some p)∨(i=b∧p=(some a,.gone)):=by
  intro i p hp
  rw[List.getElem?_set] at hp
  by_cases e:b=i
  ·subst e;rw[if_pos rfl,if_pos hlt] at hp;cases hp;exact .inr ⟨rfl,rfl⟩
  ·rw[if_neg e] at hp;exact .inl ⟨fun e'=>e e'.symm,hp⟩
 have hext:ExtV Z M (Z.set b (some a,LB.gone)) M:=by
  refine⟨sub_refl _,fun i p hp=>?_⟩
  by_cases e:b=i
  ·subst e;rw[hb] at hp;cases hp
   exact⟨_,by rw[List.getElem?_set,if_pos rfl,if_pos hlt],grow.ofCl (p:=(some a,.cell row)) (p1:=(some a,.gone)) trivial trivial rfl⟩
  ·exact⟨p,by rw[List.getElem?_set,if_neg e];exact hp,grow.refl p⟩
 obtain⟨ha0,han,_⟩:=h.cell b a _ hb
 refine⟨hext,⟨h.hbs,h.hn,fresh_upd h.fresh han,by simp [List.map_set,h.hL],fun b' x hb'=>?_,sub_upd h.h0 (h.m0A ha0),h.f0,h.hma,h.hbr,fun i a' l hi=>?_,fun i l hi=>?_,fun i j a' l1 l2 hi hj=>?_,fun i a' l hi=>?_⟩⟩
 ·obtain⟨h1,h2,h3⟩:=h.hM b' x hb'
  have hne:b'≠a:=fun e=>h3 b _ (by rw[e];exact hb)
  refine⟨by simp only[upd,if_neg hne];exact h1,h2,fun i l e=>?_⟩
  rcases hget i _ e with⟨_,e1⟩|⟨_,e1⟩
  ·exact h3 i l e1
  ·cases e1;exact hne rfl
 ·rcases hget i _ hi with⟨hne,e1⟩|⟨_,e1⟩
  ·obtain⟨h1,h2,h3⟩:=h.cell i a' l e1
   have:a'≠a:=fun e=>hne (h.inj i b a l _ (by rw[←e];exact e1) hb)
   exact⟨h1,h2,h3.mono hext (by simp only[upd,if_neg this])⟩
  ·cases e1
   exact⟨ha0,han,show upd m a none a=none by simp [upd]⟩
 ·rcases hget i _ hi with⟨_,e1⟩|⟨_,e1⟩
  ·exact h.nl i l e1
  ·cases e1
 ·rcases hget i _ hi with⟨hne,e1⟩|⟨e0,e1⟩ <;> rcases hget j _ hj with⟨hne',e2⟩|⟨e3,e2⟩
  ·exact h.inj i j a' l1 l2 e1 e2
  ·cases e2;exact absurd (h.inj i b _ _ _ e1 hb) hne
  ·cases e1;exact absurd (h.inj j b _ _ _ e2 hb) hne'
  ·omega
 ·rcases hget i _ hi with⟨_,e1⟩|⟨e0,e1⟩
  ·exact h.lo i a' l e1
  ·cases e1;subst e0;exact h.lo i a _ hb
theorem unhide {N:Nat} {c:Cx N} {M:Mem} {n:Nat}:∀ {hs:Hs} {Z:Zl} {L L':List LB} {m h:Mem},StM c Z M L m n→HidR Z M L h [] hs→rstH hs L=some L'→∃ Z',ExtV Z M Z' M∧StM c Z' M L' (mrg h m) n
 | [],Z,L,L',m,h,hM,hH,hr=>by
   cases hr
   have e:mrg h m=m:=by
    funext a
    cases e1:h a with
    | none=>exact mrg_none e1
    | some x=>obtain⟨e,he,_⟩:=hH.dom a x e1;cases he
   rw[e];exact⟨Z,ExtV.refl _ _,hM⟩
 | (b,row,d)::hs,Z,L,L',m,h,hM,hH,hr=>by
   simp only[rstH] at hr
   split at hr
   ·rename_i L1 hL1
    obtain⟨hbl,rfl⟩:=setN_inv hL1
    obtain⟨hLb,a,cells,hZ,ha,hp,hX⟩:=hH.row (b,row,d) (List.mem_cons_self ..)
    simp only at hLb hZ hp hX
    have hg:grow (some a,LB.gone) (some a,LB.cell row):=⟨trivial,rfl⟩
    have hlt:b<Z.length:=(List.getElem?_eq_some_iff.1 hZ).1
    have he:ExtV Z M (Z.set b (some a,LB.cell row)) M:=by
     refine⟨sub_refl _,fun i p hp=>?_⟩
     by_cases e:b=i
     ·subst e;rw[hZ] at hp;cases hp
      exact⟨_,by rw[List.getElem?_set,if_pos rfl,if_pos hlt],hg⟩
     ·exact⟨p,by rw[List.getElem?_set,if_neg e];exact hp,grow.refl p⟩
    obtain⟨_,hM1⟩:=hM.write hZ cells hg rfl (Pt.mono hp fun _ _=>RL.mono he)
    have hnd:=hH.nd
    simp only[List.map_cons,List.nodup_cons] at hnd
    have hne:∀ e,e∈hs→e.1≠b:=fun e he' e1=>hnd.1 (List.mem_map.2 ⟨e,he',e1⟩)
    have hH1:HidR (Z.set b (some a,LB.cell row)) M (L.set b (.cell row)) (upd h a none) [] hs:=by
     refine⟨hnd.2,fun e he'=>?_,fun a' x hx=>?_,fun a ⟨_,h⟩=>(nomatch h)⟩
     ·obtain⟨h1,a',cells',h2,h3,h4,h5⟩:=hH.row e (List.mem_cons_of_mem _ he')
      have hb':=hne e he'
      have haa:a'≠a:=fun e1=>by subst e1;exact hb' (hM.inj _ _ _ _ _ h2 hZ)
      exact⟨by rw[List.getElem?_set,if_neg (Ne.symm hb')];exact h1,a',cells',by rw[List.getElem?_set,if_neg (Ne.symm hb')];exact h2,by simp only[upd,if_neg haa];exact h3,Pt.mono h4 fun _ _=>RL.mono he,h5⟩
     ·simp only[upd] at hx
      split at hx
      ·cases hx
      ·rename_i haa
       obtain⟨e,he1,he2⟩:=hH.dom a' x hx
       have hb':e.1≠b:=fun e1=>by rw[e1,hZ] at he2;cases he2;exact haa rfl
       rcases List.mem_cons.1 he1 with rfl|he1
       ·exact absurd rfl hb'
       ·exact⟨e,he1,by rw[List.getElem?_set,if_neg (Ne.symm hb')];exact he2⟩
    obtain⟨Z',h1,h2⟩:=unhide hM1 hH1 hr
    have e:mrg (upd h a none) (upd m a (some ⟨cells,true,LB.sz .gone⟩))=mrg h m:=by
     funext x
     by_cases hx:x=a
     ·subst hx;rw[mrg_none (by simp [upd]),mrg_some ha];simp [upd,LB.sz]
     ·simp only[mrg,upd,if_neg hx]
    rw[e] at h2
    exact⟨Z',he.tr h1,h2⟩
   ·cases hr
theorem hide_all {N:Nat} {c:Cx N} {M:Mem} {n:Nat}:∀ {bs:List Nat} {Z:Zl} {L L':List LB} {hs:Hs} {m:Mem},StM c Z M L m n→hideL bs L=some (L',hs) →
 ∃ Z' m' h,ExtV Z M Z' M∧StM c Z' M L' m' n∧HidR Z' M L' h [] hs∧m=mrg h m'∧∀ a x,h a=some x→m' a=none
 | [],Z,L,L',hs,m,hM,hh=>by
   cases hh
   exact⟨Z,m,fun _=>none,ExtV.refl _ _,hM,⟨by simp,fun e he=>(nomatch he),fun a x h=>(nomatch h),fun a ⟨_,h⟩=>(nomatch h)⟩,rfl,fun a x h=>(nomatch h)⟩
 | b::bs,Z,L,L',hs,m,hM,hh=>by
   simp only[hideL] at hh
   split at hh
   ·rename_i row hr
    split at hh
    ·rename_i L1 hL1
     split at hh
     ·rename_i L2 hs2 h2
      cases hh
      obtain⟨hbl,rfl⟩:=setN_inv hL1
      obtain⟨oa,hZ⟩:=hM.getZ hr
      cases oa with
      | none=>obtain⟨k,e⟩:=hM.nil _ _ hZ;cases e
      | some a =>
        obtain⟨_,_,cells,hm,hrel⟩:=hM.cell _ _ _ hZ
        obtain⟨he,hM1⟩:=hM.hide hZ
        obtain⟨Z2,m2,h,he2,hM2,hH,hmm,hd⟩:=hide_all hM1 h2
        have hlt:b<L.length:=hbl
        obtain⟨hg1,hg2⟩:=hideL_gone (b:=b) h2 (by rw[List.getElem?_set,if_pos rfl,if_pos hlt])
        obtain⟨oa2,hZ2⟩:=hM2.getZ hg1
        have hZ2:Z2[b]?=some (some a,.gone):=by
         obtain⟨p1,q1,q2⟩:=he2.hZ b (some a,.gone) (by rw[List.getElem?_set,if_pos rfl,if_pos (by rw[hM.lenZ];exact hlt)])
         have:=(q2.cl trivial).2
         rw[hZ2] at q1;cases q1
         simp only at this;rw[this] at hZ2;exact hZ2
        have hha:∀ x,h a=some x→False:=fun x hx=>by
         obtain⟨e,e1,e2⟩:=hH.dom a x hx
         have:=hM2.inj _ _ _ _ _ e2 hZ2
         exact hg2 (List.mem_map.2 ⟨e,e1,this⟩)
        have hha:h a=none:=by
         cases e:h a with
         | none=>rfl
         | some x=>exact(hha x e).elim
        refine⟨Z2,m2,upd h a (some ⟨cells,true,1⟩),he.tr he2,hM2,⟨?_,fun e he'=>?_,fun a' x hx=>?_,fun a ⟨_,h⟩=>(nomatch h)⟩,?_,fun a' x hx=>?_⟩
        ·simp only[List.map_cons,List.nodup_cons];exact⟨hg2,hH.nd⟩
        ·rcases List.mem_cons.1 he' with rfl|he'
         ·have hrel:Pt (RL M Z) row cells:=hrel
          exact⟨hg1,a,cells,hZ2,by simp [upd],Pt.mono hrel fun _ _ h=>(h.mono he).mono he2,Mk0.nil _ _⟩
         ·obtain⟨h1,a',cells',h3,h4,h5,h6⟩:=hH.row e he'
          have haa:a'≠a:=fun e1=>by subst e1;rw[hha] at h4;cases h4
          exact⟨h1,a',cells',h3,by simp only[upd,if_neg haa];exact h4,h5,h6⟩
        ·simp only[upd] at hx
         split at hx
         ·rename_i haa;subst haa;exact⟨_,List.mem_cons_self ..,hZ2⟩
         ·obtain⟨e,e1,e2⟩:=hH.dom a' x hx
          exact⟨e,List.mem_cons_of_mem _ e1,e2⟩
        ·funext x
         by_cases hx:x=a
         ·subst hx;rw[mrg_some (by simp [upd];rfl),hm];rfl
         ·have:=congrFun hmm x
          simp only[mrg,upd,if_neg hx] at this ⊢
          exact this
        ·simp only[upd] at hx
         split at hx
         ·rename_i haa
          subst haa
          have:=congrFun hmm a'
          simp only[upd,if_true] at this
          exact(mrg_none_inv this.symm).2
         ·exact hd a' x hx
     ·cases hh
    ·cases hh
   ·cases hh
section
variable {N : Nat} {G : Prg} {tl : Tl} {L : List LB} {K : Tl → List LB → Prop} {Q : Ex → Tl → List LB → Prop} {hs : Hs} {l : List IOp}
theorem s_rgH (bs:List Nat) {L1} (hh:hideL bs L=some (L1,hs)) (k:VH N G l (Q .normal) hs tl L1):VC N G (.rg l) Q tl L:=by
 intro c Z M tm m n hM hS
 obtain⟨Z1,m1,h,he,hM1,hH,rfl,hd⟩:=hide_all hM hh
 obtain⟨tm2,m2,n2,Z2,M2,tl2,L2,hb,he2,hM2,hS2,hk⟩:=k c Z1 M tm m1 n h [] hM1 (hS.mono he) hH
 exact⟨_,tm2,m2,n2,Z2,M2,tl2,L2,.rgH hd hb,he.trans he2,hM2,hS2,hk⟩
theorem h_bar {L1 d o g} (hr:rstH hs L=some L1) (k:VO N G (⟨d,o,g,false⟩::l) K tl L1):VH N G (⟨d,o,g,false⟩::l) K hs tl L:=by
 intro c Z M tm m n h X hM hS hH
 obtain⟨Z1,he,hM1⟩:=unhide hM hH.noX hr
 obtain⟨tm2,m2,n2,Z2,M2,tl2,L2,hb,he2,r⟩:=k c Z1 M tm _ n hM1 (hS.mono he)
 exact⟨tm2,m2,n2,Z2,M2,tl2,L2,.hBar rfl hb,he.trans he2,r⟩
def gones (L:List LB):Hs→Bool
 | []=>true
 | e::hs=>(match L[e.1]? with
   | some .gone=>true
   | _=>false) && gones L hs
theorem gones_inv {L:List LB}:∀ {hs:Hs},gones L hs=true→∀ e,e∈hs→L[e.1]?=some .gone
 | [],_,e,he=>by cases he
 | e0::hs,h,e,he=>by
   simp only[gones,Bool.and_eq_true] at h
   rcases List.mem_cons.1 he with rfl|he
   ·have:=h.1
    split at this
    ·rename_i h1;exact h1
    ·cases this
   ·exact gones_inv h.2 e he
theorem HidR.mono {N:Nat} {c:Cx N} {Z M L h X hs Z1 M1 L1 m1 n1} (hH:HidR Z M L h X hs) (he:ExtV Z M Z1 M1) (hM1:StM c Z1 M1 L1 m1 n1) (hg:gones L1 hs=true):HidR Z1 M1 L1 h X hs:=by
 have up:∀ e a,e∈hs→Z[e.1]?=some (some a,LB.gone)→Z1[e.1]?=some (some a,LB.gone):=by
  intro e a he' hz
  obtain⟨p1,q1,q2⟩:=he.hZ _ _ hz
  have h2:=(q2.cl trivial).2
  obtain⟨a1,hz1⟩:=hM1.getZ (gones_inv hg e he')
  rw[q1] at hz1;cases hz1
  simp only at h2;subst h2;exact q1
 refine⟨hH.nd,fun e he'=>?_,fun a x hx=>?_,hH.xs⟩
 ·obtain⟨h1,a,cells,h2,h3,h4,h5⟩:=hH.row e he'
  exact⟨gones_inv hg e he',a,cells,up e a he' h2,h3,Pt.mono h4 fun _ _=>RL.mono he,h5⟩
 ·obtain⟨e,e1,e2⟩:=hH.dom a x hx
  exact⟨e,e1,up e a e1 e2⟩
theorem h_op {d o v L1} (h:OpV G true o tl L (some v) L1) (hg:gones L1 hs=true) (k:VH N G l K hs ((d,v)::tl) L1):VH N G (⟨some d,o,none,true⟩::l) K hs tl L:=by
 intro c Z M tm m n hm X hM hS hH
 obtain⟨v',m1,n1,Z1,M1,h1,he,hM1,hr⟩:=h _ c Z M tm m n hM hS
 obtain⟨tm3,m3,n3,Z3,M3,tl3,L3,hb,he3,r⟩:=k c Z1 M1 (upd tm d v') m1 n1 hm X hM1 ((hS.mono he).put (hr v rfl)) (hH.mono he hM1 hg)
 refine⟨tm3,m3,n3,Z3,M3,tl3,L3,?_,he.trans he3,r⟩
 rcases h1 with h1|⟨f,args,h2,h3⟩
 ·exact .hPure rfl (fun g b e=>by cases e) h1 hb
 ·exact .hCall rfl (fun g b e=>by cases e) h2 h3 hb
theorem h_call {d f es us u} (ha:evEs tl es=some us) (hz:us.all (V.fzV 6)=true) (hc:CV G f us (fun v=>v=u)) (hg:gones L hs=true) (k:VH N G l K hs ((d,u)::tl) L):VH N G (⟨some d,.call f es,none,true⟩::l) K hs tl L:=by
 intro c Z M tm m n hm X hM hS hH
 obtain⟨v',m1,n1,M1,u',hb1,he,hM1,hr,rfl⟩:=call_plain (q:=true) hM (evEs_rel hS ha) hz hc
 obtain⟨tm3,m3,n3,Z3,M3,tl3,L3,hb,he3,r⟩:=k c Z M1 (upd tm d v') m1 n1 hm X hM1 ((hS.mono he).put hr) (hH.mono he hM1 hg)
 exact⟨tm3,m3,n3,Z3,M3,tl3,L3,.hCall rfl (fun g b e=>by cases e) rfl hb1 hb,he.trans he3,r⟩
def stH (f:List V→Option (List V)) (b:Nat):Hs→Option Hs
 | []=>none
 | (b',row,d)::hs=>match Nat.beq b' b with
   | true=>match d with
     | 0=>match f row with
       | some r=>some ((b',r,2)::hs)
       | none=>none
     | _=>none
   | false=>match stH f b hs with
     | some hs'=>some ((b',row,d)::hs')
     | none=>none
theorem stH_inv {f:List V→Option (List V)} {b:Nat}:∀ {hs hs':Hs},stH f b hs=some hs'→(hs.map (·.1)).Nodup→∃ row r,(b,row,0)∈hs∧f row=some r∧hs'.map (·.1)=hs.map (·.1)∧∀ e,e∈hs'→e=(b,r,2)∨(e∈hs∧e.1≠b)
 | [],hs',h,_=>by cases h
 | (b',row,d)::hs,hs',h,hnd=>by
   simp only[stH] at h
   simp only[List.map_cons,List.nodup_cons] at hnd
   split at h
   ·rename_i hb
    have hb:=Nat.eq_of_beq_eq_true hb
    subst hb
    split at h
    ·split at h
     ·rename_i r hr
      cases h
      refine⟨row,r,List.mem_cons_self ..,hr,rfl,fun e he=>?_⟩
      rcases List.mem_cons.1 he with rfl|he
      ·exact .inl rfl
      ·exact .inr ⟨List.mem_cons_of_mem _ he,fun e1=>hnd.1 (List.mem_map.2 ⟨e,he,e1⟩)⟩
     ·cases h
    ·cases h
   ·rename_i hb
    have hb:=Nat.ne_of_beq_eq_false hb
    split at h
    ·rename_i hs1 h1
     cases h
     obtain⟨row1,r,i1,i2,i3,i4⟩:=stH_inv h1 hnd.2
     refine⟨row1,r,List.mem_cons_of_mem _ i1,i2,by simp [i3],fun e he=>?_⟩
     rcases List.mem_cons.1 he with rfl|he
     ·exact .inr ⟨List.mem_cons_self ..,hb⟩
     ·rcases i4 e he with h4|⟨h4,h5⟩
      ·exact .inl h4
      ·exact .inr ⟨List.mem_cons_of_mem _ h4,h5⟩
    ·cases h
theorem h_st {s b off hs'} {o:O} {f:List V→Option (List V)} (hx:look tl s=some (.cp b off)) (hf:stH f b hs=some hs')
 (ho:∀ (c:Cx N) Z M tm m n a row r cells,StM c Z M L m n→Slots M Z tl tm→c.bs≤a→tm s=.pointer (some ⟨a,off,none⟩)→Pt (RL M Z) row cells→f row=some r→o.at tm=some (s,⟨a,off,none⟩) ∧
   ∃ cells',Pt (RL M Z) r cells'∧∀ m' n',m' a=some ⟨cells,true,1⟩→stepO c.bs o tm m' n'=some (junk,upd m' a (some ⟨cells',true,1⟩),n'))
 (k:VH N G l K hs' tl L):VH N G (⟨none,o,none,true⟩::l) K hs tl L:=by
 intro c Z M tm m n hm X hM hS hH
 obtain⟨row,r,h1,h2,h3,h4⟩:=stH_inv hf hH.nd
 obtain⟨g1,a,cells,g2,g3,g4,g5⟩:=hH.row _ h1
 simp only at g1 g2 g4 g5
 obtain⟨a',lb,q1,q2⟩:=(hS _ _ hx).cp_inv
 rw[g2] at q1
 cases q1
 have hbs:=hM.bsA (hM.cell _ _ _ g2).1
 obtain⟨k1,cells',k2,k3⟩:=ho c Z M tm m n a row r cells hM hS hbs q2 g4 h2
 have hH1:HidR Z M L (upd hm a (some ⟨cells',true,1⟩)) (XAdd o [a] X) hs':=by
  refine⟨by rw[h3];exact hH.nd,fun e he=>?_,fun a' x hx=>?_,fun a' ha'=>?_⟩
  ·rcases h4 e he with rfl|⟨h5,h6⟩
   ·exact⟨g1,a,cells',g2,by simp [upd],k2,(fun e=>by cases e),(fun e=>by cases e)⟩
   ·obtain⟨j1,a',cells2,j2,j3,j4,j5⟩:=hH.row e h5
    have haa:a'≠a:=fun e1=>by subst e1;exact h6 (hM.inj _ _ _ _ _ j2 g2)
    exact⟨j1,a',cells2,j2,by simp only[upd,if_neg haa];exact j3,j4,j5.add (by simpa using haa)⟩
  ·have:∃ e,e∈hs∧Z[e.1]?=some (some a',LB.gone):=by
    simp only[upd] at hx
    split at hx
    ·rename_i haa;subst haa;exact⟨_,h1,g2⟩
    ·exact hH.dom a' x hx
   obtain⟨e,e1,e2⟩:=this
   have:e.1∈hs'.map (·.1):=by rw[h3];exact List.mem_map.2 ⟨e,e1,rfl⟩
   obtain⟨e',e3,e4⟩:=List.mem_map.1 this
   exact⟨e',e3,by rw[e4];exact e2⟩
  ·by_cases haa:a'=a
   ·subst haa;exact⟨_,by simp [upd];rfl⟩
   ·rcases XAdd.xin.1 ha' with h|h
    ·exact absurd (List.mem_singleton.1 h) haa
    ·obtain⟨x,hx⟩:=hH.xs a' h
     exact⟨x,by simp only[upd,if_neg haa];exact hx⟩
 obtain⟨tm3,m3,n3,Z3,M3,tl3,L3,hb,r⟩:=k c Z M tm m n _ _ hM hS hH1
 exact⟨tm3,m3,n3,Z3,M3,tl3,L3,.hSide rfl (fun g b e=>by cases e) (g5.ok (.inl rfl)) g3 hbs k1 rfl k3 hb,r⟩
theorem h_stn {s v b off c cs hs'} (hx:look tl s=some (.cp b off)) (hv:evE tl v=some (.agg cs)) (hk:cs.length=c) (hn:nars cs=true) (hf:stH (fun row=>splN row off cs) b hs=some hs') (k:VH N G l K hs' tl L) :
 VH N G (⟨none,.stn c (.t s) v,none,true⟩::l) K hs tl L:=by
 refine h_st hx hf (fun cx Z M tm m n a row r cells hM hS hbs ht hp hr=>?_) k
 obtain⟨hoff,rfl⟩:=splN_inv hr
 obtain⟨vs,e1,hl,hu⟩:=(evE_rel hS hv).agg_inv
 have hcs:Pt (RL M Z) cs vs.toList:=⟨by simpa using hl,fun i x y h2 h3=>hu i x y h2 (by simpa using h3)⟩
 refine⟨by simp only[O.at,ht],cells.take off++vs.toList++cells.drop (off+cs.length),((hp.take off).append hcs).append (hp.drop _),fun m' n' hm'=>?_⟩
 have hlc:off+vs.size≤cells.length:=by rw[←hp.1,←hl];exact hoff
 have hnar:vs.toList.all (fun u=>!wideV u)=true:=by
  rw[List.all_eq_true]
  intro y hy
  obtain⟨i,hi⟩:=List.mem_iff_getElem?.1 hy
  have hi2:i<cs.length:=by rw[hcs.1];exact(List.getElem?_eq_some_iff.1 hi).1
  have hx:=List.getElem?_eq_getElem hi2
  have:=(hcs.2 i _ y hx hi).nar (nars_mem hn _ (List.getElem_mem hi2))
  simp [this]
 have hk2:vs.size=c:=by omega
 have ht':(E.t s).ev tm=.pointer (some ⟨a,off,none⟩):=ht
 simp only[stepO,ht',e1,hnar,hk2,and_self,if_true,AL.wrn,hm',Option.isSome_none,Bool.false_eq_true,if_false,Array.length_toList]
 rw[if_pos ⟨hbs,trivial,by omega⟩]
 have e2:cs.length=c:=by omega
 simp only[e2]
theorem h_sts {s v b off u hs'} (hx:look tl s=some (.cp b off)) (hv:evE tl v=some u) (hn:u.nar=true) (hf:stH (fun row=>setN row off u) b hs=some hs') (k:VH N G l K hs' tl L) :
 VH N G (⟨none,.st (.t s) v,none,true⟩::l) K hs tl L:=by
 refine h_st hx hf (fun cx Z M tm m n a row r cells hM hS hbs ht hp hr=>?_) k
 obtain⟨hoff,rfl⟩:=setN_inv hr
 have hu:=evE_rel hS hv
 have hw:=hu.nar hn
 refine⟨by simp only[O.at,ht],cells.set off (v.ev tm),Pt.set hp off hu,fun m' n' hm'=>?_⟩
 have hlc:off<cells.length:=by rw[←hp.1];exact hoff
 have ht':(E.t s).ev tm=.pointer (some ⟨a,off,none⟩):=ht
 simp [stepO,ht',hw,AL.wr,hm',hlc,hbs]
end
def pickH (hs:Hs):List Nat→Option Hs
 | []=>some []
 | b::r=>match hs.find? (fun e=>Nat.beq e.1 b) with
   | some (b',row,d)=>match Nat.blt d 2 with
     | true=>match pickH hs r with
       | some l=>some ((b',row,d)::l)
       | none=>none
     | false=>none
   | none=>none
theorem pickH_inv {hs:Hs}:∀ {r:List Nat} {l:Hs},pickH hs r=some l→l.map (·.1)=r∧∀ e,e∈l→e∈hs∧(e.2.2=0∨e.2.2=1)
 | [],l,h=>by simp [pickH] at h;subst h;exact⟨rfl,fun e he=>nomatch he⟩
 | b::r,l,h=>by
   simp only[pickH] at h
   split at h
   ·rename_i b' row d hf
    split at h
    ·rename_i hd
     split at h
     ·rename_i l1 h1
      cases h
      obtain⟨i1,i2⟩:=pickH_inv h1
      have hb:b'=b:=Nat.eq_of_beq_eq_true (by have:=List.find?_some hf;simpa using this)
      subst hb
      rw[Nat.blt_eq] at hd
      refine⟨by simp [i1],fun e he=>?_⟩
      rcases List.mem_cons.1 he with rfl|he
      ·exact⟨List.mem_of_find?_eq_some hf,by simp only;omega⟩
      ·exact i2 e he
     ·cases h
    ·cases h
   ·cases h
def lookH (b:Nat):Hs→Option (List V)
 | []=>none
 | e::hs=>match Nat.beq e.1 b with
   | true=>some e.2.1
   | false=>lookH b hs
theorem lookH_inv {b:Nat} {row:List V}:∀ {hs:Hs},lookH b hs=some row→∃ e,e∈hs∧e.1=b∧e.2.1=row
 | [],h=>by cases h
 | e::hs,h=>by
   simp only[lookH] at h
   split at h
   ·rename_i hb;cases h;exact⟨e,List.mem_cons_self ..,Nat.eq_of_beq_eq_true hb,rfl⟩
   ·obtain⟨e',h1,h2⟩:=lookH_inv h;exact⟨e',List.mem_cons_of_mem _ h1,h2⟩
theorem lookH_none {b:Nat}:∀ {hs:Hs},lookH b hs=none→b∉hs.map (·.1)
 | [],_=>by simp
 | e::hs,h=>by
   simp only[lookH] at h
   split at h
   ·cases h
   ·rename_i hb
    simp only[List.map_cons,List.mem_cons,not_or]
    exact⟨fun e'=>Nat.ne_of_beq_eq_false hb e'.symm,lookH_none h⟩
def putH (new:Hs):Hs→Hs
 | []=>[]
 | e::hs=>(match lookH e.1 new with
   | some row=>(e.1,row,1)
   | none=>e)::putH new hs
theorem putH_keys (new:Hs):∀ hs:Hs,(putH new hs).map (·.1)=hs.map (·.1)
 | []=>rfl
 | e::hs=>by
   simp only[putH,List.map_cons,putH_keys new hs]
   cases lookH e.1 new <;> rfl
theorem putH_mem {new:Hs} {e':Nat×List V×Nat}:∀ {hs:Hs},e'∈putH new hs→∃ e,e∈hs∧((∃ row,lookH e.1 new=some row∧e'=(e.1,row,1))∨(lookH e.1 new=none∧e'=e))
 | [],h=>nomatch h
 | e::hs,h=>by
   simp only[putH] at h
   rcases List.mem_cons.1 h with h|h
   ·refine⟨e,List.mem_cons_self ..,?_⟩
    split at h
    ·rename_i row hr;exact .inl ⟨row,hr,h⟩
    ·rename_i hr;exact .inr ⟨hr,h⟩
   ·obtain⟨e1,h1,h2⟩:=putH_mem h
    exact⟨e1,List.mem_cons_of_mem _ h1,h2⟩
theorem hsuniq:∀ {hs:Hs},(hs.map (·.1)).Nodup→∀ {e e':Nat×List V×Nat},e∈hs→e'∈hs→e.1=e'.1→e=e'
 | [],_,e,e',h,_,_=>nomatch h
 | a::hs,hnd,e,e',h,h',he=>by
   simp only[List.map_cons,List.nodup_cons] at hnd
   rcases List.mem_cons.1 h with h1|h1 <;> rcases List.mem_cons.1 h' with h2|h2
   ·rw[h1,h2]
   ·exact absurd (List.mem_map.2 ⟨e',h2,by rw[←he,h1]⟩) hnd.1
   ·exact absurd (List.mem_map.2 ⟨e,h1,by rw[he,h2]⟩) hnd.1
   ·exact hsuniq hnd.2 h1 h2 he
theorem hideL_keys:∀ {bs:List Nat} {L L':List LB} {hs:Hs},hideL bs L=some (L',hs)→hs.map (·.1)=bs
 | [],L,L',hs,h=>by cases h;rfl
 | b::bs,L,L',hs,h=>by
   simp only[hideL] at h
   split at h
   ·split at h
    ·split at h
     ·rename_i L2 hs2 h2;cases h;simp [hideL_keys h2]
     ·cases h
    ·cases h
   ·cases h
def leadsV (us:List V):List Nat→Bool
 | []=>true
 | b::r=>us.any (fun u=>match u with
   | .cp b' _=>Nat.beq b' b
   | _=>false) && leadsV us r
theorem leadsV_inv {us:List V}:∀ {r:List Nat},leadsV us r=true→∀ b,b∈r→∃ off,V.cp b off∈us
 | [],_,b,h=>nomatch h
 | b0::r,h,b,hb=>by
   simp only[leadsV,Bool.and_eq_true] at h
   rcases List.mem_cons.1 hb with rfl|hb
   ·obtain⟨u,hu,h1⟩:=List.any_eq_true.1 h.1
    split at h1
    ·rename_i b' off;have:=Nat.eq_of_beq_eq_true h1;subst this;exact⟨off,hu⟩
    ·cases h1
   ·exact leadsV_inv h.2 b hb
theorem words_eq {M M':Mem} {Z Z':Zl} {lb:LB} {cells cells':List Value} (h:LB.rel M Z lb cells) (h':LB.rel M' Z' lb cells') (hw:lb.words):cells=cells':=by
 have ptEq:∀ {R R':V→Value→Prop} {row:List V} {c c':List Value},(∀ v,v∈row→∃ x,v=.w x)→(∀ x y,R (.w x) y→y=x)→(∀ x y,R' (.w x) y→y=x)→Pt R row c→Pt R' row c'→c=c':=by
  intro R R' row c c' hw h1 h2 hp hp'
  apply List.ext_getElem?
  intro i
  rcases Nat.lt_or_ge i row.length with hi|hi
  ·obtain⟨x,hx⟩:=hw _ (List.getElem_mem hi)
   have hr:row[i]?=some (.w x):=by rw[List.getElem?_eq_getElem hi,hx]
   obtain⟨y,q1,q2⟩:=hp.get hr
   obtain⟨y',q3,q4⟩:=hp'.get hr
   rw[q1,q3,h1 _ _ q2,h2 _ _ q4]
  ·rw[List.getElem?_eq_none (by rw[←hp.1];exact hi),List.getElem?_eq_none (by rw[←hp'.1];exact hi)]
 have rfw:∀ {M:Mem} x y,RF M (.w x) y→y=x:=fun x y h=>by cases h;rfl
 cases lb with
 | cell row=>exact ptEq hw (fun x y h=>h.w_inv.1) (fun x y h=>h.w_inv.1) h h'
 | gone=>exact h.elim
 | dead=>exact h.elim
 | arr k rows =>
   obtain⟨rs,rfl,h2,_,h4,_⟩:=h
   obtain⟨rs',rfl,g2,_,g4,_⟩:=h'
   congr 1
   apply List.ext_getElem?
   intro i
   rcases Nat.lt_or_ge i rows.length with hi|hi
   ·have e1:=List.getElem?_eq_getElem (l:=rs) (i:=i) (by omega)
    have e2:=List.getElem?_eq_getElem (l:=rs') (i:=i) (by omega)
    have e3:=List.getElem?_eq_getElem hi
    rw[e1,e2,ptEq (hw _ (List.getElem_mem hi)) rfw rfw (h4 i _ _ e3 e1) (g4 i _ _ e3 e2)]
   ·rw[List.getElem?_eq_none (by omega),List.getElem?_eq_none (by omega)]
theorem evEs_get {tl:Tl}:∀ {es:List E} {us:List V},evEs tl es=some us→∀ u,u∈us→∃ e,e∈es∧evE tl e=some u
 | [],us,h,u,hu=>by simp [evEs] at h;subst h;cases hu
 | e::es,us,h,u,hu=>by
   simp only[evEs] at h
   split at h
   ·rename_i v r h1 h2
    cases h
    rcases List.mem_cons.1 hu with rfl|hu
    ·exact⟨e,List.mem_cons_self ..,h1⟩
    ·obtain⟨e',q1,q2⟩:=evEs_get h2 u hu
     exact⟨e',List.mem_cons_of_mem _ q1,q2⟩
   ·cases h
theorem ofVal_cp {w:Value} {b off:Nat} (h:ofVal w=some (.cp b off)):False:=by
 have key:∀ {v:Value},ofW v≠some (.cp b off):=fun {v} e=>by
  have:=(ofW_inv e).1;cases this
 unfold ofVal at h
 split at h
 ·split at h <;> cases h
 ·split at h <;> cases h
 ·split at h <;> cases h
 ·exact key h
section
variable {N : Nat} {G : Prg} {tl : Tl} {L : List LB} {K : Tl → List LB → Prop} {hs : Hs} {l : List IOp} {d : Nat}
theorem h_callG {f es us vargs L0 hp L2} {post:V→List LB→Prop} (ρh ρr:List Nat) (ha:evEs tl es=some us) (hpk:pickH hs ρh=some hp) (hrs:rstH hp L=some L2) (hr:rens (V.ren (posN (ρh++ρr)) 6) us=some vargs)
 (hL0:mapO (fun i=>L2[i]?) (ρh++ρr)=some L0) (hfz:L0.all LB.froz=true) (hnd:(ρh++ρr).Nodup) (hld:leadsV us ρh=true) (hc:GV G f L0 vargs post)
 (hwd:∀ lb,lb∈L0.drop ρh.length→lb.words)
 (k:∀ u L1,post u L1→(L1.drop ρh.length).take ρr.length=L0.drop ρh.length∧∃ L' u' L3 hn,mergeG L2 L1 (ρh++ρr)=some L'∧V.ren (backN (ρh++ρr) L2.length) 6 u=some u'∧hideL ρh L'=some (L3,hn)∧gones L3 hs=true∧VH N G l K (putH hn hs) ((d,u')::tl) L3):VH N G (⟨some d,.call f es,none,true⟩::l) K hs tl L:=by
 intro c Z M tm m n h X hM hS hH
 obtain⟨ρ,hρ⟩:∃ ρ,ρ=ρh++ρr:=⟨_,rfl⟩
 rw[←hρ] at hr hL0 hnd k
 have hndh:ρh.Nodup:=(List.nodup_append.1 (hρ ▸ hnd)).1
 obtain⟨hk,hpm⟩:=pickH_inv hpk
 have hdis:∀ (i:Nat) a,Z[i]?=some (some a,LB.gone)→m a=none∧a<n∧c.okA a:=fun i a hz=>by
  obtain⟨h1,h2,h3⟩:=hM.cell i a _ hz
  exact⟨h3,h2,h1⟩
 have hpin:∀ e,e∈hp→L[e.1]?=some .gone∧∃ a cells,Z[e.1]?=some (some a,.gone)∧h a=some ⟨cells,true,1⟩∧Pt (RL M Z) e.2.1 cells∧Mk0 X a e.2.2∧(e.2.2=0∨e.2.2=1):=fun e he=>by
  obtain⟨h1,h2⟩:=hpm e he
  obtain⟨g1,a,cells,g2,g3,g4,g5⟩:=hH.row e h1
  exact⟨g1,a,cells,g2,g3,g4,g5,h2⟩
 let T:List Nat:=hp.filterMap fun e=>(Z[e.1]?).bind (·.1)
 have hT:∀ a,a∈T↔∃ e,e∈hp∧Z[e.1]?=some (some a,.gone):=by
  intro a
  simp only[T,List.mem_filterMap]
  constructor
  ·rintro⟨e,he,h1⟩
   obtain⟨_,a',cells,g2,_⟩:=hpin e he
   rw[g2] at h1;simp at h1;subst h1
   exact⟨e,he,g2⟩
  ·rintro⟨e,he,h1⟩
   exact⟨e,he,by rw[h1];rfl⟩
 let hT':Mem:=fun a=>if a∈T then h a else none
 have hHp:HidR Z M L hT' [] hp:=by
  refine⟨by rw[hk];exact hndh,fun e he=>?_,fun a x hx=>?_,fun a ⟨_,h⟩=>nomatch h⟩
  ·obtain⟨g1,a,cells,g2,g3,g4,_⟩:=hpin e he
   exact⟨g1,a,cells,g2,by simp only[hT'];rw[if_pos ((hT a).2 ⟨e,he,g2⟩)];exact g3,g4,Mk0.nil _ _⟩
  ·simp only[hT'] at hx
   split at hx
   ·rename_i hin;exact(hT a).1 hin
   ·cases hx
 obtain⟨Z2,he2,hM2⟩:=unhide hM hHp hrs
 have hS2:=hS.mono he2
 have addr2:∀ (i:Nat) a,Z[i]?=some (some a,LB.gone)→∃ lb,Z2[i]?=some (some a,lb):=fun i a hz=>by
  obtain⟨⟨a1,lb1⟩,q1,q2⟩:=he2.hZ _ _ hz
  have:=(q2.cl trivial).2
  simp only at this;subst this
  exact⟨lb1,q1⟩
 have hpt:=evEs_rel hS2 ha
 rw[←hM2.hL] at hL0
 obtain⟨Z0,hZ0,hsnd⟩:=mapO_snd (Z:=[]) (f:=fun i=>Z2[i]?) (g:=fun i=>(Z2.map (·.2))[i]?) (fun j=>by simp) hL0
 obtain⟨k1,k2⟩:=mapO_inv hZ0
 have hz0:∀ (i:Nat) p,Z0[i]?=some p→∃ j,ρ[i]?=some j∧Z2[j]?=some p:=fun i p hp=>by
  have hi:i<ρ.length:=by rw[←k1];exact(List.getElem?_eq_some_iff.1 hp).1
  obtain⟨y,q1,q2⟩:=k2 i _ (List.getElem?_eq_getElem hi)
  rw[hp] at q2;cases q2
  exact⟨_,List.getElem?_eq_getElem hi,q1⟩
 have hA:∀ a,a∈T→a∈adrs Z0:=by
  intro a ha'
  obtain⟨e,he,g2⟩:=(hT a).1 ha'
  obtain⟨lb',g3⟩:=addr2 _ _ g2
  have hj:e.1∈ρ:=by rw[hρ,←hk];exact List.mem_append_left _ (List.mem_map.2 ⟨e,he,rfl⟩)
  obtain⟨i,hi⟩:=List.mem_iff_getElem?.1 hj
  obtain⟨y,q1,q2⟩:=k2 i _ hi
  rw[g3] at q1;cases q1
  exact adrs_mem.2 ⟨i,lb',q2⟩
 have hR:∀ (i:Nat) a lb,Z0[i]?=some (some a,lb)→a∉T→ρh.length≤i∧i<ρ.length:=by
  intro i a lb hi hnT
  obtain⟨j,h1,h2⟩:=hz0 i _ hi
  refine⟨?_,(List.getElem?_eq_some_iff.1 h1).1⟩
  rcases Nat.lt_or_ge i ρh.length with hlt|hge
  ·exfalso
   have hj:j∈hp.map (·.1):=by rw[hk];rw[hρ,List.getElem?_append_left hlt] at h1;exact List.mem_of_getElem? h1
   obtain⟨e,he,rfl⟩:=List.mem_map.1 hj
   obtain⟨_,a',cells,g2,_⟩:=hpin e he
   obtain⟨lb',g3⟩:=addr2 _ _ g2
   rw[h2] at g3;cases g3
   exact hnT ((hT a).2 ⟨e,he,g2⟩)
  ·exact hge
 have hbs:c.bs≤n:=by have h1:=hM.hbs;have h2:=hM.hn;omega
 have hLent:Lent c.bs n M (mrg hT' m) Z0 L0:=by
  refine⟨hsnd,fun a ha'=>?_,fun i lb hi=>?_,fun i j a l1 l2 e1 e2=>?_,fun i a lb hi=>?_⟩
  ·obtain⟨i,lb,hi⟩:=adrs_mem.1 ha'
   obtain⟨j,h1,h2⟩:=hz0 i _ hi
   obtain⟨g1,g2,_⟩:=hM2.cell _ _ _ h2
   refine⟨hM2.bsA g1,g2,?_⟩
   cases e:M a with
   | none=>rfl
   | some x=>exact absurd h2 ((hM2.hM a x e).2.2 _ _)
  ·obtain⟨j,_,h2⟩:=hz0 i _ hi
   exact hM2.nl _ _ h2
  ·obtain⟨j1,h1,h2⟩:=hz0 i _ e1
   obtain⟨j2,h3,h4⟩:=hz0 j _ e2
   have:=hM2.inj _ _ _ _ _ h2 h4
   subst this
   exact(List.getElem?_inj (List.getElem?_eq_some_iff.1 h1).1 hnd).1 (h1.trans h3.symm)
  ·obtain⟨j,h1,h2⟩:=hz0 i _ hi
   obtain⟨_,_,g5⟩:=hM2.cell _ _ _ h2
   have hfr:lb.froz=true:=List.all_eq_true.1 hfz _ (by rw[←hsnd];exact List.mem_map.2 ⟨_,List.mem_of_getElem? hi,rfl⟩)
   obtain⟨cells,g3,g4⟩:=g5.froz hfr
   exact⟨cells,g3,LB.froz_rel g4 hfr (sub_refl _) _⟩
 have hp':Pt (RL M Z0) vargs (es.map (·.ev tm)):=rens_rel (ren_rel (sub_refl _) (fun b b' p hs hz=>by
  obtain⟨y,q1,q2⟩:=k2 _ _ (posN_inv hs)
  rw[hz] at q1;cases q1
  exact⟨p,q2,grow.refl p⟩) 6) hr hpt
 obtain⟨v,m1,n1,hb,u,M1,Z1,g1,g2,B⟩:=hc.run _ _ (mrg hT' m) n M Z0 hM2.fresh hbs hM2.subM hLent hp'
 obtain⟨hn,hf⟩:=hb.fresh hM2.fresh
 obtain⟨hsame,L',u',L3,hnw,hL',hu',hhd,hgo,k'⟩:=k u _ g2
 have keep:∀ a x,a∉T→mrg hT' m a=some x→m1 a=some x:=by
  intro a x hnT hx
  by_cases hin:a∈adrs Z0
  ·obtain⟨i,lb,hi⟩:=adrs_mem.1 hin
   obtain⟨q1,q2⟩:=hR i a lb hi hnT
   have hLi:L0[i]?=some lb:=by rw[←hsnd,List.getElem?_map,hi];rfl
   have hdr:(L0.drop ρh.length)[i-ρh.length]?=some lb:=by rw[List.getElem?_drop,show ρh.length+(i-ρh.length)=i by omega];exact hLi
   obtain⟨p1,w1,w2⟩:=B.ext i _ hi
   have hp1:p1.2=lb:=by
    have h9:((Z1.map (·.2)).drop ρh.length).take ρr.length=L0.drop ρh.length:=hsame
    have h10:=congrArg (fun l:List LB=>l[i-ρh.length]?) h9
    simp only[List.getElem?_take,List.getElem?_drop] at h10
    rw[show ρh.length+(i-ρh.length)=i by omega,if_pos (by rw[hρ,List.length_append] at q2;omega),hLi,List.getElem?_map,w1] at h10
    simpa using h10
   have ha1:p1.1=some a:=by
    obtain⟨a1,lb1⟩:=p1
    simp only at hp1
    subst hp1
    unfold grow at w2
    cases lb1 with
    | cell row=>exact w2.2
    | gone=>exact w2.2
    | arr s rows =>
      rcases w2 with⟨r1,e1,_,e3⟩|e1
      ·cases e1;exact e3 rfl
      ·cases e1
    | dead=>obtain⟨_,_,h9⟩:=hLent.cell i a _ hi;exact h9.elim
   obtain⟨a1,lb1⟩:=p1
   simp only at hp1 ha1
   subst hp1 ha1
   obtain⟨_,_,cells1,w3,w4⟩:=B.cell i a lb1 w1
   obtain⟨cells0,w5,w6⟩:=hLent.cell i a lb1 hi
   have:=words_eq w6 w4 (hwd lb1 (List.mem_of_getElem? hdr))
   subst this
   rw[w5] at hx;cases hx;exact w3
  ·exact B.keep a x hin hx
 obtain⟨Z',hM',hE,hback,_⟩:=merge_st hM2 hn hf (fun _ _ _ hz e=>hb.dom _ (hM2.cell _ _ _ hz).2.1 e) hnd hZ0 B.hma B.hM (fun i a lb hi=>by
  obtain⟨h1,h2,cells,h3,h4⟩:=B.cell i a lb hi
  exact⟨h1,h2,cells,h3,fun Z'=>LB.froz_rel h4 (B.froz i _ hi) (sub_refl _) Z'⟩) B.nil B.inj B.keep B.ext B.lo hL'
 have hrel:RL M1 Z' u' v:=ren_rel (sub_refl _) (fun b b' p hs hz=>⟨p,hback _ _ _ hs hz,grow.refl p⟩) 6 u u' v hu' g1
 obtain⟨Z3,m2,h3,he3,hM3,hH3,hm12,hd3⟩:=hide_all hM' hhd
 have hk3:=hideL_keys hhd
 have hE3:=hE.tr he3
 have hEE:=he2.tr hE3
 have addr3:∀ (i:Nat) a,Z[i]?=some (some a,LB.gone)→∃ lb,Z3[i]?=some (some a,lb):=fun i a hz=>by
  obtain⟨⟨a1,lb1⟩,q1,q2⟩:=hEE.hZ _ _ hz
  have:=(q2.cl trivial).2
  simp only at this;subst this
  exact⟨lb1,q1⟩
 have addr3g:∀ e a,e∈hs→Z[e.1]?=some (some a,LB.gone)→Z3[e.1]?=some (some a,LB.gone):=fun e a he' hz=>by
  obtain⟨lb,q1⟩:=addr3 _ _ hz
  obtain⟨a1,q2⟩:=hM3.getZ (gones_inv hgo e he')
  rw[q1] at q2;cases q2;exact q1
 have hh3:∀ a x,h3 a=some x→a∈T:=fun a x hx=>by
  obtain⟨e,e1,e2⟩:=hH3.dom a x hx
  have hj:e.1∈hp.map (·.1):=by rw[hk,←hk3];exact List.mem_map.2 ⟨e,e1,rfl⟩
  obtain⟨e',he',he1⟩:=List.mem_map.1 hj
  obtain⟨_,a',cells,g2,_⟩:=hpin e' he'
  obtain⟨lb,q1⟩:=addr3 _ _ g2
  rw[he1,e2] at q1;cases q1
  exact(hT a).2 ⟨e',he',g2⟩
 have hT3:∀ a,a∈T→∃ x,h3 a=some x:=fun a ha'=>by
  obtain⟨e,he,g2⟩:=(hT a).1 ha'
  have hj:e.1∈hnw.map (·.1):=by rw[hk3,←hk];exact List.mem_map.2 ⟨e,he,rfl⟩
  obtain⟨e',he',he1⟩:=List.mem_map.1 hj
  obtain⟨_,a',cells,q2,q3,_⟩:=hH3.row e' he'
  obtain⟨lb,q1⟩:=addr3 _ _ g2
  rw[he1,q1] at q2;cases q2
  exact⟨_,q3⟩
 let h2:Mem:=mrg h3 fun a=>if a∈T then none else h a
 have h2T:∀ a,a∈T→h2 a=h3 a:=fun a ha'=>by
  obtain⟨x,hx⟩:=hT3 a ha'
  show mrg h3 _ a=h3 a
  rw[mrg_some hx,hx]
 have h2N:∀ a,a∉T→h2 a=h a:=fun a ha'=>by
  have e:h3 a=none:=by
   cases e:h3 a with
   | none=>rfl
   | some x=>exact absurd (hh3 a x e) ha'
  show mrg h3 _ a=h a
  rw[mrg_none e,if_neg ha']
 have hdh:∀ a x,h a=some x→m a=none∧a<n:=fun a x hx=>by
  obtain⟨e,e1,e2⟩:=hH.dom a x hx
  obtain⟨q1,q2,_⟩:=hdis _ _ e2
  exact⟨q1,q2⟩
 have hTh:∀ a,a∈T→∃ cells,h a=some ⟨cells,true,1⟩∧XOk (.call f es) X a∧m a=none∧a<n:=fun a ha'=>by
  obtain⟨e,he,g2⟩:=(hT a).1 ha'
  obtain⟨_,a',cells,q2,q3,_,q5,q8⟩:=hpin e he
  rw[g2] at q2;cases q2
  obtain⟨q6,q7,_⟩:=hdis _ _ g2
  exact⟨cells,q3,q5.ok (q8.imp id fun h=>⟨h,rfl⟩),q6,q7⟩
 have hmh:∀ a x,a∉T→(mrg hT' m a=some x↔m a=some x):=fun a x ha'=>by
  have e:hT' a=none:=by simp only[hT'];rw[if_neg ha']
  rw[mrg_none e]
 have hm2:∀ a x,m2 a=some x→m1 a=some x∧a∉T:=fun a x hx=>by
  have hn3:h3 a=none:=by
   cases e:h3 a with
   | none=>rfl
   | some y=>rw[hd3 a y e] at hx;cases hx
  refine⟨by rw[hm12,mrg_none hn3];exact hx,fun ha'=>?_⟩
  obtain⟨y,hy⟩:=hT3 a ha'
  rw[hn3] at hy;cases hy
 have hv:HvR (.call f es) tm n h X T m (mrg hT' m) m1 h2 m2:=by
  refine⟨fun a x e=>?_,fun a ha'=>?_,fun a x e hne=>keep a x hne e,fun a x e hne=>by rw[h2N a hne];exact e,fun a x e=>?_,fun a x e=>?_,fun a x e=>?_⟩
  ·rcases mrg_inv e with e1|⟨_,e1⟩
   ·simp only[hT'] at e1
    split at e1
    ·exact .inl ⟨by assumption,e1⟩
    ·cases e1
   ·exact .inr e1
  ·obtain⟨cells,q1,q2,q3,q4⟩:=hTh a ha'
   refine⟨q2,q3,⟨_,q1,mrg_some (by simp only[hT'];rw[if_pos ha'];exact q1)⟩,?_⟩
   obtain⟨e,he,g2⟩:=(hT a).1 ha'
   obtain⟨off,hoff⟩:=leadsV_inv hld e.1 (by rw[←hk];exact List.mem_map.2 ⟨e,he,rfl⟩)
   obtain⟨ex,hex,hev⟩:=evEs_get ha _ hoff
   have hcp:=evE_rel hS hev
   obtain⟨a1,lb,r1,r2⟩:=hcp.cp_inv
   rw[g2] at r1;cases r1
   cases ex with
   | t s=>exact⟨s,⟨a,off,none⟩,by simp only[O.slots,List.mem_flatMap];exact⟨_,hex,by simp [E.slots]⟩,rfl,rfl,.inl r2⟩
   | k w =>
     exfalso
     exact ofVal_cp hev
  ·by_cases ha':a∈T
   ·rw[h2T a ha'] at e
    refine .inr ⟨.inl ha',?_⟩
    rw[hm12];exact mrg_some e
   ·rw[h2N a ha'] at e
    exact .inl ⟨(hdh a x e).2,ha',e⟩
  ·obtain⟨q1,q2⟩:=hm2 a x e
   rcases Nat.lt_or_ge a n with hlt|hge
   ·refine .inl ⟨hlt,?_⟩
    cases e1:m a with
    | some y =>
      have:=keep a y q2 ((hmh a y q2).2 e1)
      rw[q1] at this;exact this.symm
    | none =>
      have:mrg hT' m a=none:=by
       cases e2:mrg hT' m a with
       | none=>rfl
       | some y=>rw[(hmh a y q2).1 e2] at e1;cases e1
      have:=hb.dom a hlt this
      rw[q1] at this;cases this
   ·exact .inr ⟨hge,q1⟩
  ·by_cases ha':a∈T
   ·rw[h2T a ha'] at e;exact hd3 a x e
   ·rw[h2N a ha'] at e
    obtain⟨q1,q2⟩:=hdh a x e
    cases e1:m2 a with
    | none=>rfl
    | some y =>
      have h5:=(hm2 a y e1).1
      have:mrg hT' m a=none:=by
       cases e2:mrg hT' m a with
       | none=>rfl
       | some y=>rw[(hmh a y ha').1 e2] at q1;cases q1
      have:=hb.dom a q2 this
      rw[h5] at this;cases this
 have hHn:HidR Z3 M1 L3 h2 (XAdd (.call f es) T X) (putH hnw hs):=by
  refine⟨by rw[putH_keys];exact hH.nd,fun e' he'=>?_,fun a x hx=>?_,fun a ha'=>?_⟩
  ·obtain⟨e,he,hc'⟩:=putH_mem he'
   rcases hc' with⟨row,hl1,rfl⟩|⟨hl1,rfl⟩
   ·obtain⟨e2,r1,r2,r3⟩:=lookH_inv hl1
    obtain⟨q1,a,cells,q2,q3,q4,_⟩:=hH3.row e2 r1
    rw[r2] at q1 q2;rw[r3] at q4
    have haT:=hh3 a _ q3
    refine⟨q1,a,cells,q2,?_,q4,?_⟩
    ·rw[h2T a haT];exact q3
    ·obtain⟨_,a',cells',w2,_,_,w5⟩:=hH.row e he
     have hin:e.1∈hp.map (·.1):=by rw[hk,←hk3,←r2];exact List.mem_map.2 ⟨e2,r1,rfl⟩
     obtain⟨e3,v1,v2⟩:=List.mem_map.1 hin
     have hee:e3=e:=hsuniq hH.nd (hpm e3 v1).1 he v2
     subst hee
     have hpp:=hpin e3 v1
     obtain⟨_,a2,_,w6,_,_,w7,w8⟩:=hpp
     have h9:=addr3g e3 a2 he w6
     rw[q2] at h9;cases h9
     exact w7.call w8 rfl
   ·obtain⟨q1,a,cells,q2,q3,q4,q5⟩:=hH.row e' he
    have hnT:a∉T:=fun ha'=>by
     obtain⟨e2,r1,r2⟩:=(hT a).1 ha'
     have:=hM.inj _ _ _ _ _ q2 r2
     refine lookH_none hl1 ?_
     rw[hk3,←hk,this];exact List.mem_map.2 ⟨e2,r1,rfl⟩
    refine⟨gones_inv hgo e' he,a,cells,addr3g e' a he q2,by rw[h2N a hnT];exact q3,Pt.mono q4 fun _ _=>RL.mono hEE,q5.add hnT⟩
  ·have:∃ e,e∈hs∧Z[e.1]?=some (some a,LB.gone):=by
    by_cases ha':a∈T
    ·obtain⟨e,he,g2⟩:=(hT a).1 ha'
     exact⟨e,(hpm e he).1,g2⟩
    ·rw[h2N a ha'] at hx;exact hH.dom a x hx
   obtain⟨e,he,g2⟩:=this
   have hj:e.1∈(putH hnw hs).map (·.1):=by rw[putH_keys];exact List.mem_map.2 ⟨e,he,rfl⟩
   obtain⟨e',r1,r2⟩:=List.mem_map.1 hj
   exact⟨e',r1,by rw[r2];exact addr3g e a he g2⟩
  ·by_cases hin:a∈T
   ·rw[h2T a hin];exact hT3 a hin
   ·rcases XAdd.xin.1 ha' with h1|h1
    ·exact absurd h1 hin
    ·rw[h2N a hin];exact hH.xs a h1
 obtain⟨tm4,m4,n4,Z4,M4,tl4,L4,hb4,he4,r⟩:=k' c Z3 M1 (upd tm d v) m2 n1 h2 (XAdd (.call f es) T X) hM3 (((hS.mono (he2.tr hE)).put hrel).mono he3) hHn
 exact⟨tm4,m4,n4,Z4,M4,tl4,L4,.hHvC (T:=T) (o:=⟨some d,.call f es,none,true⟩) rfl (fun g b e=>by cases e) rfl hb hv hb4,hEE.trans he4,r⟩
theorem h_step {o:O} {f:Nat} {post:V→Prop} (hg:gones L hs=true) (k:∀ u,post u→VH N G l K hs ((d,u)::tl) L)
 (h:∀ (c:Cx N) Z M tm m n,StM c Z M L m n→Slots M Z tl tm→∃ args,o.callee tm=some (f,args)∧∃ v m1 n1 M2 u,Big G (if true=true then n else c.bs) (.call f args) m n (.ret v) m1 n1∧ExtV Z M Z M2∧StM c Z M2 L m1 n1∧RL M2 Z u v∧post u) :
 VH N G (⟨some d,o,none,true⟩::l) K hs tl L:=by
 intro c Z M tm m n hm X hM hS hH
 obtain⟨args,hc,v,m1,n1,M2,u,hb,he,hM2,hr,hp⟩:=h c Z M tm m n hM hS
 obtain⟨tm2,m2,n2,Z2,M3,tl2,L2,hb2,he2,r⟩:=k u hp c Z M2 (upd tm d v) m1 n1 hm X hM2 ((hS.mono he).put hr) (hH.mono he hM2 hg)
 exact⟨tm2,m2,n2,Z2,M3,tl2,L2,.hCall rfl (fun g b e=>by cases e) hc hb hb2,he.trans he2,r⟩
theorem h_callLP {f es us us' p} {post:V→Prop} (ha:evEs tl es=some us) (hz:frs (fr L 6) us=some (us',p)) (ho:∀ e,e∈p→e.1=e.2) (hc:CV G f us' post) (hfl:∀ u,post u→V.flat 6 u=true) (hg:gones L hs=true) (k:∀ u,post u→VH N G l K hs ((d,u)::tl) L):VH N G (⟨some d,.call f es,none,true⟩::l) K hs tl L:=
 h_step hg k fun c Z M tm m n hM hS=>⟨_,rfl,call_local hM (evEs_rel hS ha) hz ho hc hfl⟩
theorem h_callL {f es us us' p u} (ha:evEs tl es=some us) (hz:frs (fr L 6) us=some (us',p)) (ho:∀ e,e∈p→e.1=e.2) (hc:CV G f us' (fun v=>v=u)) (hfl:V.flat 6 u=true) (hg:gones L hs=true) (k:VH N G l K hs ((d,u)::tl) L):VH N G (⟨some d,.call f es,none,true⟩::l) K hs tl L:=
 h_callLP ha hz ho hc (fun u' e=>by cases e;exact hfl) hg fun u' e=>by cases e;exact k
end
end Go.Proofs.YtoppcdecolponaaGreat.AL
namespace Go.Proofs.YtoppcdecolponaaGreat.AL
open Go
set_option linter.unusedVariables false
set_option linter.unusedSimpArgs false
section
variable {N : Nat} {G : Prg} {tl : Tl} {L : List LB} {K : Tl → List LB → Prop} {l : List IOp} {q : Bool} {d : Nat}
theorem s_calliLP {f es g caps us us' p} {post:V→Prop} (hf:evE tl f=some (.fn g caps)) (ha:evEs tl es=some us) (hz:frs (fr L 6) (us++caps)=some (us',p)) (ho:∀ e,e∈p→e.1=e.2) (hc:CV G g us' post) (hfl:∀ u,post u→V.flat 6 u=true) (k:∀ u,post u→VO N G l K ((d,u)::tl) L):VO N G (⟨some d,.calli f es,none,q⟩::l) K tl L:=
 call_step k fun c Z M tm m n hM hS=>let ⟨args,h1,h2⟩:=calli_args hS hf ha;⟨args,h1,call_local hM h2 hz ho hc hfl⟩
theorem s_calliL {f es g caps us us' p u} (hf:evE tl f=some (.fn g caps)) (ha:evEs tl es=some us) (hz:frs (fr L 6) (us++caps)=some (us',p)) (ho:∀ e,e∈p→e.1=e.2) (hc:CV G g us' (fun v=>v=u)) (hfl:V.flat 6 u=true) (k:VO N G l K ((d,u)::tl) L):VO N G (⟨some d,.calli f es,none,q⟩::l) K tl L:=
 s_calliLP hf ha hz ho hc (fun u' e=>by cases e;exact hfl) fun u' e=>by cases e;exact k
theorem s_eqnilS {g:Bool} {x:E} {s:Nat} {rows:List (List V)} (hx:evE tl x=some (.sl s rows)) (kf:VO N G l K ((d,.w (.bool g))::tl) L) (kt:rows=[]→VO N G l K ((d,.w (.bool !g))::tl) L):VO N G (⟨some d,.eqnil g x,none,q⟩::l) K tl L:=by
 intro c Z M tm m n hM hS
 have h1:=(evE_rel hS hx).sl_inv
 obtain⟨e,he⟩:∃ e,x.ev tm=e:=⟨_,rfl⟩
 rw[he] at h1
 cases h1 with
 | sl hc ha hl hn hk hr =>
   rename_i a cp rows'
   have go:∀ b:Bool,b=(bif g then a.isSome else a.isNone)→VO N G l K ((d,.w (.bool b))::tl) L→∃ tm1 m1 n1 Z1 M1 tl1 L1,Big G c.bs (.ops (⟨some d,.eqnil g x,none,q⟩::l) tm) m n (.exit .normal tm1) m1 n1∧ExtN N Z M Z1 M1∧StM c Z1 M1 L1 m1 n1∧Slots M1 Z1 tl1 tm1∧K tl1 L1:=by
    intro b hb kk
    obtain⟨tm2,m2,n2,Z2,M2,tl2,L2,hb2,r⟩:=kk c Z M (upd tm d (.bool b)) m n hM (hS.put (.fz (.w rfl)))
    refine⟨tm2,m2,n2,Z2,M2,tl2,L2,op_run (o:=⟨some d,.eqnil g x,none,q⟩) (m1:=m) (n1:=n) rfl (.inl ?_) hb2,r⟩
    simp only[stepO,he,hb]
    cases g <;> rfl
   cases a with
   | some ad=>exact go g (by cases g <;> rfl) kf
   | none =>
     have:rows=[]:=by
      rcases rows' with _|⟨r,rs⟩
      ·exact List.eq_nil_of_length_eq_zero (by simpa using hl.symm)
      ·obtain⟨⟨h2,_⟩,_⟩:=ha (by simp)
       cases h2
     exact go (!g) (by cases g <;> rfl) (kt this)
end
end Go.Proofs.YtoppcdecolponaaGreat.AL
namespace Go.Proofs.YtoppcdecolponaaGreat.AL
open Go
set_option linter.unusedVariables false
set_option linter.unusedSimpArgs false
def LB.ren (s:Nat→Option Nat):LB→Option LB
 | .cell row=>match rens (V.ren s 6) row with
   | some r=>some (.cell r)
   | none=>none
 | .arr k rows=>some (.arr k rows)
 | .gone=>none
 | .dead=>some .dead
theorem LB.ren_grow {s lb lb' a} (h:LB.ren s lb=some lb'):grow (a,lb) (a,lb'):=by
 cases lb with
 | cell row =>
   simp only[LB.ren] at h
   split at h
   ·cases h;exact⟨trivial,rfl⟩
   ·cases h
 | arr k rows=>cases h;exact grow.refl _
 | gone=>cases h
 | dead=>cases h;exact grow.refl _
theorem LB.ren_rel {M:Mem} {Z Z':Zl} {s:Nat→Option Nat} (hs:∀ (b b':Nat) p,s b=some b'→Z[b]?=some p→∃ p',Z'[b']?=some p'∧grow p p') {lb lb' cells} (h:LB.ren s lb=some lb') (hr:LB.rel M Z lb cells):LB.rel M Z' lb' cells:=by
 cases lb with
 | cell row =>
   simp only[LB.ren] at h
   split at h
   ·rename_i r e
    cases h
    exact rens_rel (R:=RL M Z) (R':=RL M Z') (AL.ren_rel (sub_refl _) hs 6) e hr
   ·cases h
 | arr k rows=>cases h;exact hr
 | gone=>cases h
 | dead=>cases h;exact hr.elim
theorem LB.ren_at {M:Mem} {Z Z':Zl} {m:Mem} {a:Nat} {s:Nat→Option Nat} (hs:∀ (b b':Nat) p,s b=some b'→Z[b]?=some p→∃ p',Z'[b']?=some p'∧grow p p') {lb lb'} (h:LB.ren s lb=some lb') (hr:LB.at M Z m a lb):LB.at M Z' m a lb':=by
 cases lb with
 | cell row =>
   obtain⟨cells,h1,h2⟩:=hr
   have h3:=LB.ren_rel hs h h2
   simp only[LB.ren] at h
   split at h
   ·cases h;exact⟨cells,h1,h3⟩
   ·cases h
 | arr k rows=>cases h;exact hr
 | gone=>cases h
 | dead=>exact hr.elim
def selL (L:List LB) (I:List Nat):Option (List LB):=mapO (fun i=>match L[i]? with
 | some lb=>LB.ren (posN I) lb
 | none=>none) I
theorem compact {N:Nat} {c:Cx N} {Z M L m n} (hM:StM c Z M L m n) {K:List Nat} {F:List LB} (hK:(List.range N++K).Nodup) (hF:selL L (List.range N++K)=some F) :
 ∃ Z',ExtN N Z M Z' M∧StM c Z' M F m n∧∀ (b b':Nat) p,posN (List.range N++K) b=some b'→Z[b]?=some p→∃ p',Z'[b']?=some p'∧grow p p':=by
 obtain⟨I,hI⟩:∃ I,I=List.range N++K:=⟨_,rfl⟩
 rw[←hI] at hK hF ⊢
 obtain⟨f1,f2⟩:=mapO_inv hF
 let Z':Zl:=(List.range I.length).map fun j=>match I[j]? with
  | some i=>(match Z[i]? with|some p=>p.1|none=>none,match F[j]? with|some lb=>lb|none=>.dead)
  | none=>(none,.dead)
 have hget:∀ (j:Nat) q,Z'[j]?=some q→∃ i lb lb',I[j]?=some i∧Z[i]?=some (q.1,lb)∧LB.ren (posN I) lb=some lb'∧q.2=lb'∧F[j]?=some lb':=by
  intro j q hq
  have hj:j<I.length:=by
   have:=(List.getElem?_eq_some_iff.1 hq).1
   simpa[Z'] using this
  have hi:I[j]?=some I[j]:=List.getElem?_eq_getElem hj
  obtain⟨lb',g1,g2⟩:=f2 j _ hi
  split at g1
  ·rename_i lb hl
   obtain⟨a,ha⟩:=hM.getZ hl
   simp only[Z',List.getElem?_map,List.getElem?_range hj,Option.map_some,Option.some.injEq] at hq
   rw[hi] at hq
   simp only[ha,g2] at hq
   subst hq
   exact⟨_,lb,lb',hi,ha,g1,rfl,g2⟩
  ·cases g1
 have hput:∀ (j i:Nat) p,I[j]?=some i→Z[i]?=some p→∃ lb',LB.ren (posN I) p.2=some lb'∧Z'[j]?=some (p.1,lb'):=by
  intro j i p hi hp
  have hj:=(List.getElem?_eq_some_iff.1 hi).1
  obtain⟨lb',g1,g2⟩:=f2 j _ hi
  have hl:L[i]?=some p.2:=by rw[←hM.hL,List.getElem?_map,hp];rfl
  rw[hl] at g1
  refine⟨lb',g1,?_⟩
  simp only[Z',List.getElem?_map,List.getElem?_range hj,Option.map_some]
  rw[hi]
  simp only[hp,g2]
 have hs:∀ (b b':Nat) p,posN I b=some b'→Z[b]?=some p→∃ p',Z'[b']?=some p'∧grow p p':=by
  intro b b' p h1 h2
  obtain⟨lb',g1,g2⟩:=hput b' b p (posN_inv h1) h2
  exact⟨_,g2,LB.ren_grow g1⟩
 have hrange:∀ (j:Nat),j<N→I[j]?=some j:=by
  intro j hj
  rw[hI,List.getElem?_append_left (by simpa using hj),List.getElem?_range hj]
 have hhigh:∀ (j i:Nat),N≤j→I[j]?=some i→N≤i:=by
  intro j i hj hi
  rcases Nat.lt_or_ge i N with h|h
  ·have h1:=hrange i h
   have h2:=(List.getElem?_inj (List.getElem?_eq_some_iff.1 h1).1 hK).1 (h1.trans hi.symm)
   omega
  ·exact h
 refine⟨Z',⟨sub_refl _,fun b p hb hp=>?_⟩,⟨hM.hbs,hM.hn,hM.fresh,?_,fun b x hb=>?_,hM.h0,hM.f0,hM.hma,hM.hbr,fun j a lb' hj=>?_,fun j lb' hj=>?_,fun j1 j2 a l1 l2 h1 h2=>?_,fun j a lb' hj=>?_⟩,hs⟩
 ·obtain⟨lb',g1,g2⟩:=hput b b p (hrange b hb) hp
  exact⟨_,g2,LB.ren_grow g1⟩
 ·apply List.ext_getElem?
  intro j
  rw[List.getElem?_map]
  cases e:Z'[j]? with
  | some q =>
    obtain⟨i,lb,lb',_,_,_,g4,g5⟩:=hget j q e
    rw[g5,←g4];rfl
  | none =>
    have:I.length≤j:=by
     have:=List.getElem?_eq_none_iff.1 e
     simpa[Z'] using this
    rw[List.getElem?_eq_none (by omega)];rfl
 ·obtain⟨h1,h2,h3⟩:=hM.hM b x hb
  refine⟨h1,h2,fun j lb' e=>?_⟩
  obtain⟨i,lb,_,_,g2,_⟩:=hget j _ e
  exact h3 i lb g2
 ·obtain⟨i,lb,lb2,g1,g2,g3,g4,_⟩:=hget j _ hj
  simp only at g2 g4
  subst g4
  obtain⟨h1,h2,h3⟩:=hM.cell i a lb g2
  exact⟨h1,h2,LB.ren_at hs g3 h3⟩
 ·obtain⟨i,lb,lb2,g1,g2,g3,g4,_⟩:=hget j _ hj
  simp only at g2 g4
  subst g4
  rcases hM.nl i lb g2 with e|⟨k,e⟩
  ·subst e;cases g3;exact .inl rfl
  ·subst e;cases g3;exact .inr ⟨k,rfl⟩
 ·obtain⟨i1,lb1,_,g1,g2,_⟩:=hget j1 _ h1
  obtain⟨i2,lb2,_,q1,q2,_⟩:=hget j2 _ h2
  have:=hM.inj i1 i2 a lb1 lb2 g2 q2
  subst this
  exact(List.getElem?_inj (List.getElem?_eq_some_iff.1 g1).1 hK).1 (g1.trans q1.symm)
 ·obtain⟨i,lb,_,g1,g2,_⟩:=hget j _ hj
  rcases hM.lo i a lb g2 with h|h
  ·exact .inl h
  ·rcases Nat.lt_or_ge j N with hjN|hjN
   ·rw[hrange j hjN] at g1;cases g1;exact .inr h
   ·have h1:=hhigh j i hjN g1
    have h2:=c.hN
    have h3:=(List.getElem?_eq_some_iff.1 h).1
    omega
structure HasR (N:Nat) (tl:Tl) (L:List LB) (S:Tl) (F:List LB):Prop where
 h:∃ (K:List Nat) (F1:List LB),(List.range N++K).Nodup∧selL L (List.range N++K)=some F1∧F1=F∧∀ p,p∈S→∃ v,look tl p.1=some v∧V.ren (posN (List.range N++K)) 6 v=some p.2
def renS (N:Nat) (K:List Nat) (tl:Tl):List (Nat×V)→Prop
 | []=>True
 | (i,u)::S=>(match look tl i with
   | some v=>V.ren (posN (List.range N++K)) 6 v
   | none=>none)=some u∧renS N K tl S
theorem renS_mem {N K tl}:∀ {S:List (Nat×V)},renS N K tl S→∀ p,p∈S→∃ v,look tl p.1=some v∧V.ren (posN (List.range N++K)) 6 v=some p.2
 | [],_,p,hp=>by cases hp
 | (i,u)::S,h,p,hp=>by
   rcases List.mem_cons.1 hp with rfl|hp
   ·have h1:=h.1
    split at h1
    ·rename_i v e;exact⟨v,e,h1⟩
    ·cases h1
   ·exact renS_mem h.2 p hp
theorem hasR {N:Nat} {tl:Tl} {L F F1:List LB} {S:Tl} (K:List Nat) (h1:(List.range N++K).Nodup) (h2:selL L (List.range N++K)=some F1) (h3:renS N K tl S) (h4:F1=F):HasR N tl L S F:=⟨K,F1,h1,h2,h4,renS_mem h3⟩
end Go.Proofs.YtoppcdecolponaaGreat.AL
namespace Go.Proofs.YtoppcdecolponaaGreat.AL
open Go
set_option linter.unusedVariables false
set_option linter.unusedSimpArgs false
def onlyL:Nat→List LB→List LB
 | 0,x::_=>[x]
 | b+1,_::L=>.gone::onlyL b L
 | _,[]=>[]
theorem onlyL_at:∀ {b:Nat} {L:List LB} {i:Nat} {lb:LB},(onlyL b L)[i]?=some lb→lb≠.gone→i=b∧L[i]?=some lb
 | 0,x::L,i,lb,h,hn=>by
   cases i with
   | zero=>simp [onlyL] at h;subst h;exact⟨rfl,rfl⟩
   | succ i=>simp [onlyL] at h
 | b+1,x::L,i,lb,h,hn=>by
   cases i with
   | zero=>simp [onlyL] at h;exact absurd h.symm hn
   | succ i =>
     obtain⟨h1,h2⟩:=onlyL_at (b:=b) (L:=L) (i:=i) (by simpa[onlyL] using h) hn
     exact⟨by omega,by simpa using h2⟩
 | b,[],i,lb,h,hn=>by simp [onlyL] at h
section
variable {N : Nat} {G : Prg} {tl : Tl} {L : List LB}
theorem frz_core {c:Cx N} {Z M m n} (hM:StM c Z M L m n) {b k:Nat} {rows:List (List V)} (hb:L[b]?=some (.arr k rows)) (hN:N≤b) :
 ∃ Z1 M1,ExtV Z M Z1 M1∧StM c Z1 M1 (L.set b .dead) m n∧∀ a,Z[b]?=some (some a,.arr k rows)→M1 a=m a:=by
 obtain⟨oa,ha⟩:=hM.getZ hb
 have hlt:b<Z.length:=(List.getElem?_eq_some_iff.1 ha).1
 have hget:∀ (i:Nat) p,(Z.set b ((none:Option Nat),LB.dead))[i]?=some p→(i≠b∧Z[i]?=some p)∨(i=b∧p=(none,.dead)):=by
  intro i p hp
  rw[List.getElem?_set] at hp
  by_cases e:b=i
  ·subst e;rw[if_pos rfl,if_pos hlt] at hp;cases hp;exact .inr ⟨rfl,rfl⟩
  ·rw[if_neg e] at hp;exact .inl ⟨fun e'=>e e'.symm,hp⟩
 have hz1:∀ (b':Nat) p,Z[b']?=some p→∃ p1,(Z.set b ((none:Option Nat),LB.dead))[b']?=some p1∧grow p p1:=by
  intro i p hp
  by_cases e:b=i
  ·subst e;rw[ha] at hp;cases hp
   exact⟨(none,.dead),by rw[List.getElem?_set,if_pos rfl,if_pos hlt],Or.inr (Eq.refl LB.dead)⟩
  ·exact⟨p,by rw[List.getElem?_set,if_neg e];exact hp,grow.refl p⟩
 obtain⟨M1,hs,hM1,hMa⟩:∃ M1,sub M M1∧(∀ b' x,M1 b'=some x→(M b'=some x∨(oa=some b'∧m b'=some x)))∧∀ a,oa=some a→M1 a=m a:=by
  cases oa with
  | none=>exact⟨M,sub_refl _,fun b' x h=>.inl h,fun a e=>by cases e⟩
  | some a =>
    refine⟨upd M a (m a),fun b' x h=>?_,fun b' x h=>?_,fun a' e=>by cases e;simp [upd]⟩
    ·have:b'≠a:=fun e=>by subst e;exact(hM.hM _ _ h).2.2 _ _ ha
     simp only[upd,if_neg this];exact h
    ·simp only[upd] at h
     split at h
     ·rename_i e;subst e;exact .inr ⟨rfl,h⟩
     ·exact .inl h
 have hext:ExtV Z M (Z.set b ((none:Option Nat),LB.dead)) M1:=⟨hs,hz1⟩
 refine⟨_,M1,hext,⟨hM.hbs,hM.hn,hM.fresh,by simp [List.map_set,hM.hL],fun b' y hb'=>?_,hM.h0,hM.f0,sub_trans hM.hma hs,hM.hbr,fun i a' lb hi=>?_,fun i lb hi=>?_,fun i j a' l1 l2 hi hj=>?_,fun i a' lb hi=>?_⟩,fun a hza=>?_⟩
 ·rcases hM1 b' y hb' with h|⟨h,h'⟩
  ·obtain⟨g1,g2,g3⟩:=hM.hM b' y h
   refine⟨g1,g2,fun i lb e=>?_⟩
   rcases hget i _ e with⟨_,e1⟩|⟨_,e1⟩
   ·exact g3 i lb e1
   ·cases e1
  ·subst h
   refine⟨h',.inr ?_,fun i lb e=>?_⟩
   ·rcases hM.lo b b' _ ha with h|h
    ·exact h
    ·have h2:=c.hN
     have h3:=(List.getElem?_eq_some_iff.1 h).1
     omega
   ·rcases hget i _ e with⟨hne,e1⟩|⟨_,e1⟩
    ·exact hne (hM.inj _ _ _ _ _ e1 ha)
    ·cases e1
 ·rcases hget i _ hi with⟨_,e1⟩|⟨_,e1⟩
  ·obtain⟨g1,g2,g3⟩:=hM.cell i a' lb e1
   exact⟨g1,g2,g3.mono hext rfl⟩
  ·cases e1
 ·rcases hget i _ hi with⟨_,e1⟩|⟨_,e1⟩
  ·exact hM.nl i lb e1
  ·cases e1;exact .inl rfl
 ·rcases hget i _ hi with⟨_,e1⟩|⟨_,e1⟩ <;> rcases hget j _ hj with⟨_,e2⟩|⟨_,e2⟩
  ·exact hM.inj i j a' l1 l2 e1 e2
  ·cases e2
  ·cases e1
  ·cases e1
 ·rcases hget i _ hi with⟨_,e1⟩|⟨_,e1⟩
  ·exact hM.lo i a' lb e1
  ·cases e1
 ·rw[ha] at hza;cases hza;exact hMa a rfl
theorem s_frz {l:List IOp} {K:Tl→List LB→Prop} (b i:Nat) {k:Nat} {rows:List (List V)} {v u:V} {p:List (Nat×Nat)} {L1:List LB} (hb:L[b]?=some (.arr k rows)) (hN:N≤b) (hi:look tl i=some v) (hu:fr (onlyL b L) 6 v=some (u,p)) (ho:∀ e,e∈p→e.1=e.2) (hL1:setN L b .dead=some L1)
 (kk:VO N G l K ((i,u)::tl) L1):VO N G l K tl L:=by
 intro c Z M tm m n hM hS
 obtain⟨_,rfl⟩:=setN_inv hL1
 obtain⟨Z1,M1,he,hM1,ha⟩:=frz_core hM hb hN
 have hr:RF M1 u (tm i):=fr_relM hM he.hM (fun i lb h h'=>(onlyL_at h h').2) (fun i a lb hl hg hz=>by
  obtain⟨rfl,h2⟩:=onlyL_at hl hg
  rw[hb] at h2;cases h2
  exact ha a hz) 6 v u p _ hu ho (hS i v hi)
 have hS1:Slots M1 Z1 ((i,u)::tl) tm:=fun t w hw=>by
  simp only[look] at hw
  cases e:Nat.beq t i with
  | true=>rw[e] at hw;cases hw;rw[Nat.eq_of_beq_eq_true e];exact .fz hr
  | false=>rw[e] at hw;exact(hS t w hw).mono he
 obtain⟨tm2,m2,n2,Z3,M2,tl2,L3,hb2,he2,r⟩:=kk c Z1 M1 tm m n hM1 hS1
 exact⟨tm2,m2,n2,Z3,M2,tl2,L3,hb2,he.trans he2,r⟩
end
theorem Wk.nar {a b:V} (h:Wk a b) (hn:a.nar=true):b.nar=true:=by
 cases h with
 | refl=>exact hn
 | nil=>rfl
 | agg=>cases hn
 | tup=>cases hn
theorem ret_leafP {res post e tl L v u p} (he:e=.normal∨e=.ret) (h1:retV tl L res=some v) (h2:fr L 6 v=some (u,p)) (h3:∀ e,e∈p→e.1=e.2) (h:post u):Ret res post e tl L:=⟨he,v,u,p,u,h1,h2,h3,.refl _,h⟩
theorem RF.slW {M:Mem} {k:Nat} {l r:List (List V)} {x:Value} (hl:l.length=r.length) (h:∀ (i:Nat) a b,l[i]?=some a→r[i]?=some b→Wks a b) (hx:RF M (.sl k l) x):RF M (.sl k r) x:=by
 cases hx with
 | sl hc ha hl' hn hk hh =>
   rename_i a c rows'
   rw[hl]
   refine .sl (by omega) ha (by omega) (fun i b j y hb hy=>?_) (fun i b r' hb hr'=>?_) fun i b r' j y z hb hr' hy hz=>?_
   ·obtain⟨a',ha'⟩:=len_get hl hb
    obtain⟨g1,g2⟩:=(h i a' b ha' hb).pt
    obtain⟨u,hu⟩:=len_get g1 hy
    exact(g2 j u y hu hy).nar (hn i a' j u ha' hu)
   ·obtain⟨a',ha'⟩:=len_get hl hb
    have:=hk i a' r' ha' hr'
    have:=(h i a' b ha' hb).pt.1
    omega
   ·obtain⟨a',ha'⟩:=len_get hl hb
    obtain⟨g1,g2⟩:=(h i a' b ha' hb).pt
    obtain⟨u,hu⟩:=len_get g1 hy
    exact(g2 j u y hu hy).rel _ (hh i a' r' j u z ha' hr' hu hz)
theorem cv_pre {G:Prg} {f:Nat} {us us':List V} {post:V→Prop} (h:CV G f us' post) (hw:∀ M args,Pt (RF M) us args→Pt (RF M) us' args):CV G f us post:=
 ⟨fun args bs m n Ma h1 h2 h3 h4=>h.run args bs m n Ma h1 h2 h3 (hw _ _ h4)⟩
end Go.Proofs.YtoppcdecolponaaGreat.AL
namespace Go.Proofs.YtoppcdecolponaaGreat.AL
open Go
set_option linter.unusedVariables false
set_option linter.unusedSimpArgs false
abbrev Ob:=List Mem
structure OBs {N:Nat} (c:Cx N) (Z:Zl) (M m:Mem) (n:Nat) (OL:Ob):Prop where
 pt:∀ (i:Nat) D a b,OL[i]?=some D→D a=some b→m a=some b∧b.own=true∧c.okA a∧a<n∧M a=none∧(∀ (j:Nat) lb,Z[j]?≠some (some a,lb))∧∀ (j:Nat),c.ad[j]?≠some (some a)
 low:∀ (i:Nat) a,c.ad[i]?=some (some a)→a<c.n0
 dis:∀ (i j:Nat) D E a b b',OL[i]?=some D→OL[j]?=some E→D a=some b→E a=some b'→i=j
theorem OBs.nil {N:Nat} {c:Cx N} {Z M m n} (h:∀ (i:Nat) a,c.ad[i]?=some (some a)→a<c.n0):OBs c Z M m n []:=⟨fun i D a b h=>by simp at h,h,fun i j D E a b b' h=>by simp at h⟩
end Go.Proofs.YtoppcdecolponaaGreat.AL
namespace Go.Proofs.YtoppcdecolponaaGreat.AL
open Go
set_option linter.unusedVariables false
set_option linter.unusedSimpArgs false
abbrev M0:Mem:=fun _=>none
structure BackX (n n1:Nat) (m m1:Mem) (Z0:Zl) (O0:Mem) (Z1:Zl) (O1:Mem):Prop where
 cell:∀ (i:Nat) a lb,Z1[i]?=some (some a,lb)→(a∈adrs Z0∨n≤a)∧a<n1∧∃ cells,m1 a=some ⟨cells,true,lb.sz⟩∧∀ M' Z',lb.rel M' Z' cells
 nil:∀ (i:Nat) lb,Z1[i]?=some (none,lb)→lb=.dead∨∃ k,lb=.arr k []
 inj:∀ (i j:Nat) a lb lb',Z1[i]?=some (some a,lb)→Z1[j]?=some (some a,lb')→i=j
 keep:∀ b x,b∉adrs Z0→O0 b=none→m b=some x→m1 b=some x
 ext:∀ (b:Nat) p,Z0[b]?=some p→∃ p1,Z1[b]?=some p1∧grow p p1
 lo:∀ (i:Nat) a lb,Z1[i]?=some (some a,lb)→n≤a∨∃ lb0,Z0[i]?=some (some a,lb0)
 ob:∀ a b,O1 a=some b→m1 a=some b∧b.own=true∧a<n1∧(O0 a≠none∨n≤a)∧a∉adrs Z1
structure GX (G:Prg) (f:Nat) (L0:List LB) (O0:Mem) (vargs:List V) (post:V→List LB→Mem→Prop):Prop where
 run:∀ args bs m n Ma Z0,Fresh m n→bs≤n→sub Ma m→Lent bs n Ma m Z0 L0→(∀ a b,O0 a=some b→m a=some b∧b.own=true∧bs≤a∧a<n∧Ma a=none∧a∉adrs Z0)→Pt (RL Ma Z0) vargs args →
  CallW G f args bs m n fun v m1 n1=>∃ u Z1 O1,RL M0 Z1 u v∧post u (Z1.map (·.2)) O1∧BackX n n1 m m1 Z0 O0 Z1 O1
theorem GX.mono {G f L0 O0 vargs} {post post':V→List LB→Mem→Prop} (h:GX G f L0 O0 vargs post) (hp:∀ u L1 D,post u L1 D→post' u L1 D):GX G f L0 O0 vargs post':=
 ⟨fun args bs m n Ma Z0 h1 h2 h3 h4 h5 h6=>(h.run args bs m n Ma Z0 h1 h2 h3 h4 h5 h6).mono fun v m1 n1 ⟨u,Z1,O1,g1,g2,g3⟩=>⟨u,Z1,O1,g1,hp _ _ _ g2,g3⟩⟩
end Go.Proofs.YtoppcdecolponaaGreat.AL
namespace Go.Proofs.YtoppcdecolponaaGreat.AL
open Go
set_option linter.unusedVariables false
set_option linter.unusedSimpArgs false
section
variable {N : Nat} {G : Prg} {tl : Tl} {L : List LB} {OL : Ob} {K : Tl → List LB → Ob → Prop} {l : List IOp} {q : Bool} {d : Nat}
def Vew (OL:Ob) (us us':List V):Prop:=∀ M',(∀ (i:Nat) D,OL[i]?=some D→sub D M')→∀ args,Pt (RF M') us args→Pt (RF M') us' args
end
end Go.Proofs.YtoppcdecolponaaGreat.AL
namespace Go.Proofs.YtoppcdecolponaaGreat.AL
open Go
set_option linter.unusedVariables false
set_option linter.unusedSimpArgs false
end Go.Proofs.YtoppcdecolponaaGreat.AL
namespace Go.Proofs.YtoppcdecolponaaGreat.AL
open Go
set_option linter.unusedVariables false
set_option linter.unusedSimpArgs false
abbrev Ps:=List (Nat×Nat×Nat×List (List V))
structure PendR {N:Nat} (c:Cx N) (Z:Zl) (M m h:Mem) (n:Nat) (X:Xs) (ps:Ps):Prop where
 nd:(ps.map (·.2.1)).Nodup
 row:∀ e,e∈ps→∃ cells,h e.2.1=some ⟨cells,true,e.2.2.1⟩∧LB.rel M Z (.arr e.2.2.1 e.2.2.2) cells
 dom:∀ a x,h a=some x→c.n0≤a∧a<n∧m a=none∧a∈ps.map (·.2.1)
 xs:∀ a,XIn X a→a<n∧a∉ps.map (·.2.1)
theorem PendR.keep {N:Nat} {c:Cx N} {Z M m h n X ps Z1 M1 m1 n1} (hP:PendR c Z M m h n X ps) (he:ExtV Z M Z1 M1) (hn:n≤n1) (hd:∀ b,b<n→m b=none→m1 b=none):PendR c Z1 M1 m1 h n1 X ps:=
 ⟨hP.nd,fun e h1=>let ⟨cells,h2,h3⟩:=hP.row e h1;⟨cells,h2,h3.mono he⟩,fun a x h1=>let ⟨h2,h3,h4,h5⟩:=hP.dom a x h1;⟨h2,by omega,hd a h3 h4,h5⟩,fun a h1=>let ⟨h2,h3⟩:=hP.xs a h1;⟨by omega,h3⟩⟩
section
variable {N : Nat} {G : Prg} {tl : Tl} {L : List LB} {K : Tl → List LB → Prop} {ps : Ps} {l : List IOp}
theorem PendR.noX {c:Cx N} {Z M m h n X} (hP:PendR c Z M m h n X ps):PendR c Z M m h n [] ps:=⟨hP.nd,hP.row,hP.dom,fun a ⟨_,e⟩=>nomatch e⟩
end
end Go.Proofs.YtoppcdecolponaaGreat.AL
namespace Go.Proofs.YtoppcdecolponaaGreat.AL
open Go
set_option linter.unusedVariables false
end Go.Proofs.YtoppcdecolponaaGreat.AL
namespace Go.Proofs.YtoppcdecolponaaGreat.AL
open Go
set_option linter.unusedVariables false
set_option linter.unusedSimpArgs false
def LB.rnm (s:Nat→Option Nat):LB→Option LB
 | .cell row=>match rens (V.ren s 6) row with
   | some r=>some (.cell r)
   | none=>none
 | .arr k rows=>some (.arr k rows)
 | .gone=>some .gone
 | .dead=>some .dead
def LB.here:LB→Bool
 | .gone=>false
 | _=>true
theorem LB.rnm_cell {s row lb} (h:LB.rnm s (.cell row)=some lb):∃ r,lb=.cell r∧rens (V.ren s 6) row=some r:=by
 simp only[LB.rnm] at h
 split at h
 ·rename_i r e;cases h;exact⟨r,rfl,e⟩
 ·cases h
theorem LB.rnm_sz {s lb lb'} (h:LB.rnm s lb=some lb'):lb'.sz=lb.sz:=by
 cases lb with
 | cell row=>obtain⟨r,rfl,_⟩:=LB.rnm_cell h;rfl
 | _=>cases h;rfl
theorem LB.rnm_rel {M M':Mem} {Z Z':Zl} {s:Nat→Option Nat} (hM:sub M M') (hs:∀ (b b':Nat) p,s b=some b'→Z[b]?=some p→∃ p',Z'[b']?=some p'∧grow p p') {lb lb':LB} {cells} (h:LB.rnm s lb=some lb') (hr:LB.rel M Z lb cells):LB.rel M' Z' lb' cells:=by
 cases lb with
 | cell row =>
   obtain⟨r,rfl,e⟩:=LB.rnm_cell h
   exact rens_rel (AL.ren_rel hM hs 6) e hr
 | arr k rows =>
   cases h
   obtain⟨rows',h1,h2,h3,h4,h5⟩:=hr
   exact⟨rows',h1,h2,h3,fun i r r' hr hr'=>(h4 i r r' hr hr').mono fun x y=>RF.mono hM,h5⟩
 | gone=>exact hr.elim
 | dead=>exact hr.elim
theorem LB.rnm_grow {s lb lb' a} (h:LB.rnm s lb=some lb'):grow (a,lb) (a,lb')∧grow (a,lb') (a,lb):=by
 cases lb with
 | cell row =>
   obtain⟨r,rfl,_⟩:=LB.rnm_cell h
   exact⟨.ofCl trivial trivial rfl,.ofCl trivial trivial rfl⟩
 | _=>cases h;exact⟨grow.refl _,grow.refl _⟩
theorem LB.rnm_nil {s lb lb'} (h:LB.rnm s lb=some lb'):(lb=.dead∨∃ k,lb=.arr k [])↔(lb'=.dead∨∃ k,lb'=.arr k []):=by
 cases lb with
 | cell row =>
   obtain⟨r,rfl,_⟩:=LB.rnm_cell h
   constructor <;> rintro(h|⟨k,h⟩) <;> cases h
 | _=>cases h;exact Iff.rfl
theorem LB.rnm_here {s lb lb'} (h:LB.rnm s lb=some lb') (hh:lb'.here=true):lb.here=true:=by
 cases lb with
 | gone=>cases h;cases hh
 | _=>rfl
theorem LB.at.hereX {M Z m a lb} (h:LB.at M Z m a lb) (hf:lb.here=true):∃ cells,m a=some ⟨cells,true,lb.sz⟩∧LB.rel M Z lb cells:=by
 cases lb with
 | cell row=>exact h
 | arr k rows=>exact h
 | gone=>cases hf
 | dead=>exact h.elim
def pick1 (s:Nat→Option Nat) (p:Option Nat×LB):Option (Option Nat×LB):=match LB.rnm s p.2 with
 | some lb=>some (p.1,lb)
 | none=>none
def pickZ (s:Nat→Option Nat) (Z:Zl) (i:Nat):Option (Option Nat×LB):=match Z[i]? with
 | some p=>pick1 s p
 | none=>none
def pickL (s:Nat→Option Nat) (L:List LB) (i:Nat):Option LB:=match L[i]? with
 | some lb=>LB.rnm s lb
 | none=>none
theorem pick1_inv {s p q} (h:pick1 s p=some q):LB.rnm s p.2=some q.2∧q.1=p.1:=by
 unfold pick1 at h
 split at h
 ·rename_i lb e;cases h;exact⟨e,rfl⟩
 ·cases h
theorem pickZ_inv {s Z i q} (h:pickZ s Z i=some q):∃ p,Z[i]?=some p∧LB.rnm s p.2=some q.2∧q.1=p.1:=by
 unfold pickZ at h
 split at h
 ·rename_i p e;obtain⟨h1,h2⟩:=pick1_inv h;exact⟨p,e,h1,h2⟩
 ·cases h
theorem pickZ_snd (s:Nat→Option Nat) (Z:Zl) (j:Nat):(pickZ s Z j).map (·.2)=pickL s (Z.map (·.2)) j:=by
 unfold pickZ pickL
 rw[List.getElem?_map]
 cases Z[j]? with
 | none=>rfl
 | some p =>
   simp only[Option.map_some,pick1]
   cases LB.rnm s p.2 <;> rfl
theorem mapO_at {α γ:Type} {f:α→Option γ} {l:List α} {r:List γ} (h:mapO f l=some r) {i:Nat} {y:γ} (hy:r[i]?=some y):∃ x,l[i]?=some x∧f x=some y:=by
 obtain⟨h1,h2⟩:=mapO_inv h
 have hi:i<l.length:=by rw[←h1];exact(List.getElem?_eq_some_iff.1 hy).1
 obtain⟨y',q1,q2⟩:=h2 i _ (List.getElem?_eq_getElem hi)
 rw[hy] at q2;cases q2
 exact⟨_,List.getElem?_eq_getElem hi,q1⟩
theorem mapO_all {α γ:Type} {f:α→Option γ}:∀ {l:List α},(∀ x,x∈l→∃ y,f x=some y)→∃ r,mapO f l=some r
 | [],_=>⟨[],rfl⟩
 | x::l,h=>by
   obtain⟨y,hy⟩:=h x (List.mem_cons_self ..)
   obtain⟨r,hr⟩:=mapO_all fun x' hx=>h x' (List.mem_cons_of_mem _ hx)
   exact⟨y::r,by simp only[mapO,hy,hr]⟩
structure BackB (n n1:Nat) (Ma m m1:Mem) (Z0:Zl) (M1:Mem) (Z1:Zl):Prop where
 cell:∀ (i:Nat) a lb,Z1[i]?=some (some a,lb)→(a∈adrs Z0∨n≤a)∧a<n1∧∃ cells,m1 a=some ⟨cells,true,lb.sz⟩∧lb.rel M1 Z1 cells
 nil:∀ (i:Nat) lb,Z1[i]?=some (none,lb)→lb=.dead∨∃ k,lb=.arr k []
 inj:∀ (i j:Nat) a lb lb',Z1[i]?=some (some a,lb)→Z1[j]?=some (some a,lb')→i=j
 hM:∀ b x,M1 b=some x→m1 b=some x∧(Ma b=some x∨n≤b)∧∀ (i:Nat) lb,Z1[i]?≠some (some b,lb)
 hma:sub Ma M1
 keep:∀ b x,b∉adrs Z0→m b=some x→m1 b=some x
 ext:∀ (b:Nat) p,Z0[b]?=some p→∃ p1,Z1[b]?=some p1∧grow p p1
 lo:∀ (i:Nat) a lb,Z1[i]?=some (some a,lb)→n≤a∨∃ lb0,Z0[i]?=some (some a,lb0)
structure GB (G:Prg) (f:Nat) (L0:List LB) (vargs:List V) (post:V→List LB→Prop):Prop where
 run:∀ args bs m n Ma Z0,Fresh m n→bs≤n→sub Ma m→Lent bs n Ma m Z0 L0→Pt (RL Ma Z0) vargs args →
  CallW G f args bs m n fun v m1 n1=>∃ u M1 Z1,RL M1 Z1 u v∧post u (Z1.map (·.2))∧BackB n n1 Ma m m1 Z0 M1 Z1
theorem GB.mono {G f L0 vargs post post'} (h:GB G f L0 vargs post) (k:∀ u L1,post u L1→post' u L1):GB G f L0 vargs post':=
 ⟨fun args bs m n Ma Z0 hF hb hs hA hp=>(h.run args bs m n Ma Z0 hF hb hs hA hp).mono fun v m1 n1 ⟨u,M1,Z1,h1,h2,h3⟩=>⟨u,M1,Z1,h1,k _ _ h2,h3⟩⟩
def RetB (r:Nat) (res:List RV) (post:V→List LB→Prop) (e:Ex) (tl:Tl) (L:List LB):Prop:=
 (e=.normal∨e=.ret)∧∃ v u L1 K,retV tl L res=some v∧V.ren (posN (List.range r++K)) 6 v=some u∧mapO (pickL (posN (List.range r++K)) L) (List.range r++K)=some L1∧L1.all LB.here=true∧(List.range r++K).Nodup∧post u L1
theorem retB_leaf {r res post e tl L v u L1} (K:List Nat) (he:e=.normal∨e=.ret) (h1:retV tl L res=some v) (h2:V.ren (posN (List.range r++K)) 6 v=some u) (h3:mapO (pickL (posN (List.range r++K)) L) (List.range r++K)=some L1) (h4:L1.all LB.here=true) (h5:(List.range r++K).Nodup) (h:post u L1) :
 RetB r res post e tl L:=⟨he,v,u,L1,K,h1,h2,h3,h4,h5,h⟩
theorem gb_in {G f body res L0 vargs post} (hG:G f=some ⟨body,res⟩) (h:VC L0.length G body (RetB L0.length res post) (tlOf 0 vargs) L0):GB G f L0 vargs post:=by
 refine⟨fun args bs m n Ma Z0 hF hb hs hA hp=>?_⟩
 have hZl:Z0.length=L0.length:=by rw[←hA.hL];simp
 have hM:StM (N:=L0.length) ⟨fun b=>if b∈adrs Z0 then none else m b,Ma,n,bs,adrs Z0,Z0.map (·.1),Nat.le_of_eq (by rw[List.length_map,hZl])⟩ Z0 Ma L0 m n:=by
  refine⟨hb,Nat.le_refl _,hF,hA.hL,fun b x hx=>⟨hs b x hx,.inl hx,fun i lb e=>?_⟩,fun b x hx=>?_,fun b hb'=>?_,sub_refl _,fun a ha=>⟨(hA.low a ha).1,if_pos ha,(hA.low a ha).2.1⟩,fun i a lb e=>?_,hA.nil,hA.inj,fun i a lb e=>.inr (by rw[List.getElem?_map,e];rfl)⟩
  ·rw[(hA.low b (adrs_mem.2 ⟨i,lb,e⟩)).2.2] at hx;cases hx
  ·simp only at hx
   split at hx
   ·cases hx
   ·exact hx
  ·simp only
   split
   ·rfl
   ·exact hF b hb'
  ·have hm:=adrs_mem.2 ⟨i,lb,e⟩
   obtain⟨cells,h1,h2⟩:=hA.cell i a lb e
   exact⟨.inr hm,(hA.low a hm).2.1,.of h1 h2⟩
 have hS:Slots Ma Z0 (tlOf 0 vargs) (tm0 args):=fun t v hv=>by
  obtain⟨_,x,h1,h2⟩:=tlOf_rel hp hv
  have:tm0 args t=x:=by simp only[tm0,List.getD];rw[show t=t-0 from rfl,h1];rfl
  rw[this];exact h2
 obtain⟨e,tm1,m1,n1,Z1,M1,tl1,L1,hb1,he,hM1,hS1,hex,v,u,L2,K,h1,h2,h3,h4,h5,h6⟩:=h _ _ _ _ _ _ hM hS
 obtain⟨x,g1,g2⟩:=retV_rel hM1 hS1 h1
 rw[←hM1.hL] at h3
 obtain⟨Z2,hZ2,hL2⟩:=mapO_snd (Z:=[]) (pickZ_snd _ Z1) h3
 obtain⟨z1,z2⟩:=mapO_inv hZ2
 have hz:∀ (i:Nat) q,Z2[i]?=some q→∃ (j:Nat) (p:Option Nat×LB),(List.range L0.length++K)[i]?=some j∧Z1[j]?=some p∧LB.rnm (posN (List.range L0.length++K)) p.2=some q.2∧q.1=p.1:=by
  intro i q hq
  obtain⟨j,q1,q2⟩:=mapO_at hZ2 hq
  obtain⟨p,q3,q4,q5⟩:=pickZ_inv q2
  exact⟨j,p,q1,q3,q4,q5⟩
 have hto:∀ (b b':Nat) p,posN (List.range L0.length++K) b=some b'→Z1[b]?=some p→∃ p',Z2[b']?=some p'∧grow p p':=by
  intro b b' p hs hp
  obtain⟨y,q1,q2⟩:=z2 _ _ (posN_inv hs)
  obtain⟨p',q3,q4,q5⟩:=pickZ_inv q1
  rw[hp] at q3;cases q3
  refine⟨y,q2,?_⟩
  obtain⟨a,lb⟩:=p;obtain⟨a',lb'⟩:=y
  simp only at q4 q5;subst q5
  exact(LB.rnm_grow q4).1
 have hfull:∀ (i:Nat) q,Z2[i]?=some q→q.2.here=true:=fun i q hq=>by
  have:L2[i]?=some q.2:=by rw[←hL2,List.getElem?_map,hq];rfl
  exact List.all_eq_true.1 h4 _ (List.mem_of_getElem? this)
 refine⟨x,m1,n1,.call hG hb1 hex g1,u,M1,Z2,AL.ren_rel (sub_refl _) hto 6 v u x h2 g2,by rw[hL2];exact h6,?_⟩
 refine⟨fun i a lb hi=>?_,fun i lb hi=>?_,fun i j a l1 l2 e1 e2=>?_,fun b y hb'=>?_,hM1.hma,fun b y hb' hy=>?_,fun b p hp=>?_,fun i a lb hi=>?_⟩
 ·obtain⟨j,⟨a',lb0⟩,q1,q2,q3,q4⟩:=hz i _ hi
  simp only at q3 q4;subst q4
  obtain⟨q5,q6,q7⟩:=hM1.cell j a lb0 q2
  obtain⟨cells,q8,q9⟩:=q7.hereX (LB.rnm_here q3 (hfull i _ hi))
  exact⟨q5.symm,q6,cells,by rw[LB.rnm_sz q3];exact q8,LB.rnm_rel (sub_refl _) hto q3 q9⟩
 ·obtain⟨j,⟨a',lb0⟩,q1,q2,q3,q4⟩:=hz i _ hi
  simp only at q3 q4;subst q4
  exact(LB.rnm_nil q3).1 (hM1.nl j lb0 q2)
 ·obtain⟨j1,⟨a1,lb1⟩,q1,q2,q3,q4⟩:=hz i _ e1
  obtain⟨j2,⟨a2,lb2⟩,r1,r2,r3,r4⟩:=hz j _ e2
  simp only at q4 r4;subst q4;subst r4
  have hj:=hM1.inj j1 j2 a lb1 lb2 q2 r2
  subst hj
  exact(List.getElem?_inj (List.getElem?_eq_some_iff.1 q1).1 h5).1 (q1.trans r1.symm)
 ·obtain⟨q1,q2,q3⟩:=hM1.hM b y hb'
  refine⟨q1,q2,fun i lb e=>?_⟩
  obtain⟨j,⟨a',lb0⟩,_,q4,_,q5⟩:=hz i _ e
  simp only at q5;subst q5
  exact q3 j lb0 q4
 ·exact hM1.h0 b y (by show(if b∈adrs Z0 then none else m b)=some y;rw[if_neg hb'];exact hy)
 ·obtain⟨p1,q1,q2⟩:=he.hZ b p (by rw[←hZl];exact(List.getElem?_eq_some_iff.1 hp).1) hp
  have hbl:b<L0.length:=by rw[←hZl];exact(List.getElem?_eq_some_iff.1 hp).1
  obtain⟨y,q3,q4⟩:=z2 b b (by rw[List.getElem?_append_left (by simpa using hbl)];simp [hbl])
  obtain⟨p',q5,q6,q7⟩:=pickZ_inv q3
  rw[q1] at q5;cases q5
  refine⟨y,q4,q2.trans ?_⟩
  obtain⟨a,lb⟩:=p1;obtain⟨a',lb'⟩:=y
  simp only at q6 q7;subst q7
  exact(LB.rnm_grow q6).1
 ·obtain⟨j,⟨a',lb0⟩,q1,q2,q3,q4⟩:=hz i _ hi
  simp only at q3 q4;subst q4
  rcases hM1.lo j a lb0 q2 with h8|h8
  ·exact .inl h8
  ·have h8:(Z0.map (·.1))[j]?=some (some a):=h8
   rw[List.getElem?_map] at h8
   cases e8:Z0[j]? with
   | none=>rw[e8] at h8;cases h8
   | some p0 =>
     rw[e8] at h8
     obtain⟨a0,lb0'⟩:=p0
     simp only[Option.map_some,Option.some.injEq] at h8
     subst h8
     have hjl:j<L0.length:=by rw[←hZl];exact(List.getElem?_eq_some_iff.1 e8).1
     have hjj:(List.range L0.length++K)[j]?=some j:=by rw[List.getElem?_append_left (by simpa using hjl)];simp [hjl]
     have:i=j:=(List.getElem?_inj (List.getElem?_eq_some_iff.1 q1).1 h5).1 (q1.trans hjj.symm)
     subst this
     exact .inr ⟨lb0',e8⟩
theorem merge_stB {N:Nat} {c:Cx N} {Z:Zl} {M:Mem} {L:List LB} {m:Mem} {n:Nat} (hM:StM c Z M L m n) {m1:Mem} {n1:Nat} (hn:n≤n1) (hf:Fresh m1 n1) (hdom:∀ (i:Nat) b lb,Z[i]?=some (some b,lb)→m b=none→m1 b=none) {ρ:List Nat} (hnd:ρ.Nodup) {Z0 Z1:Zl} (hZ0:mapO (fun i=>Z[i]?) ρ=some Z0) {M2:Mem} (hs:sub M M2)
 (hM2:∀ b x,M2 b=some x→m1 b=some x∧(M b=some x∨n≤b)∧∀ (i:Nat) lb,Z1[i]?≠some (some b,lb))
 (hcell:∀ (i:Nat) a lb,Z1[i]?=some (some a,lb)→(a∈adrs Z0∨n≤a)∧a<n1∧∃ cells,m1 a=some ⟨cells,true,lb.sz⟩∧∀ Z',(∀ (i i':Nat) p,backN ρ L.length i=some i'→Z1[i]?=some p→Z'[i']?=some p)→lb.rel M2 Z' cells)
 (hnil:∀ (i:Nat) lb,Z1[i]?=some (none,lb)→lb=.dead∨∃ k,lb=.arr k []) (hinj:∀ (i j:Nat) a lb lb',Z1[i]?=some (some a,lb)→Z1[j]?=some (some a,lb')→i=j)
 (hkeep:∀ b x,b∉adrs Z0→m b=some x→m1 b=some x) (hext:∀ (b:Nat) p,Z0[b]?=some p→∃ p1,Z1[b]?=some p1∧grow p p1) (hlo:∀ (i:Nat) a lb,Z1[i]?=some (some a,lb)→n≤a∨∃ lb0,Z0[i]?=some (some a,lb0)) {L':List LB} (hL':mergeG L (Z1.map (·.2)) ρ=some L') :
 ∃ Z',StM c Z' M2 L' m1 n1∧ExtV Z M Z' M2∧(∀ (i i':Nat) p,backN ρ L.length i=some i'→Z1[i]?=some p→Z'[i']?=some p)∧∀ (j:Nat) p,Z'[j]?=some p→(∃ i:Nat,Z1[i]?=some p)∨Z[j]?=some p:=by
 obtain⟨k1,k2⟩:=mapO_inv hZ0
 have hZL:=hM.lenZ
 have hrho:ρ.length≤Z1.length:=by
  rw[←k1]
  rcases Nat.lt_or_ge Z1.length Z0.length with h|h
  ·obtain⟨p1,h1,_⟩:=hext Z1.length _ (List.getElem?_eq_getElem h)
   simp at h1
  ·exact h
 have hg:mapO (mergeF (Z.map (·.2)) (Z1.map (·.2)) ρ) (List.range (Z.length+(Z1.length-ρ.length)))=some L':=by
  rw[←hM.hL] at hL'
  unfold mergeG at hL'
  simpa using hL'
 obtain⟨Z',hZ',hsnd⟩:=mapO_snd (Z:=[]) (f:=mergeF Z Z1 ρ) (mergeF_snd Z Z1 ρ) hg
 obtain⟨z1,z2⟩:=mapO_inv hZ'
 have hat:∀ (j:Nat) p,Z'[j]?=some p→mergeF Z Z1 ρ j=some p∧j<Z.length+(Z1.length-ρ.length):=by
  intro j p hp
  have hj:j<Z.length+(Z1.length-ρ.length):=by have:=(List.getElem?_eq_some_iff.1 hp).1;simp at z1;omega
  obtain⟨y,q1,q2⟩:=z2 j j (by simp [hj])
  rw[hp] at q2;cases q2
  exact⟨q1,hj⟩
 have hto:∀ (j:Nat),j<Z.length+(Z1.length-ρ.length)→∃ p,mergeF Z Z1 ρ j=some p∧Z'[j]?=some p:=by
  intro j hj
  obtain⟨y,q1,q2⟩:=z2 j j (by simp [hj])
  exact⟨y,q1,q2⟩
 have kinds:∀ (j:Nat) p,Z'[j]?=some p→(∃ i:Nat,ρ[i]?=some j∧Z1[i]?=some p)∨(j∉ρ∧Z[j]?=some p)∨(Z.length≤j∧Z1[ρ.length+(j-Z.length)]?=some p):=by
  intro j p hp
  obtain⟨h1,_⟩:=hat j p hp
  unfold mergeF at h1
  cases e:posN ρ j with
  | some i=>rw[e] at h1;exact .inl ⟨i,posN_inv e,h1⟩
  | none =>
    rw[e] at h1
    simp only at h1
    cases e2:Nat.blt j Z.length with
    | true=>rw[e2] at h1;exact .inr (.inl ⟨posN_none e,h1⟩)
    | false =>
      rw[e2] at h1
      refine .inr (.inr ⟨?_,h1⟩)
      rcases Nat.lt_or_ge j Z.length with h|h
      ·have:=(Nat.blt_eq (x:=j) (y:=Z.length)) ▸ h
       rw[←Nat.blt_eq] at h;rw[h] at e2;cases e2
      ·exact h
 have hρZ:∀ (i:Nat) j,ρ[i]?=some j→∃ p,Z[j]?=some p∧Z0[i]?=some p:=fun i j hij=>by
  obtain⟨y,q1,q2⟩:=k2 i j hij
  exact⟨y,q1,q2⟩
 have hA:∀ a,a∈adrs Z0→∃ (j:Nat) (lb:LB),j∈ρ∧Z[j]?=some (some a,lb):=by
  intro a ha
  obtain⟨i,lb,hi⟩:=adrs_mem.1 ha
  have hi2:i<ρ.length:=by rw[←k1];exact(List.getElem?_eq_some_iff.1 hi).1
  obtain⟨p,q1,q2⟩:=hρZ i _ (List.getElem?_eq_getElem hi2)
  rw[hi] at q2;cases q2
  exact⟨_,lb,List.getElem_mem hi2,q1⟩
 have hout:∀ (j:Nat) a lb,j∉ρ→Z[j]?=some (some a,lb)→a∉adrs Z0∧a<n:=by
  intro j a lb hj hz
  refine⟨fun ha=>?_,(hM.cell j a lb hz).2.1⟩
  obtain⟨j',lb',h1,h2⟩:=hA a ha
  have:=hM.inj j j' a lb lb' hz h2
  subst this;exact hj h1
 have hE:ExtV Z M Z' M2:=by
  refine⟨hs,fun b p hp=>?_⟩
  have hb:b<Z.length:=(List.getElem?_eq_some_iff.1 hp).1
  obtain⟨p',h1,h2⟩:=hto b (by omega)
  unfold mergeF at h1
  cases e:posN ρ b with
  | some i =>
    rw[e] at h1
    obtain⟨q,q1,q2⟩:=hρZ i b (posN_inv e)
    rw[hp] at q1;cases q1
    obtain⟨p1,g1,g2⟩:=hext i p q2
    have h1:Z1[i]?=some p':=h1
    rw[g1] at h1;cases h1
    exact⟨_,h2,g2⟩
  | none =>
    rw[e] at h1
    have hbl:Nat.blt b Z.length=true:=by rw[Nat.blt_eq];exact hb
    simp only[hbl] at h1
    rw[hp] at h1;cases h1
    exact⟨_,h2,grow.refl _⟩
 have hbk:∀ (i i':Nat) p,backN ρ L.length i=some i'→Z1[i]?=some p→Z'[i']?=some p:=by
  intro i i' p hb hi
  unfold backN at hb
  cases e:Nat.blt i ρ.length with
  | true =>
    rw[e] at hb
    have hb:ρ[i]?=some i':=hb
    obtain⟨q,q1,q2⟩:=hρZ i i' hb
    have hi':i'<Z.length:=(List.getElem?_eq_some_iff.1 q1).1
    obtain⟨p',h1,h2⟩:=hto i' (by omega)
    unfold mergeF at h1
    cases e3:posN ρ i' with
    | none=>exact absurd (List.mem_of_getElem? hb) (posN_none e3)
    | some i2 =>
      rw[e3] at h1
      have:=posN_inv e3
      have hi2:i2=i:=(List.getElem?_inj (List.getElem?_eq_some_iff.1 this).1 hnd).1 (this.trans hb.symm)
      subst hi2
      have h1:Z1[i2]?=some p':=h1
      rw[hi] at h1;cases h1
      exact h2
  | false =>
    rw[e] at hb
    cases hb
    have hge:ρ.length≤i:=by
     rcases Nat.lt_or_ge i ρ.length with h|h
     ·rw[←Nat.blt_eq] at h;rw[h] at e;cases e
     ·exact h
    have hi1:=(List.getElem?_eq_some_iff.1 hi).1
    obtain⟨p',h1,h2⟩:=hto (L.length+(i-ρ.length)) (by omega)
    unfold mergeF at h1
    cases e3:posN ρ (L.length+(i-ρ.length)) with
    | some i2 =>
      obtain⟨q,q1,_⟩:=hρZ _ _ (posN_inv e3)
      have:=(List.getElem?_eq_some_iff.1 q1).1
      omega
    | none =>
      rw[e3] at h1
      have hb2:Nat.blt (L.length+(i-ρ.length)) Z.length=false:=by
       cases e4:Nat.blt (L.length+(i-ρ.length)) Z.length with
       | false=>rfl
       | true=>rw[Nat.blt_eq] at e4;omega
      simp only[hb2] at h1
      have e5:ρ.length+(L.length+(i-ρ.length)-Z.length)=i:=by omega
      rw[e5,hi] at h1;cases h1
      exact h2
 refine⟨Z',⟨hM.hbs,by have:=hM.hn;omega,hf,hsnd,fun b x hb=>?_,fun b x hb=>?_,hM.f0,sub_trans hM.hma hs,hM.hbr,fun j a lb hj=>?_,fun j lb hj=>?_,fun j j' a l1 l2 e1 e2=>?_,fun j a lb hj=>?_⟩,hE,hbk,fun j p hj=>(kinds j p hj).elim (fun ⟨i,_,q⟩=>.inl ⟨i,q⟩) fun h=>h.elim (fun ⟨_,q⟩=>.inr q) fun ⟨_,q⟩=>.inl ⟨_,q⟩⟩
 ·obtain⟨h1,h2,h3⟩:=hM2 b x hb
  refine⟨h1,?_,fun j lb e=>?_⟩
  ·rcases h2 with h2|h2
   ·exact(hM.hM b x h2).2.1
   ·exact .inr (by have:=hM.hn;omega)
  ·rcases kinds j _ e with⟨i,_,q⟩|⟨_,q⟩|⟨_,q⟩
   ·exact h3 _ _ q
   ·rcases h2 with h2|h2
    ·exact(hM.hM b x h2).2.2 _ _ q
    ·have:=(hM.cell _ _ _ q).2.1;omega
   ·exact h3 _ _ q
 ·refine hkeep b x (fun ha=>?_) (hM.h0 b x hb)
  obtain⟨j,lb,_,q⟩:=hA b ha
  have:=hM.m0A (hM.cell _ _ _ q).1
  rw[this] at hb;cases hb
 ·have new:∀ i:Nat,Z1[i]?=some (some a,lb)→c.okA a∧a<n1∧lb.at M2 Z' m1 a:=by
   intro i q
   obtain⟨h1,h2,cells,h3,h4⟩:=hcell _ _ _ q
   refine⟨?_,h2,.of h3 (h4 _ hbk)⟩
   rcases h1 with h1|h1
   ·obtain⟨j',lb',_,q'⟩:=hA a h1
    exact(hM.cell _ _ _ q').1
   ·exact .inl (by have:=hM.hn;omega)
  rcases kinds j _ hj with⟨i,_,q⟩|⟨hno,q⟩|⟨_,q⟩
  ·exact new _ q
  ·obtain⟨h1,h2,h3⟩:=hM.cell _ _ _ q
   refine⟨h1,by omega,h3.mono hE ?_⟩
   cases e:m a with
   | none=>exact hdom j a lb q e
   | some x=>exact hkeep _ _ (hout _ _ _ hno q).1 e
  ·exact new _ q
 ·rcases kinds j _ hj with⟨i,_,q⟩|⟨hno,q⟩|⟨_,q⟩
  ·exact hnil _ _ q
  ·exact hM.nl _ _ q
  ·exact hnil _ _ q
 ·have cross:∀ (i:Nat) (j:Nat) lb lb',Z1[i]?=some (some a,lb)→j∉ρ→Z[j]?=some (some a,lb')→False:=by
   intro i j lb lb' q1 hno q2
   obtain⟨h1,h2⟩:=hout _ _ _ hno q2
   rcases(hcell _ _ _ q1).1 with h|h
   ·exact h1 h
   ·omega
  rcases kinds j _ e1 with⟨i,r1,q⟩|⟨hno,q⟩|⟨hge,q⟩ <;> rcases kinds j' _ e2 with⟨i',r2,q'⟩|⟨hno',q'⟩|⟨hge',q'⟩
  ·have:=hinj _ _ _ _ _ q q';subst this;rw[r1] at r2;cases r2;rfl
  ·exact(cross _ _ _ _ q hno' q').elim
  ·have:=hinj _ _ _ _ _ q q';have:=(List.getElem?_eq_some_iff.1 r1).1;omega
  ·exact(cross _ _ _ _ q' hno q).elim
  ·exact hM.inj _ _ _ _ _ q q'
  ·exact(cross _ _ _ _ q' hno q).elim
  ·have:=hinj _ _ _ _ _ q q';have:=(List.getElem?_eq_some_iff.1 r2).1;omega
  ·exact(cross _ _ _ _ q hno' q').elim
  ·have:=hinj _ _ _ _ _ q q';omega
 ·have hcn:=hM.hn
  rcases kinds j _ hj with⟨i,r1,q⟩|⟨hno,q⟩|⟨hge,q⟩
  ·rcases hlo _ _ _ q with h8|⟨lb0,h8⟩
   ·exact .inl (by omega)
   ·obtain⟨p,g1,g2⟩:=hρZ i j r1
    rw[h8] at g2;cases g2
    exact hM.lo j a lb0 g1
  ·exact hM.lo j a lb q
  ·rcases hlo _ _ _ q with h8|⟨lb0,h8⟩
   ·exact .inl (by omega)
   ·have:=(List.getElem?_eq_some_iff.1 h8).1;omega
section
variable {N : Nat} {G : Prg} {tl : Tl} {L : List LB} {K : Tl → List LB → Prop} {l : List IOp} {d : Nat}
theorem s_callB {f es us vargs L0} {post:V→List LB→Prop} (ρ:List Nat) (ha:evEs tl es=some us) (hr:rens (V.ren (posN ρ) 6) us=some vargs) (hL0:mapO (pickL (posN ρ) L) ρ=some L0) (hh:L0.all LB.here=true) (hnd:ρ.Nodup)
 (hc:GB G f L0 vargs post) (k:∀ u L1,post u L1→∃ Lb L' u',mapO (LB.rnm (backN ρ L.length)) L1=some Lb∧mergeG L Lb ρ=some L'∧V.ren (backN ρ L.length) 6 u=some u'∧VO N G l K ((d,u')::tl) L'):VO N G (⟨some d,.call f es,none,false⟩::l) K tl L:=by
 intro c Z M tm m n hM hS
 have hpt:=evEs_rel hS ha
 rw[←hM.hL] at hL0
 obtain⟨Z0,hZ0,hsnd⟩:=mapO_snd (Z:=[]) (pickZ_snd (posN ρ) Z) hL0
 obtain⟨k1,k2⟩:=mapO_inv hZ0
 have hz0:∀ (i:Nat) q,Z0[i]?=some q→∃ (j:Nat) (p:Option Nat×LB),ρ[i]?=some j∧Z[j]?=some p∧LB.rnm (posN ρ) p.2=some q.2∧q.1=p.1:=fun i q hq=>by
  obtain⟨j,q1,q2⟩:=mapO_at hZ0 hq
  obtain⟨p,q3,q4,q5⟩:=pickZ_inv q2
  exact⟨j,p,q1,q3,q4,q5⟩
 have hto:∀ (b b':Nat) p,posN ρ b=some b'→Z[b]?=some p→∃ p',Z0[b']?=some p'∧grow p p':=by
  intro b b' p hs hp
  obtain⟨y,q1,q2⟩:=k2 _ _ (posN_inv hs)
  obtain⟨p',q3,q4,q5⟩:=pickZ_inv q1
  rw[hp] at q3;cases q3
  refine⟨y,q2,?_⟩
  obtain⟨a,lb⟩:=p;obtain⟨a',lb'⟩:=y
  simp only at q4 q5;subst q5
  exact(LB.rnm_grow q4).1
 obtain⟨Zr,hZr⟩:∃ Zr:Zl,mapO (fun i=>Z[i]?) ρ=some Zr:=mapO_all fun j hj=>by
  obtain⟨i,hi⟩:=List.mem_iff_getElem?.1 hj
  obtain⟨y,q1,q2⟩:=k2 i j hi
  obtain⟨p',q3,_,_⟩:=pickZ_inv q1
  exact⟨p',q3⟩
 obtain⟨r1,r2⟩:=mapO_inv hZr
 have hr0:∀ (i:Nat) q,Z0[i]?=some q→∃ p:Option Nat×LB,Zr[i]?=some p∧LB.rnm (posN ρ) p.2=some q.2∧q.1=p.1:=fun i q hq=>by
  obtain⟨j,p,h1,h2,h3,h4⟩:=hz0 i q hq
  obtain⟨y,q1,q2⟩:=r2 i j h1
  have q1:Z[j]?=some y:=q1
  rw[h2] at q1;cases q1
  exact⟨p,q2,h3,h4⟩
 have h0r:∀ (i:Nat) p,Zr[i]?=some p→∃ q:Option Nat×LB,Z0[i]?=some q∧LB.rnm (posN ρ) p.2=some q.2∧q.1=p.1:=fun i p hp=>by
  obtain⟨j,q1,q2⟩:=mapO_at hZr hp
  obtain⟨y,q3,q4⟩:=k2 i j q1
  obtain⟨p',q5,q6,q7⟩:=pickZ_inv q3
  have q2:Z[j]?=some p:=q2
  rw[q2] at q5;cases q5
  exact⟨y,q4,q6,q7⟩
 have hadr:∀ a,a∈adrs Z0↔a∈adrs Zr:=by
  intro a
  rw[adrs_mem,adrs_mem]
  constructor
  ·rintro⟨i,lb,hi⟩
   obtain⟨⟨a',lb'⟩,h1,_,h3⟩:=hr0 i _ hi
   simp only at h3;subst h3
   exact⟨i,lb',h1⟩
  ·rintro⟨i,lb,hi⟩
   obtain⟨⟨a',lb'⟩,h1,_,h3⟩:=h0r i _ hi
   simp only at h3;subst h3
   exact⟨i,lb',h1⟩
 have hbs:c.bs≤n:=by have h1:=hM.hbs;have h2:=hM.hn;omega
 have hLent:Lent c.bs n M m Z0 L0:=by
  refine⟨hsnd,fun a ha'=>?_,fun i lb hi=>?_,fun i j a l1 l2 e1 e2=>?_,fun i a lb hi=>?_⟩
  ·obtain⟨i,lb,hi⟩:=adrs_mem.1 ha'
   obtain⟨j,⟨a',lb'⟩,h1,h2,h3,h4⟩:=hz0 i _ hi
   simp only at h4;subst h4
   obtain⟨g1,g2,_⟩:=hM.cell _ _ _ h2
   refine⟨hM.bsA g1,g2,?_⟩
   cases e:M a with
   | none=>rfl
   | some x=>exact absurd h2 ((hM.hM a x e).2.2 _ _)
  ·obtain⟨j,⟨a',lb'⟩,h1,h2,h3,h4⟩:=hz0 i _ hi
   simp only at h3 h4;subst h4
   exact(LB.rnm_nil h3).1 (hM.nl _ _ h2)
  ·obtain⟨j1,⟨a1,lb1⟩,h1,h2,_,h3⟩:=hz0 i _ e1
   obtain⟨j2,⟨a2,lb2⟩,g1,g2,_,g3⟩:=hz0 j _ e2
   simp only at h3 g3;subst h3;subst g3
   have:=hM.inj _ _ _ _ _ h2 g2
   subst this
   exact(List.getElem?_inj (List.getElem?_eq_some_iff.1 h1).1 hnd).1 (h1.trans g1.symm)
  ·obtain⟨j,⟨a',lb'⟩,h1,h2,h3,h4⟩:=hz0 i _ hi
   simp only at h3 h4;subst h4
   obtain⟨_,_,g5⟩:=hM.cell _ _ _ h2
   have hfr:lb.here=true:=List.all_eq_true.1 hh _ (by rw[←hsnd];exact List.mem_map.2 ⟨_,List.mem_of_getElem? hi,rfl⟩)
   obtain⟨cells,g3,g4⟩:=g5.hereX (LB.rnm_here h3 hfr)
   exact⟨cells,by rw[LB.rnm_sz h3];exact g3,LB.rnm_rel (sub_refl _) hto h3 g4⟩
 have hp:Pt (RL M Z0) vargs (es.map (·.ev tm)):=rens_rel (AL.ren_rel (sub_refl _) hto 6) hr hpt
 obtain⟨v,m1,n1,hb,u,M1,Z1,g1,g2,B⟩:=hc.run _ _ m n M Z0 hM.fresh hbs hM.subM hLent hp
 obtain⟨hn,hf⟩:=hb.fresh hM.fresh
 obtain⟨Lb,L',u',hLb,hL',hu',k'⟩:=k u _ g2
 obtain⟨Zb,hZb⟩:∃ Zb:Zl,mapO (pick1 (backN ρ L.length)) Z1=some Zb:=mapO_all fun p hp=>by
  obtain⟨i,hi⟩:=List.mem_iff_getElem?.1 hp
  obtain⟨_,q2⟩:=mapO_inv hLb
  obtain⟨y,q3,_⟩:=q2 i p.2 (by rw[List.getElem?_map,hi];rfl)
  exact⟨(p.1,y),by unfold pick1;rw[q3]⟩
 have hb1:∀ (i:Nat) q,Zb[i]?=some q→∃ p:Option Nat×LB,Z1[i]?=some p∧LB.rnm (backN ρ L.length) p.2=some q.2∧q.1=p.1:=fun i q hq=>by
  obtain⟨p,h1,h2⟩:=mapO_at hZb hq
  obtain⟨h3,h4⟩:=pick1_inv h2
  exact⟨p,h1,h3,h4⟩
 have h1b:∀ (i:Nat) p,Z1[i]?=some p→∃ q:Option Nat×LB,Zb[i]?=some q∧LB.rnm (backN ρ L.length) p.2=some q.2∧q.1=p.1:=fun i p hp=>by
  obtain⟨y,q3,q4⟩:=(mapO_inv hZb).2 i p hp
  obtain⟨h3,h4⟩:=pick1_inv q3
  exact⟨y,q4,h3,h4⟩
 have hLb2:Zb.map (·.2)=Lb:=by
  apply List.ext_getElem?
  intro i
  rw[List.getElem?_map]
  cases e:Zb[i]? with
  | none =>
    have h1:=(mapO_inv hZb).1
    have h2:=(mapO_inv hLb).1
    rw[List.length_map] at h2
    have h3:=List.getElem?_eq_none_iff.1 e
    rw[List.getElem?_eq_none (by omega)];rfl
  | some q =>
    obtain⟨p,h1,h2,h3⟩:=hb1 i q e
    obtain⟨y,q3,q4⟩:=(mapO_inv hLb).2 i p.2 (by rw[List.getElem?_map,h1];rfl)
    rw[h2] at q3;cases q3
    rw[q4];rfl
 have hgr:∀ (p q:Option Nat×LB) (s:Nat→Option Nat),LB.rnm s p.2=some q.2→q.1=p.1→grow p q∧grow q p:=by
  rintro⟨a,lb⟩ ⟨a',lb'⟩ s h1 h2
  simp only at h1 h2;subst h2
  exact LB.rnm_grow h1
 obtain⟨Z',hM',hE,hback,_⟩:=merge_stB hM hn hf (fun _ _ _ hz e=>hb.dom _ (hM.cell _ _ _ hz).2.1 e) hnd hZr B.hma (Z1:=Zb) (fun b x hb'=>by
  obtain⟨h1,h2,h3⟩:=B.hM b x hb'
  refine⟨h1,h2,fun i lb e=>?_⟩
  obtain⟨⟨a',lb'⟩,q1,_,q3⟩:=hb1 i _ e
  simp only at q3;subst q3
  exact h3 i lb' q1) (fun i a lb hi=>by
  obtain⟨⟨a',lb'⟩,q1,q2,q3⟩:=hb1 i _ hi
  simp only at q2 q3;subst q3
  obtain⟨h1,h2,cells,h3,h4⟩:=B.cell i a lb' q1
  refine⟨h1.imp (hadr a).1 id,h2,cells,by rw[LB.rnm_sz q2];exact h3,fun Z' hbk=>LB.rnm_rel (sub_refl _) (fun b b' p hs hz=>?_) q2 h4⟩
  obtain⟨q,g3,g4,g5⟩:=h1b b p hz
  exact⟨q,hbk b b' q hs g3,(hgr p q _ g4 g5).1⟩) (fun i lb hi=>by
  obtain⟨⟨a',lb'⟩,q1,q2,q3⟩:=hb1 i _ hi
  simp only at q2 q3;subst q3
  exact(LB.rnm_nil q2).1 (B.nil i lb' q1)) (fun i j a l1 l2 e1 e2=>by
  obtain⟨⟨a1,lb1⟩,q1,_,q3⟩:=hb1 i _ e1
  obtain⟨⟨a2,lb2⟩,p1,_,p3⟩:=hb1 j _ e2
  simp only at q3 p3;subst q3;subst p3
  exact B.inj i j a lb1 lb2 q1 p1) (fun b x hb'=>B.keep b x (fun h=>hb' ((hadr b).1 h))) (fun b p hp=>by
  obtain⟨q,q1,q2,q3⟩:=h0r b p hp
  obtain⟨p1,p2,p3⟩:=B.ext b q q1
  obtain⟨y,y1,y2,y3⟩:=h1b b p1 p2
  exact⟨y,y1,((hgr p q _ q2 q3).1.trans p3).trans (hgr p1 y _ y2 y3).1⟩) (fun i a lb hi=>by
  obtain⟨⟨a',lb'⟩,q1,_,q3⟩:=hb1 i _ hi
  simp only at q3;subst q3
  rcases B.lo i a lb' q1 with h|⟨lb0,h⟩
  ·exact .inl h
  ·obtain⟨⟨a2,lb2⟩,p1,_,p3⟩:=hr0 i _ h
   simp only at p3;subst p3
   exact .inr ⟨lb2,p1⟩) (by rw[hLb2];exact hL')
 have hrel:RL M1 Z' u' v:=AL.ren_rel (sub_refl _) (fun b b' p hs hz=>by
  obtain⟨q,g3,g4,g5⟩:=h1b b p hz
  exact⟨q,hback b b' q hs g3,(hgr p q _ g4 g5).1⟩) 6 u u' v hu' g1
 obtain⟨tm2,m2,n2,Z2,M3,tl2,L2,hb2,he2,r⟩:=k' c Z' M1 (upd tm d v) m1 n1 hM' ((hS.mono hE).put hrel)
 exact⟨tm2,m2,n2,Z2,M3,tl2,L2,op_run (o:=⟨some d,.call f es,none,false⟩) rfl (.inr ⟨f,_,rfl,hb⟩) hb2,hE.trans he2,r⟩
end
end Go.Proofs.YtoppcdecolponaaGreat.AL
namespace Go.Proofs.YtoppcdecolponaaGreat.AL
open Go
set_option linter.unusedVariables false
def only3:Nat→Nat→Nat→Nat→List LB→List LB
 | _,_,_,_,[]=>[]
 | i,a,b,c,x::L=>(match Nat.beq i a,Nat.beq i b,Nat.beq i c with
   | false,false,false=>LB.gone
   | _,_,_=>x)::only3 (i+1) a b c L
theorem only3_at:∀ {j a b c:Nat} {L:List LB} {i:Nat} {lb:LB},(only3 j a b c L)[i]?=some lb→lb≠.gone→(j+i=a∨j+i=b∨j+i=c)∧L[i]?=some lb
 | j,a,b,c,[],i,lb,h,_=>by simp [only3] at h
 | j,a,b,c,x::L,0,lb,h,hn=>by
   simp only[only3,List.getElem?_cons_zero,Option.some.injEq] at h
   split at h
   ·exact absurd h.symm hn
   ·rename_i hno
    subst h
    refine⟨?_,rfl⟩
    cases e1:Nat.beq j a with
    | true=>exact .inl (Nat.eq_of_beq_eq_true e1)
    | false =>
      cases e2:Nat.beq j b with
      | true=>exact .inr (.inl (Nat.eq_of_beq_eq_true e2))
      | false =>
        cases e3:Nat.beq j c with
        | true=>exact .inr (.inr (Nat.eq_of_beq_eq_true e3))
        | false=>exact(hno e1 e2 e3).elim
 | j,a,b,c,x::L,i+1,lb,h,hn=>by
   simp only[only3,List.getElem?_cons_succ] at h
   obtain⟨h1,h2⟩:=only3_at h hn
   exact⟨by omega,by simpa using h2⟩
section
variable {N : Nat} {G : Prg} {tl : Tl} {L : List LB}
theorem frz_keep {c:Cx N} {Z Z1:Zl} {M M1 m:Mem} {n b b2 k:Nat} {rows:List (List V)} {a:Nat} (he:ExtV Z M Z1 M1) (hM1:StM c Z1 M1 (L.set b .dead) m n) (hne:b≠b2) (hL:L[b2]?=some (.arr k rows)) (hz:Z[b2]?=some (some a,.arr k rows)):Z1[b2]?=some (some a,.arr k rows):=by
 obtain⟨⟨a1,lb1⟩,h1,h2⟩:=he.hZ b2 _ hz
 have h3:(L.set b .dead)[b2]?=some lb1:=by rw[←hM1.hL,List.getElem?_map,h1];rfl
 rw[List.getElem?_set_ne hne,hL] at h3
 cases h3
 rcases h2.arr with⟨rows1,e1,_,e3⟩|e1
 ·simp only at e1 e3
  cases e1
  rw[h1,e3 rfl]
 ·cases e1
theorem s_frz3 {l:List IOp} {K:Tl→List LB→Prop} (b1 b2 b3 i:Nat) {k1 k2 k3:Nat} {r1 r2 r3:List (List V)} {v u:V} {p:List (Nat×Nat)} {L1 L2 L3:List LB} (hb1:L[b1]?=some (.arr k1 r1)) (hb2:L[b2]?=some (.arr k2 r2)) (hb3:L[b3]?=some (.arr k3 r3)) (hN:N≤b1∧N≤b2∧N≤b3) (hd:b1≠b2∧b1≠b3∧b2≠b3) (hi:look tl i=some v) (hu:fr (only3 0 b1 b2 b3 L) 6 v=some (u,p)) (ho:∀ e,e∈p→e.1=e.2) (hL1:setN L b1 .dead=some L1) (hL2:setN L1 b2 .dead=some L2) (hL3:setN L2 b3 .dead=some L3)
 (kk:VO N G l K ((i,u)::tl) L3):VO N G l K tl L:=by
 intro c Z M tm m n hM hS
 obtain⟨_,rfl⟩:=setN_inv hL1
 obtain⟨_,rfl⟩:=setN_inv hL2
 obtain⟨_,rfl⟩:=setN_inv hL3
 have hb2':(L.set b1 .dead)[b2]?=some (.arr k2 r2):=by rw[List.getElem?_set_ne hd.1];exact hb2
 have hb3':(L.set b1 .dead)[b3]?=some (.arr k3 r3):=by rw[List.getElem?_set_ne hd.2.1];exact hb3
 have hb3'':((L.set b1 .dead).set b2 .dead)[b3]?=some (.arr k3 r3):=by rw[List.getElem?_set_ne hd.2.2];exact hb3'
 obtain⟨Z1,M1,he1,hM1,ha1⟩:=frz_core hM hb1 hN.1
 obtain⟨Z2,M2,he2,hM2,ha2⟩:=frz_core hM1 hb2' hN.2.1
 obtain⟨Z3,M3,he3,hM3,ha3⟩:=frz_core hM2 hb3'' hN.2.2
 have hE:ExtV Z M Z3 M3:=⟨sub_trans he1.hM (sub_trans he2.hM he3.hM),fun b p hp=>by
  obtain⟨p1,h1,g1⟩:=he1.hZ b p hp
  obtain⟨p2,h2,g2⟩:=he2.hZ b p1 h1
  obtain⟨p3,h3,g3⟩:=he3.hZ b p2 h2
  exact⟨p3,h3,(g1.trans g2).trans g3⟩⟩
 have up:∀ (M':Mem) a,sub M' M3→(∃ x,m a=some x)→M' a=m a→M3 a=m a:=fun M' a hs ⟨x,hx⟩ e=>by rw[hx] at e ⊢;exact hs _ _ e
 have hr:RF M3 u (tm i):=fr_relM hM hE.hM (fun j lb h h'=>(only3_at h h').2) (fun j a lb hl hg hz=>by
  obtain⟨hj,h2⟩:=only3_at hl hg
  have hx:∃ x,m a=some x:=by
   obtain⟨_,_,h3⟩:=hM.cell j a lb hz
   cases lb with
   | gone=>exact absurd rfl hg
   | dead=>exact h3.elim
   | cell row=>obtain⟨cells,h4,_⟩:=h3;exact⟨_,h4⟩
   | arr k rows=>obtain⟨cells,h4,_⟩:=h3;exact⟨_,h4⟩
  rcases hj with hj|hj|hj
  ·have hj:j=b1:=by omega
   subst hj
   rw[hb1] at h2;cases h2
   exact up M1 a (sub_trans he2.hM he3.hM) hx (ha1 a hz)
  ·have hj:j=b2:=by omega
   subst hj
   rw[hb2] at h2;cases h2
   exact up M2 a he3.hM hx (ha2 a (frz_keep he1 hM1 hd.1 hb2 hz))
  ·have hj:j=b3:=by omega
   subst hj
   rw[hb3] at h2;cases h2
   exact ha3 a (frz_keep he2 hM2 hd.2.2 hb3' (frz_keep he1 hM1 hd.2.1 hb3 hz))) 6 v u p _ hu ho (hS i v hi)
 have hS1:Slots M3 Z3 ((i,u)::tl) tm:=fun t w hw=>by
  simp only[look] at hw
  cases e:Nat.beq t i with
  | true=>rw[e] at hw;cases hw;rw[Nat.eq_of_beq_eq_true e];exact .fz hr
  | false=>rw[e] at hw;exact(hS t w hw).mono hE
 obtain⟨tm2,m2,n2,Z4,M4,tl2,L4,hb2,he4,r⟩:=kk c Z3 M3 tm m n hM3 hS1
 exact⟨tm2,m2,n2,Z4,M4,tl2,L4,hb2,hE.trans he4,r⟩
theorem vc_hasR {c:C} {Q:Ex→Tl→List LB→Prop} {S:Tl} {F:List LB} (hh:HasR N tl L S F) (k:VC N G c Q S F):VC N G c Q tl L:=by
 intro cx Z M tm m n hM hS
 obtain⟨K,F1,hK,hF,hFe,hSj⟩:=hh.h
 obtain⟨Z',g1,g2,g3⟩:=compact hM hK hF
 obtain⟨e,tm1,m1,n1,Z1,M1,tl1,L1,hb,he,r⟩:=k cx Z' M tm m n (hFe ▸ g2) (fun t v hv=>by
  obtain⟨u,h1,h2⟩:=hSj _ (lookV_mem hv)
  exact ren_rel (sub_refl _) g3 6 u v _ h2 (hS t u h1))
 exact⟨e,tm1,m1,n1,Z1,M1,tl1,L1,hb,g1.trans he,r⟩
theorem S_join {a b:C} {Q:Ex→Tl→List LB→Prop} {ι:Type} (P:ι→Prop) (S:ι→Tl) (F:ι→List LB) (h:VC N G a (loopQ (fun tl1 L1=>∃ j,P j∧HasR N tl1 L1 (S j) (F j)) Q) tl L) (k:∀ j,P j→VC N G b Q (S j) (F j)):VC N G (.seq a b) Q tl L:=by
 refine Ey (s_mono h fun e tl L h=>?_)
 cases e with
 | normal=>obtain⟨j,hj,hh⟩:=(show ∃ j,P j∧HasR N tl L (S j) (F j) from h);exact vc_hasR hh (k j hj)
 | _=>exact h
end
end Go.Proofs.YtoppcdecolponaaGreat.AL
namespace Go.Proofs.YtoppcdecolponaaGreat.AL
open Go
set_option linter.unusedVariables false
def keepL (bs:List Nat):Nat→List LB→List LB
 | _,[]=>[]
 | i,x::L=>(bif bs.any (Nat.beq i) then x else LB.gone)::keepL bs (i+1) L
theorem keepL_at {bs:List Nat}:∀ {j:Nat} {L:List LB} {i:Nat} {lb:LB},(keepL bs j L)[i]?=some lb→lb≠.gone→(j+i)∈bs∧L[i]?=some lb
 | j,[],i,lb,h,_=>by simp [keepL] at h
 | j,x::L,0,lb,h,hn=>by
   simp only[keepL,List.getElem?_cons_zero,Option.some.injEq] at h
   cases e:bs.any (Nat.beq j) with
   | false=>rw[e] at h;exact absurd h.symm hn
   | true =>
     rw[e] at h
     obtain⟨y,h1,h2⟩:=List.any_eq_true.1 e
     rw[←Nat.eq_of_beq_eq_true h2] at h1
     exact⟨h1,by rw[←h];rfl⟩
 | j,x::L,i+1,lb,h,hn=>by
   simp only[keepL,List.getElem?_cons_succ] at h
   obtain⟨h1,h2⟩:=keepL_at h hn
   exact⟨by rw[show j+(i+1)=j+1+i by omega];exact h1,by simpa using h2⟩
def killL:List Nat→List LB→Option (List LB)
 | [],L=>some L
 | b::bs,L=>match L[b]?,setN L b .dead with
   | some (.arr _ _),some L1=>killL bs L1
   | _,_=>none
theorem killL_inv {b:Nat} {bs:List Nat} {L L':List LB} (h:killL (b::bs) L=some L'):∃ k rows,L[b]?=some (.arr k rows)∧killL bs (L.set b .dead)=some L':=by
 unfold killL at h
 split at h
 ·rename_i k rows L1 h1 h2
  obtain⟨_,rfl⟩:=setN_inv h2
  exact⟨k,rows,h1,h⟩
 ·cases h
theorem killL_arr:∀ {bs:List Nat} {L L':List LB} {b:Nat},killL bs L=some L'→b∈bs→∃ k rows,L[b]?=some (.arr k rows)
 | c::bs,L,L',b,h,hb=>by
   obtain⟨k,rows,h1,h2⟩:=killL_inv h
   by_cases e:c=b
   ·subst e;exact⟨k,rows,h1⟩
   ·obtain⟨k,rows,h3⟩:=killL_arr (b:=b) h2 ((List.mem_cons.1 hb).resolve_left fun x=>e x.symm)
    rw[List.getElem?_set_ne e] at h3
    exact⟨k,rows,h3⟩
section
variable {N : Nat} {G : Prg} {tl : Tl} {L : List LB}
theorem cell_some {c:Cx N} {Z:Zl} {M m:Mem} {n:Nat} {L:List LB} (hM:StM c Z M L m n) {j a:Nat} {lb:LB} (hz:Z[j]?=some (some a,lb)) (hg:lb≠.gone):∃ x,m a=some x:=by
 obtain⟨_,_,h3⟩:=hM.cell j a lb hz
 cases lb with
 | gone=>exact absurd rfl hg
 | dead=>exact h3.elim
 | cell row=>obtain⟨cells,h4,_⟩:=h3;exact⟨_,h4⟩
 | arr k rows=>obtain⟨cells,h4,_⟩:=h3;exact⟨_,h4⟩
theorem frz_all {c:Cx N}:∀ (bs:List Nat) {Z:Zl} {M m:Mem} {n:Nat} {L L':List LB},StM c Z M L m n→(∀ b,b∈bs→N≤b)→killL bs L=some L' →
 ∃ Z1 M1,ExtV Z M Z1 M1∧StM c Z1 M1 L' m n∧∀ b,b∈bs→∀ a lb,L[b]?=some lb→Z[b]?=some (some a,lb)→M1 a=m a
 | [],Z,M,m,n,L,L',hM,_,h=>by
   cases h
   exact⟨Z,M,⟨sub_refl _,fun b p hp=>⟨p,hp,grow.refl p⟩⟩,hM,fun b hb=>nomatch hb⟩
 | b::bs,Z,M,m,n,L,L',hM,hN,h=>by
   obtain⟨k,rows,h1,h2⟩:=killL_inv h
   obtain⟨Z1,M1,he1,hM1,ha1⟩:=frz_core hM h1 (hN b (List.mem_cons_self ..))
   obtain⟨Z2,M2,he2,hM2,ha2⟩:=frz_all bs hM1 (fun x hx=>hN x (List.mem_cons_of_mem _ hx)) h2
   refine⟨Z2,M2,⟨sub_trans he1.hM he2.hM,fun i p hp=>?_⟩,hM2,fun b' hb' a lb hl hz=>?_⟩
   ·obtain⟨p1,g1,g2⟩:=he1.hZ i p hp
    obtain⟨p2,g3,g4⟩:=he2.hZ i p1 g1
    exact⟨p2,g3,g2.trans g4⟩
   ·by_cases e:b=b'
    ·subst e
     rw[h1] at hl;cases hl
     have h5:=ha1 a hz
     obtain⟨x,hx⟩:=cell_some hM hz (by simp)
     rw[hx] at h5 ⊢
     exact he2.hM _ _ h5
    ·have hb2:=(List.mem_cons.1 hb').resolve_left fun x=>e x.symm
     obtain⟨k2,rows2,h6⟩:=killL_arr h2 hb2
     have h7:=h6
     rw[List.getElem?_set_ne e,hl] at h7
     cases h7
     exact ha2 b' hb2 a _ h6 (frz_keep he1 hM1 e hl hz)
theorem s_frzL {l:List IOp} {K:Tl→List LB→Prop} (bs:List Nat) (i:Nat) {v u:V} {p:List (Nat×Nat)} {L1:List LB} (hN:∀ b,b∈bs→N≤b) (hi:look tl i=some v) (hu:fr (keepL bs 0 L) 6 v=some (u,p)) (ho:∀ e,e∈p→e.1=e.2) (hL1:killL bs L=some L1)
 (kk:VO N G l K ((i,u)::tl) L1):VO N G l K tl L:=by
 intro c Z M tm m n hM hS
 obtain⟨Z1,M1,hE,hM1,ha⟩:=frz_all bs hM hN hL1
 have hr:RF M1 u (tm i):=fr_relM hM hE.hM (fun j lb h h'=>(keepL_at h h').2) (fun j a lb hl hg hz=>by
  obtain⟨hj,h2⟩:=keepL_at hl hg
  rw[Nat.zero_add] at hj
  exact ha j hj a lb h2 hz) 6 v u p _ hu ho (hS i v hi)
 have hS1:Slots M1 Z1 ((i,u)::tl) tm:=fun t w hw=>by
  simp only[look] at hw
  cases e:Nat.beq t i with
  | true=>rw[e] at hw;cases hw;rw[Nat.eq_of_beq_eq_true e];exact .fz hr
  | false=>rw[e] at hw;exact(hS t w hw).mono hE
 obtain⟨tm2,m2,n2,Z4,M4,tl2,L4,hb2,he4,r⟩:=kk c Z1 M1 tm m n hM1 hS1
 exact⟨tm2,m2,n2,Z4,M4,tl2,L4,hb2,hE.trans he4,r⟩
end
end Go.Proofs.YtoppcdecolponaaGreat.AL
namespace Go.Proofs.YtoppcdecolponaaGreat.AL
open Go
set_option linter.unusedVariables false
theorem beq_dec (a b:List UInt8):(a == b)=decide (a=b):=by
 by_cases h:a=b
 ·subst h;simp
 ·rw[decide_eq_false h,beq_eq_false_iff_ne];exact h
end Go.Proofs.YtoppcdecolponaaGreat.AL
namespace Go.Proofs.YtoppcdecolponaaGreat.AL
open Go
set_option linter.unusedVariables false
def i64 (x:Int):Prop:=-9223372036854775808≤x∧x≤9223372036854775807
structure MConf where
 weight:Int
 prio:Bool
 every:Int
 cap:Int
 deriving DecidableEq
def MConf.wf (x:MConf):Prop:=i64 x.weight∧i64 x.every∧i64 x.cap
structure Bucket where
 tokens:Int
 count:Int
 deriving DecidableEq
def Bucket.wf (x:Bucket):Prop:=i64 x.tokens∧i64 x.count
structure Wrr where
 pos:Int
 credit:Int
 deriving DecidableEq
def Wrr.wf (x:Wrr):Prop:=i64 x.pos∧i64 x.credit
structure Beat where
 live:Bool
 who:Int
 num:Int
 first:Bool
 via:Int
 left:Int
 resp:Int
 second:Bool
 deriving DecidableEq
def Beat.wf (x:Beat):Prop:=i64 x.who∧i64 x.num∧i64 x.via∧i64 x.left∧i64 x.resp
structure Done where
 cycle:Int
 who:Int
 write:Bool
 addr:Int
 size:Int
 value:Int
 resp:Int
 deriving DecidableEq
def Done.wf (x:Done):Prop:=i64 x.cycle∧i64 x.who∧i64 x.addr∧i64 x.size∧i64 x.value∧i64 x.resp
structure Wave where
 cycle:Int
 addr:Int
 kind:Int
 who:Int
 data:Int
 src:Int
 ready:Bool
 resp:Int
 got:Int
 deriving DecidableEq
def Wave.wf (x:Wave):Prop:=i64 x.cycle∧i64 x.addr∧i64 x.kind∧i64 x.who∧i64 x.data∧i64 x.src∧i64 x.resp∧i64 x.got
structure Apb where
 state:Int
 left:Int
 deriving DecidableEq
def Apb.wf (x:Apb):Prop:=i64 x.state∧i64 x.left
structure Req where
 write:Bool
 addr:Int
 size:Int
 burst:Int
 lock:Bool
 data:List Int
 deriving DecidableEq
def Req.wf (x:Req):Prop:=i64 x.addr∧i64 x.size∧i64 x.burst∧(x.data.length≤140737488355328∧∀ y,y∈x.data→i64 y)
structure Conf where
 masters:List MConf
 quantum:Int
 maxWait:Int
 maxRetry:Int
 maxSplit:Int
 lockMost:Int
 deriving DecidableEq
def Conf.wf (x:Conf):Prop:=(x.masters.length≤140737488355328∧∀ y,y∈x.masters→MConf.wf y)∧i64 x.quantum∧i64 x.maxWait∧i64 x.maxRetry∧i64 x.maxSplit∧i64 x.lockMost
structure Post where
 moment:Int
 who:Int
 req:Req
 deriving DecidableEq
def Post.wf (x:Post):Prop:=i64 x.moment∧i64 x.who∧Req.wf x.req
structure Script where
 posts:List Post
 waits:List Int
 says:List Int
 deriving DecidableEq
def Script.wf (x:Script):Prop:=(x.posts.length≤140737488355328∧∀ y,y∈x.posts→Post.wf y)∧(x.waits.length≤140737488355328∧∀ y,y∈x.waits→i64 y)∧(x.says.length≤140737488355328∧∀ y,y∈x.says→i64 y)
structure Dev where
 regs:List Int
 timer:Int
 fifo:List Int
 deriving DecidableEq
def Dev.wf (x:Dev):Prop:=(x.regs.length≤140737488355328∧∀ y,y∈x.regs→i64 y)∧i64 x.timer∧(x.fifo.length≤140737488355328∧∀ y,y∈x.fifo→i64 y)
structure Model where
 ram:List Int
 dev:Dev
 deriving DecidableEq
def Model.wf (x:Model):Prop:=(x.ram.length≤140737488355328∧∀ y,y∈x.ram→i64 y)∧Dev.wf x.dev
structure Mst where
 queue:List Req
 beat:Int
 done:Int
 tries:Int
 parted:Bool
 broken:Bool
 deriving DecidableEq
def Mst.wf (x:Mst):Prop:=(x.queue.length≤140737488355328∧∀ y,y∈x.queue→Req.wf y)∧i64 x.beat∧i64 x.done∧i64 x.tries
structure Bus where
 conf:Conf
 now:Int
 ms:List Mst
 arb:Wrr
 buckets:List Bucket
 splits:List Int
 holder:Int
 kept:Int
 last:Int
 addr:Beat
 data:Beat
 model:Model
 picks:Int
 log:List Done
 deriving DecidableEq
def Bus.wf (x:Bus):Prop:=Conf.wf x.conf∧i64 x.now∧(x.ms.length≤140737488355328∧∀ y,y∈x.ms→Mst.wf y)∧Wrr.wf x.arb∧(x.buckets.length≤140737488355328∧∀ y,y∈x.buckets→Bucket.wf y)∧(x.splits.length≤140737488355328∧∀ y,y∈x.splits→i64 y)∧i64 x.holder∧i64 x.kept∧i64 x.last∧Beat.wf x.addr∧Beat.wf x.data∧Model.wf x.model∧i64 x.picks∧(x.log.length≤140737488355328∧∀ y,y∈x.log→Done.wf y)
end Go.Proofs.YtoppcdecolponaaGreat.AL
namespace Go.Proofs.YtoppcdecolponaaGreat.AL
open Go
set_option linter.unusedVariables false
def iR (x:Int):List V:=[.w (.int .i64 x)]
def bR (x:Bool):List V:=[.w (.bool x)]
def uR (x:Int):List V:=[.w (.int .u8 x)]
abbrev u8 (x:Int):Prop:=0≤x∧x≤255
def MConf.r (x:MConf):List V:=[.w (.int .i64 x.weight),.w (.bool x.prio),.w (.int .i64 x.every),.w (.int .i64 x.cap)]
def Bucket.r (x:Bucket):List V:=[.w (.int .i64 x.tokens),.w (.int .i64 x.count)]
def Wrr.r (x:Wrr):List V:=[.w (.int .i64 x.pos),.w (.int .i64 x.credit)]
def Beat.r (x:Beat):List V:=[.w (.bool x.live),.w (.int .i64 x.who),.w (.int .i64 x.num),.w (.bool x.first),.w (.int .i64 x.via),.w (.int .i64 x.left),.w (.int .i64 x.resp),.w (.bool x.second)]
def Done.r (x:Done):List V:=[.w (.int .i64 x.cycle),.w (.int .i64 x.who),.w (.bool x.write),.w (.int .i64 x.addr),.w (.int .i64 x.size),.w (.int .i64 x.value),.w (.int .i64 x.resp)]
def Wave.r (x:Wave):List V:=[.w (.int .i64 x.cycle),.w (.int .i64 x.addr),.w (.int .i64 x.kind),.w (.int .i64 x.who),.w (.int .i64 x.data),.w (.int .i64 x.src),.w (.bool x.ready),.w (.int .i64 x.resp),.w (.int .i64 x.got)]
def Apb.r (x:Apb):List V:=[.w (.int .i64 x.state),.w (.int .i64 x.left)]
def Req.r (x:Req):List V:=[.w (.bool x.write),.w (.int .i64 x.addr),.w (.int .i64 x.size),.w (.int .i64 x.burst),.w (.bool x.lock),.sl 1 (x.data.map iR)]
def Conf.r (x:Conf):List V:=[.sl 4 (x.masters.map MConf.r),.w (.int .i64 x.quantum),.w (.int .i64 x.maxWait),.w (.int .i64 x.maxRetry),.w (.int .i64 x.maxSplit),.w (.int .i64 x.lockMost)]
def Post.r (x:Post):List V:=[.w (.int .i64 x.moment),.w (.int .i64 x.who),.w (.bool x.req.write),.w (.int .i64 x.req.addr),.w (.int .i64 x.req.size),.w (.int .i64 x.req.burst),.w (.bool x.req.lock),.sl 1 (x.req.data.map iR)]
def Script.r (x:Script):List V:=[.sl 8 (x.posts.map Post.r),.sl 1 (x.waits.map iR),.sl 1 (x.says.map iR)]
def Dev.r (x:Dev):List V:=[.sl 1 (x.regs.map iR),.w (.int .i64 x.timer),.sl 1 (x.fifo.map iR)]
def Model.r (x:Model):List V:=[.sl 1 (x.ram.map iR),.sl 1 (x.dev.regs.map iR),.w (.int .i64 x.dev.timer),.sl 1 (x.dev.fifo.map iR)]
def Mst.r (x:Mst):List V:=[.sl 6 (x.queue.map Req.r),.w (.int .i64 x.beat),.w (.int .i64 x.done),.w (.int .i64 x.tries),.w (.bool x.parted),.w (.bool x.broken)]
def Bus.r (x:Bus):List V:=[.sl 4 (x.conf.masters.map MConf.r),.w (.int .i64 x.conf.quantum),.w (.int .i64 x.conf.maxWait),.w (.int .i64 x.conf.maxRetry),.w (.int .i64 x.conf.maxSplit),.w (.int .i64 x.conf.lockMost),.w (.int .i64 x.now),.sl 6 (x.ms.map Mst.r),.w (.int .i64 x.arb.pos),.w (.int .i64 x.arb.credit),.sl 2 (x.buckets.map Bucket.r),.sl 1 (x.splits.map iR),.w (.int .i64 x.holder),.w (.int .i64 x.kept),.w (.int .i64 x.last),.w (.bool x.addr.live),.w (.int .i64 x.addr.who),.w (.int .i64 x.addr.num),.w (.bool x.addr.first),.w (.int .i64 x.addr.via),.w (.int .i64 x.addr.left),.w (.int .i64 x.addr.resp),.w (.bool x.addr.second),.w (.bool x.data.live),.w (.int .i64 x.data.who),.w (.int .i64 x.data.num),.w (.bool x.data.first),.w (.int .i64 x.data.via),.w (.int .i64 x.data.left),.w (.int .i64 x.data.resp),.w (.bool x.data.second),.sl 1 (x.model.ram.map iR),.sl 1 (x.model.dev.regs.map iR),.w (.int .i64 x.model.dev.timer),.sl 1 (x.model.dev.fifo.map iR),.w (.int .i64 x.picks),.sl 7 (x.log.map Done.r)]
end Go.Proofs.YtoppcdecolponaaGreat.AL
namespace Go.Proofs.YtoppcdecolponaaGreat.AL
open Go
set_option linter.unusedVariables false
theorem take_get {α:Type} {xs:List α} {i:Nat} {y:α} (h:xs[i]?=some y):xs.take (i+1)=xs.take i++[y]:=by
 rw[List.take_add_one,h];rfl
theorem take_end {α:Type} {xs:List α} {i:Nat} (h:xs.length≤i):xs.take i=xs:=List.take_of_length_le h
theorem all_take {α:Type} {xs:List α} {i:Nat} {y:α} {p:α→Bool} (h:xs[i]?=some y) (h1:(xs.take i).all p=true) (h2:p y=true):(xs.take (i+1)).all p=true:=by
 rw[take_get h,List.all_append,h1];simp [h2]
theorem all_end {α:Type} {xs:List α} {i:Nat} {p:α→Bool} (h:(xs.take i).all p=true) (hi:xs.length≤i):xs.all p=true:=by rwa [take_end hi] at h
theorem all_no {α:Type} {xs:List α} {i:Nat} {y:α} {p:α→Bool} (h:xs[i]?=some y) (h2:p y=false):xs.all p=false:=by
 rw[List.all_eq_false];exact⟨y,List.mem_of_getElem? h,by simp [h2]⟩
theorem any_take {α:Type} {xs:List α} {i:Nat} {y:α} {p:α→Bool} (h:xs[i]?=some y) (h1:(xs.take i).any p=false) (h2:p y=false):(xs.take (i+1)).any p=false:=by
 rw[take_get h,List.any_append,h1];simp [h2]
theorem any_end {α:Type} {xs:List α} {i:Nat} {p:α→Bool} (h:(xs.take i).any p=false) (hi:xs.length≤i):xs.any p=false:=by rwa [take_end hi] at h
def inB (x a b:Int):Bool:=decide (a≤x) && decide (x≤b)
theorem inB_t {x a b:Int} (h:inB x a b=true):a≤x∧x≤b:=by simpa[inB] using h
theorem inB_f {x a b:Int} (h:inB x a b=false):x<a∨b<x:=by simp [inB] at h;omega
def idxOf {α:Type} (p:α→Bool) (xs:List α):Int:=match xs.findIdx? p with
 | some i=>i
 | none=>-1
theorem idxOf_at {α:Type} {p:α→Bool} {xs:List α} {i:Nat} {y:α} (h:xs[i]?=some y) (h1:(xs.take i).any p=false) (h2:p y=true):idxOf p xs=i:=by
 have:xs.findIdx? p=some i:=by
  rw[List.findIdx?_eq_some_iff_getElem]
  obtain⟨g1,g2⟩:=List.getElem?_eq_some_iff.1 h
  refine⟨g1,by rw[g2];exact h2,fun j hj=>?_⟩
  rw[List.any_eq_false] at h1
  have:=h1 xs[j] (by rw[List.mem_take_iff_getElem];exact⟨j,by omega,rfl⟩)
  simpa using this
 simp [idxOf,this]
theorem idxOf_no {α:Type} {p:α→Bool} {xs:List α} (h:xs.any p=false):idxOf p xs=-1:=by
 have:xs.findIdx? p=none:=by
  rw[List.findIdx?_eq_none_iff]
  intro x hx
  rw[List.any_eq_false] at h
  simpa using h x hx
 simp [idxOf,this]
theorem idxOf_any {α:Type} (p:α→Bool) (xs:List α):decide (0≤idxOf p xs)=xs.any p:=by
 cases h:xs.any p with
 | false=>rw[idxOf_no h];rfl
 | true =>
   unfold idxOf
   cases e:xs.findIdx? p with
   | none =>
     rw[List.findIdx?_eq_none_iff] at e
     obtain⟨x,hx,hp⟩:=List.any_eq_true.1 h
     rw[e x hx] at hp;cases hp
   | some i=>simp
theorem fzV_mono:∀ (n:Nat) (v:V),V.fzV n v=true→V.fzV (n+1) v=true
 | 0,v,h=>by cases h
 | n+1,v,h=>by
   cases v with
   | agg cs=>exact List.all_eq_true.2 fun x hx=>fzV_mono n x (List.all_eq_true.1 h x hx)
   | tup cs=>exact List.all_eq_true.2 fun x hx=>fzV_mono n x (List.all_eq_true.1 h x hx)
   | fn f cs=>exact List.all_eq_true.2 fun x hx=>fzV_mono n x (List.all_eq_true.1 h x hx)
   | w _=>rfl
   | sl _ _=>rfl
   | rp _ _=>rfl
   | raw _=>rfl
   | _=>cases h
theorem fz1 {u:V} {caps:List V} (hu:V.fzV 6 u=true) (hc:caps.all (V.fzV 5)=true):([u]++caps).all (V.fzV 6)=true:=
 List.all_eq_true.2 fun x hx=>by
  simp only[List.cons_append,List.nil_append,List.mem_cons] at hx
  rcases hx with rfl|hx
  ·exact hu
  ·exact fzV_mono 5 x (List.all_eq_true.1 hc x hx)
theorem fz2 {u:V} {f:Nat} {caps:List V} (hu:V.fzV 6 u=true) (hc:caps.all (V.fzV 5)=true):[u,.fn f caps].all (V.fzV 6)=true:=by
 rw[List.all_cons,hu,List.all_cons]
 show(true && (caps.all (V.fzV 5) && true))=true
 rw[hc];rfl
def room (left:Int) (n:Nat):Int:=max (left-n) (-1)
def sumL {α:Type} (f:α→Nat):List α→Nat
 | []=>0
 | x::l=>f x+sumL f l
theorem sumL_mem {α:Type} (f:α→Nat) {xs:List α} {y:α} (h:y∈xs):f y≤sumL f xs:=by
 induction xs with
 | nil=>cases h
 | cons x xs ih =>
   simp only[List.mem_cons] at h
   simp only[sumL]
   rcases h with rfl|h
   ·omega
   ·have:=ih h;omega
end Go.Proofs.YtoppcdecolponaaGreat.AL
namespace Go.Proofs.YtoppcdecolponaaGreat.AL
open Go
set_option linter.unusedVariables false
def dig (b:UInt8):Bool:=decide (48≤b.toNat) && decide (b.toNat≤57)
theorem dig_iff {b:UInt8}:dig b=true↔48≤b.toNat∧b.toNat≤57:=by
 unfold dig;rw[Bool.and_eq_true,decide_eq_true_eq,decide_eq_true_eq]
def valN (acc:Nat) (l:List UInt8):Nat:=l.foldl (fun n b=>n * 10+(b.toNat-48)) acc
theorem valN_nil (acc):valN acc []=acc:=rfl
theorem valN_cons (acc:Nat) (b:UInt8) (l:List UInt8):valN acc (b::l)=valN (acc * 10+(b.toNat-48)) l:=by unfold valN;rw[List.foldl_cons]
theorem valN_app (acc l r):valN acc (l++r)=valN (valN acc l) r:=by simp [valN,List.foldl_append]
end Go.Proofs.YtoppcdecolponaaGreat.AL
namespace Go.Proofs.YtoppcdecolponaaGreat.AL
open Go
set_option linter.unusedVariables false
end Go.Proofs.YtoppcdecolponaaGreat.AL
namespace Go.Proofs.YtoppcdecolponaaGreat.AL
open Go
def Conf.cost (c:Conf):Int:=if inB c.maxRetry 0 3 && inB c.maxWait 0 3 then(c.maxRetry+2) * (c.maxWait+6) else 0
def Conf.slot (c:Conf):Int:=if c.cost=0∨inB c.lockMost 1 40=false then 0 else 2 * c.cost+c.lockMost
def priosOf (l:List MConf):Nat:=l.countP (·.prio)
def Conf.least (c:Conf):Int:=2 * c.slot * (priosOf c.masters:Int)
def MConf.ok (l:Int) (m:MConf):Bool:=
 inB m.weight 1 4 && (if m.prio then inB m.every l 1000 && inB m.cap 1 8 else decide (m.every=0) && decide (m.cap=0))
def Conf.ok (c:Conf):Bool:=
 inB c.masters.length 1 4 && inB c.quantum 1 4 && inB c.maxSplit 1 12 && decide (c.slot≠0) && c.masters.all (MConf.ok c.least)
theorem Conf.cost_bd (c:Conf):0≤c.cost∧c.cost≤45:=by
 unfold Conf.cost inB
 split
 ·rename_i h
  simp only[Bool.and_eq_true,decide_eq_true_eq] at h
  obtain⟨⟨h1,h2⟩,h3,h4⟩:=h
  have hr:c.maxRetry=0∨c.maxRetry=1∨c.maxRetry=2∨c.maxRetry=3:=by omega
  rcases hr with h|h|h|h <;> rw[h] <;> omega
 ·omega
theorem Conf.slot_bd (c:Conf):0≤c.slot∧c.slot≤130:=by
 have:=c.cost_bd
 unfold Conf.slot inB
 split
 ·omega
 ·rename_i h
  simp only[not_or,Bool.not_eq_false,Bool.and_eq_true,decide_eq_true_eq] at h
  omega
theorem slot_ne (x:Conf):decide (x.slot≠0)=(decide (0<x.cost) && inB x.lockMost 1 40):=by
 have h:=x.cost_bd
 unfold Conf.slot
 by_cases h1:x.cost=0
 ·rw[if_pos (.inl h1)];simp [h1]
 ·cases h2:inB x.lockMost 1 40 with
  | false=>rw[if_pos (.inr rfl)];simp
  | true =>
    have:=inB_t h2
    rw[if_neg (by simp [h1])]
    have h3:0<x.cost:=by omega
    have h4:2 * x.cost+x.lockMost≠0:=by omega
    simp [h3,h4]
theorem ok_no {x:Conf} {i:Nat} {y:MConf} (h:x.masters[i]?=some y) (h2:MConf.ok x.least y=false):false=x.ok:=by
 unfold Conf.ok;rw[all_no h h2];simp
theorem ok_is {x:Conf} (h:x.masters.all (MConf.ok x.least)=true):x.ok=(inB x.masters.length 1 4 && (inB x.quantum 1 4 && decide (0<x.cost) && inB x.maxSplit 1 12 && inB x.lockMost 1 40)):=by
 unfold Conf.ok;rw[h,slot_ne];cases inB x.masters.length 1 4 <;> cases inB x.quantum 1 4 <;> cases inB x.maxSplit 1 12 <;> simp
theorem priosOf_le (l:List MConf):priosOf l≤l.length:=List.countP_le_length
def Conf.turn (c:Conf) (who:Int):Int:=if c.ok && inB who 0 (c.masters.length-1) then IntKind.wrap .i64 ((match c.masters[who.toNat]? with|some m=>m.weight|none=>0) * c.quantum) else 0
def caps1 (slot:Int) (s:Int) (m:MConf):Int:=if m.prio then IntKind.wrap .i64 (s+IntKind.wrap .i64 (IntKind.wrap .i64 (m.cap+1) * slot)) else s
def Conf.caps (c:Conf):Int:=c.masters.foldl (caps1 c.slot) 0
def Conf.first (c:Conf):Int:=if c.ok then IntKind.wrap .i64 (IntKind.wrap .i64 (2 * IntKind.wrap .i64 (c.caps+c.slot))+10) else 0
def Wrr.ok (w:Wrr) (c:Conf):Bool:=c.ok && inB w.pos 0 (c.masters.length-1) && inB w.credit 0 (c.turn w.pos)
theorem foldl_take {α γ:Type} (f:γ→α→γ) (a:γ) {xs:List α} {i:Nat} {y:α} (h:xs[i]?=some y):(xs.take (i+1)).foldl f a=f ((xs.take i).foldl f a) y:=by
 rw[take_get h,List.foldl_append];rfl
end Go.Proofs.YtoppcdecolponaaGreat.AL
namespace Go.Proofs.YtoppcdecolponaaGreat.AL
open Go
open Go.ChangeShapes Go.WideShapes Go.RowKit
set_option linter.unusedVariables false
set_option linter.unusedSimpArgs false
structure VR {α:Type} (r:α→List V) (wf:α→Prop) (m:Mem) (x:α) (vs:List Value):Prop where
 pt:Pt (RF m) (r x) vs
 nar:∀ u,u∈r x→u.nar=true
 wf:wf x
theorem VR.mono {α:Type} {r:α→List V} {wf:α→Prop}:Mono (VR r wf):=fun m m1 x vs h hs=>⟨h.pt.mono fun _ _=>RF.mono hs,h.nar,h.wf⟩
theorem VR.int {m:Mem} {x:Int} {vs:List Value} (h:RInt .i64 m x vs):VR iR i64 m x vs:=by
 obtain⟨rfl,hw⟩:=h
 refine⟨Pt.cons (.w rfl) Pt.nil,fun u hu=>by simp [iR] at hu;subst hu;rfl,?_⟩
 simp [Lit.wf,IntKind.min,IntKind.max,IntKind.bits,IntKind.signed] at hw
 unfold AL.i64
 omega
theorem VR.byte {m:Mem} {x:Int} {vs:List Value} (h:RInt .u8 m x vs):VR uR u8 m x vs:=by
 obtain⟨rfl,hw⟩:=h
 refine⟨Pt.cons (.w rfl) Pt.nil,fun u hu=>by simp [uR] at hu;subst hu;rfl,?_⟩
 simp [Lit.wf,IntKind.min,IntKind.max,IntKind.bits,IntKind.signed] at hw
 unfold AL.u8
 omega
theorem VR.bool {m:Mem} {x:Bool} {vs:List Value} (h:RBool m x vs):VR bR (fun _=>True) m x vs:=by
 cases h
 exact⟨Pt.cons (.w rfl) Pt.nil,fun u hu=>by simp [bR] at hu;subst hu;rfl,trivial⟩
def slR {α:Type} (k:Nat) (r:α→List V) (xs:List α):List V:=[.sl k (xs.map r)]
theorem VR.sl {α:Type} {k:Nat} {r:α→List V} {wf:α→Prop} {m:Mem} {xs:List α} {vs:List Value} (h:RSl k (VR r wf) m xs vs):VR (slR k r) (fun xs=>xs.length≤140737488355328∧∀ y,y∈xs→wf y) m xs vs:=by
 obtain⟨a,c,rows,rfl,hc,hr,hl,hx,hb⟩:=h
 have hx':∀ (i:Nat) (u:List V) r',(xs.map r)[i]?=some u→rows[i]?=some r'→Pt (RF m) u r'∧∀ v,v∈u→v.nar=true:=by
  intro i u r' h1 h2
  rw[List.getElem?_map] at h1
  cases e:xs[i]? with
  | none=>rw[e] at h1;cases h1
  | some x =>
    rw[e] at h1;cases h1
    have:=hx i x r' e h2
    exact⟨this.pt,this.nar⟩
 have he:(xs.map r).length=xs.length:=by simp
 have hsl:RF m (.sl k (xs.map r)) (.slice a (xs.map r).length c):=by
  have hr':∀ (i:Nat) u,(xs.map r)[i]?=some u→∃ r',rows[i]?=some r':=fun i u h=>by
   have:=(List.getElem?_eq_some_iff.1 h).1
   exact⟨_,List.getElem?_eq_getElem (by omega)⟩
  refine .sl (by omega) hr (by omega) (fun i u j x h1 h2=>?_) (fun i u r' h1 h2=>(hx' i u r' h1 h2).1.1) (fun i u r' j x y h1 h2 h3 h4=>(hx' i u r' h1 h2).1.2 j x y h3 h4)
  obtain⟨r',h3⟩:=hr' i u h1
  exact(hx' i u r' h1 h3).2 x (List.mem_of_getElem? h2)
 rw[he] at hsl
 refine⟨Pt.cons hsl Pt.nil,fun u hu=>by simp [slR] at hu;subst hu;rfl,by simpa using hb,fun y hy=>?_⟩
 obtain⟨i,hi⟩:=List.mem_iff_getElem?.1 hy
 have hi2:i<rows.length:=by have:=(List.getElem?_eq_some_iff.1 hi).1;omega
 exact(hx i y _ hi (List.getElem?_eq_getElem hi2)).wf
theorem VR.nil {m:Mem} {x:Unit} {vs:List Value} (h:RNil m x vs):VR (fun _:Unit=>[]) (fun _=>True) m x vs:=by
 cases h
 exact⟨Pt.nil,by simp,trivial⟩
theorem VR.cons {α γ:Type} {r1:α→List V} {w1:α→Prop} {r2:γ→List V} {w2:γ→Prop} {R2:Mem→γ→List Value→Prop} {m:Mem} {x:α×γ} {vs:List Value} (h:RCons (VR r1 w1) R2 m x vs) (k:∀ vs',R2 m x.2 vs'→VR r2 w2 m x.2 vs') :
 VR (fun p:α×γ=>r1 p.1++r2 p.2) (fun p=>w1 p.1∧w2 p.2) m x vs:=by
 obtain⟨v1,v2,rfl,h1,h2⟩:=h
 have h2:=k _ h2
 refine⟨h1.pt.append h2.pt,fun u hu=>?_,h1.wf,h2.wf⟩
 rcases List.mem_append.1 hu with hu|hu
 ·exact h1.nar u hu
 ·exact h2.nar u hu
section
variable {H : Type} {enc : TypeId × Value → H} {P : Program} {no : No} {W : World}
theorem VO.int {t:TypeId} (ht:P.underlying t=some (.int .i64)):Opn enc P no W t (VR iR i64):=(Opn.int ht).imp fun m x vs h=>⟨x,VR.int h⟩
theorem VO.byte {t:TypeId} (ht:P.underlying t=some (.int .u8)):Opn enc P no W t (VR uR u8):=(Opn.int ht).imp fun m x vs h=>⟨x,VR.byte h⟩
theorem VO.bool {t:TypeId} (ht:P.underlying t=some .bool):Opn enc P no W t (VR bR fun _=>True):=(Opn.bool ht).imp fun m x vs h=>⟨x,VR.bool h⟩
theorem VO.slice {α:Type} {t e:TypeId} {k:Nat} {r:α→List V} {wf:α→Prop} (ht:P.underlying t=some (.slice e)) (hk:P.cellsOf e=k) (hk0:0<k) (hb:0<P.bytesOf e)
 (h:Opn enc P no W e (VR r wf)):Opn enc P no W t (VR (slR k r) fun xs=>xs.length≤140737488355328∧∀ y,y∈xs→wf y):=(Opn.slice VR.mono ht hk hk0 hb h).imp fun m x vs h=>⟨x,VR.sl h⟩
theorem Pt.word {R:V→Value→Prop} {u:V} {v:Value} (h:Pt R [u] [v]):R u v:=h.2 0 _ _ rfl rfl
theorem law_end {G:Prg} {f g:Nat} (hm:P.follows .mixedOrders=true) (hL:Link P no G) (hno:no f=some g) {β:Inj} {m:Mem} {n:Nat} (V:View no W β m n) {args:Array Value} {vals:List Value} {us:List AL.V}
 (hw:Wds no β n vals args.toList) (hp:Pt (RF m) us vals) (hc:CV G g us fun v=>v=.w (.bool true)):Calls P f args W fun e W'=>e=.returned (.bool true)∧Below W.heap.size W W':=by
 refine law_run hm hL hno V hw ?_
 refine(hc.run vals n m n m V.mlt.fresh (Nat.le_refl _) (sub_refl _) hp).mono ?_
 rintro v m1 n1 ⟨u,M1,h1,rfl,_⟩
 cases h1
 rfl
end
end Go.Proofs.YtoppcdecolponaaGreat.AL
namespace Go.Proofs.YtoppcdecolponaaGreat.AL
open Go
set_option linter.unusedVariables false
end Go.Proofs.YtoppcdecolponaaGreat.AL
namespace Go.Proofs.YtoppcdecolponaaGreat.AL
open Go
set_option linter.unusedVariables false
end Go.Proofs.YtoppcdecolponaaGreat.AL
