/- Code over plain data: what single operations do. -/
import Derived.Test.YtoppcdecolponaaGreatV0
namespace Go.Proofs.YtoppcdecolponaaGreat.AL
open Go
set_option linter.unusedVariables false
set_option linter.unusedSimpArgs false
def ofW (v:Value):Option V:=match flatW v with
 | true=>some (.w v)
 | false=>none
def ofWs:List Value→Option (List V)
 | []=>some []
 | v::l=>match ofW v,ofWs l with
   | some u,some us=>some (u::us)
   | _,_=>none
def ofVal:Value→Option V
 | .agg cs=>match ofWs cs.toList with
   | some l=>some (.agg l)
   | none=>none
 | .tuple cs=>match ofWs cs.toList with
   | some l=>some (.tup l)
   | none=>none
 | .func (.func f) a b=>match a.toList,b.toList with
   | [],[]=>some (.fn f [])
   | _,_=>none
 | v=>ofW v
def evE (tl:List (Nat×V)):E→Option V
 | .t i=>look tl i
 | .k v=>ofVal v
def evEs (tl:List (Nat×V)):List E→Option (List V)
 | []=>some []
 | e::l=>match evE tl e,evEs tl l with
   | some u,some us=>some (u::us)
   | _,_=>none
theorem ofW_inv {v u} (h:ofW v=some u):u=.w v∧flatW v=true:=by
 unfold ofW at h
 split at h
 ·rename_i e;cases h;exact⟨rfl,e⟩
 ·cases h
theorem ofWs_rel {M}:∀ {l us},ofWs l=some us→Pt (RF M) us l∧∀ u,u∈us→u.nar=true
 | [],us,h=>by simp [ofWs] at h;subst h;exact⟨Pt.nil,by simp⟩
 | v::l,us,h=>by
   simp only[ofWs] at h
   split at h
   ·rename_i u us' h1 h2
    cases h
    obtain⟨rfl,hf⟩:=ofW_inv h1
    obtain⟨i1,i2⟩:=ofWs_rel h2
    refine⟨Pt.cons (.w hf) i1,fun x hx=>?_⟩
    simp only[List.mem_cons] at hx
    rcases hx with rfl|hx
    ·rfl
    ·exact i2 x hx
   ·cases h
theorem ofVal_rel {M v u} (h:ofVal v=some u):RF M u v:=by
 unfold ofVal at h
 split at h
 ·split at h
  ·rename_i l h1
   cases h
   have:=(ofWs_rel (M:=M) h1).1
   exact .agg (by simpa using this.1) fun i x y h2 h3=>this.2 i x y h2 (by simpa using h3)
  ·cases h
 ·split at h
  ·rename_i l h1
   cases h
   have:=(ofWs_rel (M:=M) h1).1
   exact .tup (by simpa using this.1) fun i x y h2 h3=>this.2 i x y h2 (by simpa using h3)
  ·cases h
 ·split at h
  ·rename_i h1 h2
   cases h
   rw[Array.toList_eq_nil_iff] at h1 h2
   subst h1 h2
   exact .fn rfl fun i x y h=>by simp at h
  ·cases h
 ·obtain⟨rfl,hf⟩:=ofW_inv h
  exact .w hf
theorem evE_rel {M Z tl tm e u} (hs:Slots M Z tl tm) (h:evE tl e=some u):RL M Z u (e.ev tm):=by
 cases e with
 | t i=>exact hs _ _ h
 | k v=>exact .fz (ofVal_rel h)
theorem evEs_rel {M Z tl tm} (hs:Slots M Z tl tm):∀ {es us},evEs tl es=some us→Pt (RL M Z) us (es.map (·.ev tm))
 | [],us,h=>by simp [evEs] at h;subst h;exact Pt.nil
 | e::l,us,h=>by
   simp only[evEs] at h
   split at h
   ·rename_i u us' h1 h2
    cases h
    exact Pt.cons (evE_rel hs h1) (evEs_rel hs h2)
   ·cases h
theorem evE_w {M Z tl tm e v} (hs:Slots M Z tl tm) (h:evE tl e=some (.w v)):e.ev tm=v:=(evE_rel hs h).w_inv.1
def setN {α:Type}:List α→Nat→α→Option (List α)
 | [],_,_=>none
 | _::l,0,x=>some (x::l)
 | y::l,i+1,x=>match setN l i x with
   | some l'=>some (y::l')
   | none=>none
theorem setN_inv {α:Type}:∀ {l:List α} {i x l'},setN l i x=some l'→i<l.length∧l'=l.set i x
 | [],_,_,_,h=>by cases h
 | _::l,0,x,l',h=>by cases h;exact⟨by simp,rfl⟩
 | y::l,i+1,x,l',h=>by
   simp only[setN] at h
   split at h
   ·rename_i l1 h1
    cases h
    obtain⟨h2,h3⟩:=setN_inv h1
    exact⟨by simp;omega,by simp [h3]⟩
   ·cases h
def pushN {α:Type}:List α→α→Option (List α×Nat)
 | [],x=>some ([x],0)
 | y::l,x=>match pushN l x with
   | some (l',i)=>some (y::l',i+1)
   | none=>none
theorem pushN_inv {α:Type}:∀ {l:List α} {x p},pushN l x=some p→p=(l++[x],l.length)
 | [],_,_,h=>by cases h;rfl
 | y::l,x,p,h=>by
   simp only[pushN] at h
   split at h
   ·rename_i l1 i h1
    cases h
    have:=pushN_inv h1
    cases this;rfl
   ·cases h
def takeN:List V→Nat→Option (List V)
 | _,0=>some []
 | [],_+1=>none
 | x::l,n+1=>match takeN l n with
   | some r=>some (x::r)
   | none=>none
def subN:List V→Nat→Nat→Option (List V)
 | l,0,n=>takeN l n
 | [],_+1,_=>none
 | _::l,o+1,n=>subN l o n
theorem takeN_inv:∀ {l n r},takeN l n=some r→n≤l.length∧r=l.take n
 | l,0,r,h=>by cases l <;> (simp [takeN] at h;subst h;simp)
 | [],_+1,_,h=>by cases h
 | x::l,n+1,r,h=>by
   simp only[takeN] at h
   split at h
   ·rename_i r1 h1;cases h;obtain⟨h2,h3⟩:=takeN_inv h1;exact⟨by simp;omega,by simp [h3]⟩
   ·cases h
theorem subN_inv:∀ {l o n r},subN l o n=some r→o+n≤l.length∧r=(l.drop o).take n
 | l,0,n,r,h=>by
   have h:takeN l n=some r:=by cases l <;> exact h
   obtain⟨h2,h3⟩:=takeN_inv h;exact⟨by omega,by simpa using h3⟩
 | [],_+1,_,_,h=>by cases h
 | x::l,o+1,n,r,h=>by
   obtain⟨h2,h3⟩:=subN_inv (show subN l o n=some r from h)
   exact⟨by simp;omega,by simpa using h3⟩
def splN:List V→Nat→List V→Option (List V)
 | l,0,[]=>some l
 | [],_,_=>none
 | _::l,0,x::xs=>match splN l 0 xs with
   | some r=>some (x::r)
   | none=>none
 | y::l,o+1,xs=>match splN l o xs with
   | some r=>some (y::r)
   | none=>none
theorem splN_inv:∀ {l o xs r},splN l o xs=some r→o+xs.length≤l.length∧r=l.take o++xs++l.drop (o+xs.length)
 | l,0,[],r,h=>by
   have h:some l=some r:=by cases l <;> exact h
   cases h;exact⟨by simp,by simp⟩
 | [],0,x::xs,_,h=>by cases h
 | [],_+1,xs,_,h=>by cases xs <;> cases h
 | y::l,0,x::xs,r,h=>by
   simp only[splN] at h
   split at h
   ·rename_i r1 h1;cases h;obtain⟨h2,h3⟩:=splN_inv h1;exact⟨by simp at *;omega,by simp at *;exact h3⟩
   ·cases h
 | y::l,o+1,xs,r,h=>by
   simp only[splN] at h
   split at h
   ·rename_i r1 h1;cases h;obtain⟨h2,h3⟩:=splN_inv h1
    refine⟨by simp at *;omega,?_⟩
    have e:o+1+xs.length=(o+xs.length)+1:=by omega
    rw[e,List.drop_succ_cons,List.take_succ_cons,h3];simp
   ·cases h
def V.fzW:V→Bool
 | .w _|.sl .. | .rp .. | .raw _=>true
 | _=>false
def fzs:List V→Bool
 | []=>true
 | v::l=>v.fzW && fzs l
def nars:List V→Bool
 | []=>true
 | v::l=>v.nar && nars l
theorem nars_mem:∀ {l:List V},nars l=true→∀ v,v∈l→v.nar=true
 | [],_,v,hv=>by simp at hv
 | u::l,h,v,hv=>by
   simp only[nars,Bool.and_eq_true] at h
   simp only[List.mem_cons] at hv
   rcases hv with rfl|hv
   ·exact h.1
   ·exact nars_mem h.2 v hv
theorem fzW_rel {M Z v x} (h:RL M Z v x) (hf:v.fzW=true):RF M v x∧v.nar=true:=by
 cases h with
 | fz h=>exact⟨h,by cases v <;> first|rfl|cases hf⟩
 | _=>cases hf
theorem fzs_rel {M Z}:∀ {l l'},Pt (RL M Z) l l'→fzs l=true→Pt (RF M) l l'∧∀ v,v∈l→v.nar=true
 | [],l',h,_=>by rw[h.unnil];exact⟨Pt.nil,by simp⟩
 | v::l,l',h,hf=>by
   simp only[fzs,Bool.and_eq_true] at hf
   obtain⟨x,r,rfl,h1,h2⟩:=h.uncons
   obtain⟨h3,h4⟩:=fzs_rel h2 hf.2
   obtain⟨h5,h6⟩:=fzW_rel h1 hf.1
   refine⟨Pt.cons h5 h3,fun u hu=>?_⟩
   simp only[List.mem_cons] at hu
   rcases hu with rfl|hu
   ·exact h6
   ·exact h4 u hu
def cellsV:V→Option (List V)
 | .agg cs=>some cs
 | .tup _=>none
 | u=>some [u]
theorem cellsV_rel {M Z u x cs} (h:RL M Z u x) (hc:cellsV u=some cs):Pt (RL M Z) cs x.cells.toList∧isJunk x=false:=by
 have one:u.nar=true→cs=[u]→Pt (RL M Z) cs x.cells.toList∧isJunk x=false:=by
  intro hn e
  subst e
  have hw:=h.nar hn
  have hx:x.cells = #[x]:=by cases x <;> first|rfl|cases hw
  rw[hx]
  exact⟨Pt.cons h Pt.nil,by cases x <;> first|rfl|cases hw⟩
 cases u with
 | agg l =>
   cases hc
   obtain⟨vs,rfl,hl,hh⟩:=h.agg_inv
   exact⟨⟨by simpa[Value.cells] using hl,fun i a b h1 h2=>hh i a b h1 (by simpa[Value.cells] using h2)⟩,rfl⟩
 | tup l=>cases hc
 | _=>exact one rfl (by cases hc;rfl)
def Op1 (G:Prg) (b:Nat) (o:O) (tm:Tm) (m:Mem) (n:Nat) (v:Value) (m1:Mem) (n1:Nat):Prop:=
 stepO b o tm m n=some (v,m1,n1)∨∃ f args,o.callee tm=some (f,args)∧Big G b (.call f args) m n (.ret v) m1 n1
def OpV (G:Prg) (q:Bool) (o:O) (tl:List (Nat×V)) (L:List LB) (v:Option V) (L1:List LB):Prop:=
 ∀ (N:Nat) (c:Cx N) Z M tm m n,StM c Z M L m n→Slots M Z tl tm→∃ v' m1 n1 Z1 M1,Op1 G (if q then n else c.bs) o tm m n v' m1 n1∧ExtV Z M Z1 M1∧StM c Z1 M1 L1 m1 n1∧∀ u,v=some u→RL M1 Z1 u v'
theorem OpV.same {G q o tl L u} (h:∀ (N:Nat) (c:Cx N) Z M tm m n,StM c Z M L m n→Slots M Z tl tm→∃ v',(∀ b,stepO b o tm m n=some (v',m,n))∧RL M Z u v'):OpV G q o tl L (some u) L:=by
 intro N c Z M tm m n hM hS
 obtain⟨v',h1,h2⟩:=h N c Z M tm m n hM hS
 exact⟨v',m,n,Z,M,.inl (h1 _),ExtV.refl _ _,hM,fun u' e=>by cases e;exact h2⟩
section
variable {G : Prg} {q : Bool} {tl : List (Nat × V)} {L : List LB}
theorem o_mv {x u} (h:evE tl x=some u):OpV G q (.mv x) tl L (some u) L:=
 .same fun N c Z M tm m n hM hS=>⟨_,fun b=>rfl,evE_rel hS h⟩
theorem o_pickT {x a b u} (h:evE tl x=some (.w (.bool true))) (ha:evE tl a=some u):OpV G q (.pick x a b) tl L (some u) L:=
 .same fun N c Z M tm m n hM hS=>⟨_,fun _=>by simp only[stepO,evE_w hS h];rfl,evE_rel hS ha⟩
theorem o_pickF {x a b u} (h:evE tl x=some (.w (.bool false))) (ha:evE tl b=some u):OpV G q (.pick x a b) tl L (some u) L:=
 .same fun N c Z M tm m n hM hS=>⟨_,fun _=>by simp only[stepO,evE_w hS h];rfl,evE_rel hS ha⟩
theorem o_w {o:O} {v:Value} (hf:flatW v=true) (h:∀ M Z tm,Slots M Z tl tm→∀ b m n,stepO b o tm m n=some (v,m,n)):OpV G q o tl L (some (.w v)) L:=
 .same fun N c Z M tm m n hM hS=>⟨v,fun b=>h M Z tm hS b m n,.fz (.w hf)⟩
theorem o_bin {op x y a b v} (hx:evE tl x=some (.w a)) (hy:evE tl y=some (.w b)) (h:binv op a b=some v) (hf:flatW v=true):OpV G q (.bin op x y) tl L (some (.w v)) L:=
 o_w hf fun M Z tm hS _ m n=>by simp only[stepO,evE_w hS hx,evE_w hS hy,h]
theorem o_add {x y k a b} (hx:evE tl x=some (.w (.int k a))) (hy:evE tl y=some (.w (.int k b))):OpV G q (.bin .add x y) tl L (some (.w (.int k (k.wrap (a+b))))) L:=
 o_bin hx hy (by simp [binv]) rfl
theorem o_sub {x y k a b} (hx:evE tl x=some (.w (.int k a))) (hy:evE tl y=some (.w (.int k b))):OpV G q (.bin .sub x y) tl L (some (.w (.int k (k.wrap (a-b))))) L:=
 o_bin hx hy (by simp [binv]) rfl
theorem o_mul {x y k a b} (hx:evE tl x=some (.w (.int k a))) (hy:evE tl y=some (.w (.int k b))):OpV G q (.bin .mul x y) tl L (some (.w (.int k (k.wrap (a * b))))) L:=
 o_bin hx hy (by simp [binv]) rfl
theorem Fn {x y a b} (hx:evE tl x=some (.w (.int .i64 a))) (hy:evE tl y=some (.w (.int .i64 b))) (h:-9223372036854775808≤a+b∧a+b≤9223372036854775807) :
 OpV G q (.bin .add x y) tl L (some (.w (.int .i64 (a+b)))) L:=by have:=o_add (G:=G) (q:=q) (L:=L) hx hy;rwa [wrap_in _ h] at this
theorem o_subn {x y a b} (hx:evE tl x=some (.w (.int .i64 a))) (hy:evE tl y=some (.w (.int .i64 b))) (h:-9223372036854775808≤a-b∧a-b≤9223372036854775807) :
 OpV G q (.bin .sub x y) tl L (some (.w (.int .i64 (a-b)))) L:=by have:=o_sub (G:=G) (q:=q) (L:=L) hx hy;rwa [wrap_in _ h] at this
theorem o_muln {x y a b} (hx:evE tl x=some (.w (.int .i64 a))) (hy:evE tl y=some (.w (.int .i64 b))) (h:-9223372036854775808≤a * b∧a * b≤9223372036854775807) :
 OpV G q (.bin .mul x y) tl L (some (.w (.int .i64 (a * b)))) L:=by have:=o_mul (G:=G) (q:=q) (L:=L) hx hy;rwa [wrap_in _ h] at this
theorem o_quo {x y k a b} (hx:evE tl x=some (.w (.int k a))) (hy:evE tl y=some (.w (.int k b))) (h:¬ b=0):OpV G q (.bin .quo x y) tl L (some (.w (.int k (k.wrap (a.tdiv b))))) L:=
 o_bin hx hy (by simp [binv,h]) rfl
theorem o_rem {x y k a b} (hx:evE tl x=some (.w (.int k a))) (hy:evE tl y=some (.w (.int k b))) (h:¬ b=0):OpV G q (.bin .rem x y) tl L (some (.w (.int k (a.tmod b)))) L:=
 o_bin hx hy (by simp [binv,h]) rfl
theorem o_shl {x y k j a b} (hx:evE tl x=some (.w (.int k a))) (hy:evE tl y=some (.w (.int j b))) (h:0≤b):OpV G q (.bin .shl x y) tl L (some (.w (.int k (k.wrap (a * 2 ^ (min b.toNat k.bits)))))) L:=
 o_bin hx hy (by simp [binv,h]) rfl
theorem o_shr {x y k j a b} (hx:evE tl x=some (.w (.int k a))) (hy:evE tl y=some (.w (.int j b))) (h:0≤b):OpV G q (.bin .shr x y) tl L (some (.w (.int k (a.fdiv (2 ^ (min b.toNat k.bits)))))) L:=
 o_bin hx hy (by simp [binv,h]) rfl
theorem o_eql {x y k a b} (hx:evE tl x=some (.w (.int k a))) (hy:evE tl y=some (.w (.int k b))):OpV G q (.bin .eql x y) tl L (some (.w (.bool (decide (a=b))))) L:=
 o_bin hx hy (by simp [binv];rfl) rfl
theorem o_neq {x y k a b} (hx:evE tl x=some (.w (.int k a))) (hy:evE tl y=some (.w (.int k b))):OpV G q (.bin .neq x y) tl L (some (.w (.bool (decide (¬ a=b))))) L:=
 o_bin hx hy (by simp [binv];rfl) rfl
theorem o_lss {x y k a b} (hx:evE tl x=some (.w (.int k a))) (hy:evE tl y=some (.w (.int k b))):OpV G q (.bin .lss x y) tl L (some (.w (.bool (decide (a<b))))) L:=
 o_bin hx hy (by simp [binv]) rfl
theorem o_leq {x y k a b} (hx:evE tl x=some (.w (.int k a))) (hy:evE tl y=some (.w (.int k b))):OpV G q (.bin .leq x y) tl L (some (.w (.bool (decide (a≤b))))) L:=
 o_bin hx hy (by simp [binv]) rfl
theorem o_gtr {x y k a b} (hx:evE tl x=some (.w (.int k a))) (hy:evE tl y=some (.w (.int k b))):OpV G q (.bin .gtr x y) tl L (some (.w (.bool (decide (b<a))))) L:=
 o_bin hx hy (by simp [binv]) rfl
theorem o_geq {x y k a b} (hx:evE tl x=some (.w (.int k a))) (hy:evE tl y=some (.w (.int k b))):OpV G q (.bin .geq x y) tl L (some (.w (.bool (decide (b≤a))))) L:=
 o_bin hx hy (by simp [binv]) rfl
theorem o_not {x a} (hx:evE tl x=some (.w (.bool a))):OpV G q (.not x) tl L (some (.w (.bool !a))) L:=
 o_w rfl fun M Z tm hS _ m n=>by simp only[stepO,evE_w hS hx]
theorem o_cvi {x j k a} (hx:evE tl x=some (.w (.int j a))):OpV G q (.cvi k x) tl L (some (.w (.int k (k.wrap a)))) L:=
 o_w rfl fun M Z tm hS _ m n=>by simp only[stepO,evE_w hS hx]
theorem o_lenN {x a l c} (hx:evE tl x=some (.w (.slice a l c))):OpV G q (.len x) tl L (some (.w (.int .i64 l))) L:=
 o_w rfl fun M Z tm hS _ m n=>by simp only[stepO,evE_w hS hx]
theorem o_len {x k rows} (hx:evE tl x=some (.sl k rows)):OpV G q (.len x) tl L (some (.w (.int .i64 rows.length))) L:=
 o_w rfl fun M Z tm hS _ m n=>by
  have:=(evE_rel hS hx).sl_inv
  simp only[stepO]
  generalize x.ev tm=e at this
  cases this;rfl
theorem o_lenL {x b len k rows} (hx:evE tl x=some (.ls b len)) (hb:L[b]?=some (.arr k rows)) (hl:rows.length=len):OpV G q (.len x) tl L (some (.w (.int .i64 len))) L:=
 .same fun N c Z M tm m n hM hS=>by
  obtain⟨a,ha⟩:=hM.getZ hb
  have h1:=(evE_rel hS hx).ls_inv ha hl
  refine⟨_,fun _=>?_,.fz (.w rfl)⟩
  simp only[stepO,h1]
  cases a with
  | some ad=>rfl
  | none =>
    obtain⟨k',e⟩:=hM.nil _ _ ha
    cases e
    subst hl
    rfl
theorem RF.rd {M m:Mem} {row:List V} {off:Nat} {x:Value} (h:RF M (.rp row off) x) (hs:sub M m) {u:V} (hr:row[off]?=some u):∃ a y,x=.pointer (some a)∧rd m a=some y∧RF M u y:=by
 cases h with
 | rp hb hc hh =>
   rename_i b o blk
   have hi:=(List.getElem?_eq_some_iff.1 hr).1
   have h1:blk.cells[o+off]?=some blk.cells[o+off]:=List.getElem?_eq_getElem (by omega)
   exact⟨_,_,rfl,by simp [AL.rd,hs _ _ hb,h1],hh off _ _ hr h1⟩
theorem RF.rdn {M m:Mem} {row:List V} {off:Nat} {x:Value} (h:RF M (.rp row off) x) (hs:sub M m) {k:Nat} {cs:List V} (hr:subN row off k=some cs):∃ a ys,x=.pointer (some a)∧rdn m a k=some ys∧Pt (RF M) cs ys:=by
 cases h with
 | rp hb hc hh =>
   rename_i b o blk
   obtain⟨h1,rfl⟩:=subN_inv hr
   refine⟨_,(blk.cells.drop (o+off)).take k,rfl,?_,?_⟩
   ·simp only[AL.rdn,hs _ _ hb,Option.isSome_none,Bool.false_eq_true,if_false]
    rw[if_pos (by omega)]
   ·refine⟨by simp;omega,fun i x y h2 h3=>?_⟩
    rw[List.getElem?_take] at h2 h3
    split at h2
    ·rename_i hi
     rw[if_pos hi] at h3
     rw[List.getElem?_drop] at h2 h3
     exact hh (off+i) x y h2 (by rw[←Nat.add_assoc];exact h3)
    ·cases h2
theorem StM.subM {N:Nat} {c:Cx N} {Z M m n} (h:StM c Z M L m n):sub M m:=fun b x hb=>(h.hM b x hb).1
theorem o_ld {x row off u} (hx:evE tl x=some (.rp row off)) (hr:row[off]?=some u):OpV G q (.ld x) tl L (some u) L:=
 .same fun N c Z M tm m n hM hS=>by
  obtain⟨a,y,h1,h2,h3⟩:=(evE_rel hS hx).rp_inv.rd hM.subM hr
  exact⟨y,fun _=>by simp only[stepO,h1,h2],.fz h3⟩
theorem o_ldn {x row off k cs} (hx:evE tl x=some (.rp row off)) (hr:subN row off k=some cs):OpV G q (.ldn k x) tl L (some (.agg cs)) L:=
 .same fun N c Z M tm m n hM hS=>by
  obtain⟨a,ys,h1,h2,h3⟩:=(evE_rel hS hx).rp_inv.rdn hM.subM hr
  exact⟨.agg ys.toArray,fun _=>by simp only[stepO,h1,h2],.fz (.agg (by simpa using h3.1) fun i u y e1 e2=>h3.2 i u y e1 (by simpa using e2))⟩
theorem o_ldC {x b off row u} (hx:evE tl x=some (.cp b off)) (hb:L[b]?=some (.cell row)) (hr:row[off]?=some u):OpV G q (.ld x) tl L (some u) L:=
 .same fun N c Z M tm m n hM hS=>by
  obtain⟨a,row',hz,h1⟩:=(evE_rel hS hx).cp_inv
  obtain⟨a',ha⟩:=hM.getZ hb
  rw[hz] at ha;cases ha
  obtain⟨_,_,cells,hm,hrel⟩:=hM.cell _ _ _ hz
  obtain⟨y,h2,h3⟩:=Pt.get hrel hr
  exact⟨y,fun _=>by simp [stepO,h1,AL.rd,hm,h2],h3⟩
theorem o_ldnC {x b off row k cs} (hx:evE tl x=some (.cp b off)) (hb:L[b]?=some (.cell row)) (hr:subN row off k=some cs):OpV G q (.ldn k x) tl L (some (.agg cs)) L:=
 .same fun N c Z M tm m n hM hS=>by
  obtain⟨a,row',hz,h1⟩:=(evE_rel hS hx).cp_inv
  obtain⟨a',ha⟩:=hM.getZ hb
  rw[hz] at ha;cases ha
  obtain⟨_,_,cells,hm,hrel⟩:=hM.cell _ _ _ hz
  obtain⟨h2,rfl⟩:=subN_inv hr
  have hrel:Pt (RL M Z) row cells:=hrel
  have h3:=(hrel.drop off).take k
  have h4:=hrel.1
  refine⟨.agg ((cells.drop off).take k).toArray,fun _=>?_,.agg (by simpa using h3.1) fun i u y e1 e2=>h3.2 i u y e1 (by simpa using e2)⟩
  simp only[stepO,h1,AL.rdn,hm,Option.isSome_none,Bool.false_eq_true,if_false]
  rw[if_pos (by omega)]
theorem o_fa {o x row off} (hx:evE tl x=some (.rp row off)):OpV G q (.fa o x) tl L (some (.rp row (off+o))) L:=
 .same fun N c Z M tm m n hM hS=>by
  have h1:=(evE_rel hS hx).rp_inv
  generalize he:x.ev tm=e at h1
  cases h1 with
  | rp hb hc hh=>exact⟨_,fun _=>by simp only[stepO,he];rfl,by rw[Nat.add_assoc];exact .fz (.rp hb hc hh)⟩
theorem o_faC {o x b off} (hx:evE tl x=some (.cp b off)):OpV G q (.fa o x) tl L (some (.cp b (off+o))) L:=
 .same fun N c Z M tm m n hM hS=>by
  obtain⟨a,row',hz,h1,hc⟩:=(evE_rel hS hx).cp_inv'
  exact⟨_,fun _=>by simp only[stepO,h1];rfl,.cp hz hc⟩
theorem o_faA {o x b len j off k rows} (hx:evE tl x=some (.ap b len j off)) (hb:L[b]?=some (.arr k rows)) (hl:rows.length=len):OpV G q (.fa o x) tl L (some (.ap b len j (off+o))) L:=
 .same fun N c Z M tm m n hM hS=>by
  obtain⟨a,ha⟩:=hM.getZ hb
  obtain⟨ad,rfl,h1⟩:=(evE_rel hS hx).ap_inv ha hl
  exact⟨_,fun _=>by simp only[stepO,h1];rfl,.ap ha (by omega) rfl fun _=>⟨ad,rfl,by rw[←Nat.add_assoc];rfl⟩⟩
theorem o_ia {x i k rows t j row} (hx:evE tl x=some (.sl k rows)) (hi:evE tl i=some (.w (.int t j))) (hb:0≤j∧j<rows.length) (hr:rows[j.toNat]?=some row):OpV G q (.ia k x i) tl L (some (.rp row 0)) L:=
 .same fun N c Z M tm m n hM hS=>by
  have h1:=(evE_rel hS hx).sl_inv
  have h2:=evE_w hS hi
  generalize he:x.ev tm=e at h1
  cases h1 with
  | sl hc ha hl hn hk hh =>
    rename_i a cp rows'
    have hj:j.toNat<rows.length:=by omega
    obtain⟨⟨hs,hsp⟩,blk,hm,hsz,hrow⟩:=ha (by intro e;subst e;simp at hl;omega)
    cases a with
    | none=>cases hs
    | some a =>
      simp only[adr,Option.getD_some] at hm hrow hsp
      have hr':rows'[j.toNat]?=some rows'[j.toNat]:=List.getElem?_eq_getElem (by omega)
      obtain⟨g1,g2,g3⟩:=hrow _ _ hr'
      have gl:=hk _ _ _ hr hr'
      refine⟨ptr a.block (a.off+j.toNat * k),fun _=>?_,.fz ?_⟩
      ·simp [stepO,he,h2,hsp,hb]
      ·have:=RF.rp (M:=M) (row:=row) (off:=0) (o:=a.off+j.toNat * k) hm (by omega) (fun j' x y e1 e2=>?_)
       ·exact this
       ·refine hh _ _ _ j' x y hr hr' e1 ?_
        have hj':=(List.getElem?_eq_some_iff.1 e1).1
        rw[←g3,List.getElem?_take_of_lt (by omega),List.getElem?_drop]
        exact e2
theorem o_iaL {x i b len k rows t j} (hx:evE tl x=some (.ls b len)) (hL:L[b]?=some (.arr k rows)) (hl:rows.length=len) (hi:evE tl i=some (.w (.int t j))) (hb:0≤j∧j<len) :
 OpV G q (.ia k x i) tl L (some (.ap b len j.toNat 0)) L:=
 .same fun N c Z M tm m n hM hS=>by
  obtain⟨a,ha⟩:=hM.getZ hL
  have h1:=(evE_rel hS hx).ls_inv ha hl
  have h2:=evE_w hS hi
  cases a with
  | none =>
    obtain⟨k',e⟩:=hM.nil _ _ ha
    cases e
    simp at hl;omega
  | some ad =>
    refine⟨ptr ad (0+j.toNat * k),fun _=>by simp [stepO,h1,slOf,h2,hb],.ap ha (by omega) rfl fun _=>⟨ad,rfl,by simp [ptr]⟩⟩
theorem flat_set {k:Nat} {vs:List Value} {off:Nat} (h:off+vs.length≤k):∀ {rows:List (List Value)} {j:Nat} {r:List Value},(∀ r,r∈rows→r.length=k)→rows[j]?=some r →
 rows.flatten.take (j * k+off)++vs++rows.flatten.drop (j * k+off+vs.length)=(rows.set j (r.take off++vs++r.drop (off+vs.length))).flatten
 | [],j,r,_,hr=>by simp at hr
 | r0::rows,0,r,hall,hr=>by
   simp at hr;subst hr
   have h0:=hall r0 (List.mem_cons_self ..)
   simp only[Nat.zero_mul,Nat.zero_add,List.flatten_cons,List.set_cons_zero]
   rw[List.take_append_of_le_length (by omega),List.drop_append_of_le_length (by omega)]
   simp
 | r0::rows,j+1,r,hall,hr=>by
   have h0:=hall r0 (List.mem_cons_self ..)
   have ih:=flat_set h (fun r hr=>hall r (List.mem_cons_of_mem _ hr)) (by simpa using hr:rows[j]?=some r)
   simp only[List.flatten_cons,List.set_cons_succ,←ih]
   have e:(j+1) * k+off=r0.length+(j * k+off):=by rw[Nat.succ_mul];omega
   rw[e,Nat.add_assoc r0.length,List.take_length_add_append,List.drop_length_add_append]
   simp
theorem set_spl {α:Type} (l:List α) (i:Nat) (v:α) (h:i<l.length):l.set i v=l.take i++[v]++l.drop (i+1):=by
 rw[List.set_eq_take_append_cons_drop,if_pos h];simp
theorem o_stC {x v b off row row' u L1} (hx:evE tl x=some (.cp b off)) (hv:evE tl v=some u) (hn:u.nar=true) (hb:L[b]?=some (.cell row)) (hr:setN row off u=some row') (hL:setN L b (.cell row')=some L1) :
 OpV G false (.st x v) tl L none L1:=by
 intro N c Z M tm m n hM hS
 obtain⟨a,row0,hz,h1⟩:=(evE_rel hS hx).cp_inv
 obtain⟨a',ha⟩:=hM.getZ hb
 rw[hz] at ha;cases ha
 obtain⟨ha0,_,cells,hm,hrel⟩:=hM.cell _ _ _ hz
 obtain⟨hoff,rfl⟩:=setN_inv hr
 obtain⟨_,rfl⟩:=setN_inv hL
 have hu:=evE_rel hS hv
 have hw:=hu.nar hn
 have hrel:Pt (RL M Z) row cells:=hrel
 have hg:grow (some a,LB.cell row) (some a,LB.cell (row.set off u)):=⟨trivial,rfl⟩
 have he:ExtV Z M (Z.set b (some a,LB.cell (row.set off u))) M:=by
  have hlt:b<Z.length:=(List.getElem?_eq_some_iff.1 hz).1
  refine⟨sub_refl _,fun i p hp=>?_⟩
  by_cases e:b=i
  ·subst e;rw[hz] at hp;cases hp
   exact⟨_,by rw[List.getElem?_set,if_pos rfl,if_pos hlt],hg⟩
  ·exact⟨p,by rw[List.getElem?_set,if_neg e];exact hp,grow.refl p⟩
 obtain⟨_,h3⟩:=hM.write hz (cells.set off (v.ev tm)) hg rfl (Pt.mono (Pt.set hrel off hu) fun _ _=>RL.mono he)
 refine⟨junk,_,n,_,M,.inl ?_,he,h3,fun u e=>by cases e⟩
 have hlc:off<cells.length:=by rw[←hrel.1];exact hoff
 simp [stepO,h1,hw,AL.wr,hm,hlc,hM.bsA ha0,LB.sz]
theorem Er {x v b off row row' k cs L1} (hx:evE tl x=some (.cp b off)) (hv:evE tl v=some (.agg cs)) (hk:cs.length=k) (hn:nars cs=true) (hb:L[b]?=some (.cell row)) (hr:splN row off cs=some row') (hL:setN L b (.cell row')=some L1) :
 OpV G false (.stn k x v) tl L none L1:=by
 intro N c Z M tm m n hM hS
 obtain⟨a,row0,hz,h1⟩:=(evE_rel hS hx).cp_inv
 obtain⟨a',ha⟩:=hM.getZ hb
 rw[hz] at ha;cases ha
 obtain⟨ha0,_,cells,hm,hrel⟩:=hM.cell _ _ _ hz
 obtain⟨hoff,rfl⟩:=splN_inv hr
 obtain⟨_,rfl⟩:=setN_inv hL
 obtain⟨vs,e1,hl,hu⟩:=(evE_rel hS hv).agg_inv
 have hcs:Pt (RL M Z) cs vs.toList:=⟨by simpa using hl,fun i x y h2 h3=>hu i x y h2 (by simpa using h3)⟩
 have hrel:Pt (RL M Z) row cells:=hrel
 have hg:grow (some a,LB.cell row) (some a,LB.cell (row.take off++cs++row.drop (off+cs.length))):=⟨trivial,rfl⟩
 have he:ExtV Z M (Z.set b (some a,LB.cell (row.take off++cs++row.drop (off+cs.length)))) M:=by
  have hlt:b<Z.length:=(List.getElem?_eq_some_iff.1 hz).1
  refine⟨sub_refl _,fun i p hp=>?_⟩
  by_cases e:b=i
  ·subst e;rw[hz] at hp;cases hp
   exact⟨_,by rw[List.getElem?_set,if_pos rfl,if_pos hlt],hg⟩
  ·exact⟨p,by rw[List.getElem?_set,if_neg e];exact hp,grow.refl p⟩
 have hnew:Pt (RL M Z) (row.take off++cs++row.drop (off+cs.length)) (cells.take off++vs.toList++cells.drop (off+cs.length)):=((hrel.take off).append hcs).append (hrel.drop _)
 obtain⟨_,h3⟩:=hM.write hz _ hg rfl (Pt.mono hnew fun _ _=>RL.mono he)
 refine⟨junk,_,n,_,M,.inl ?_,he,h3,fun u e=>by cases e⟩
 have hlc:off+vs.size≤cells.length:=by rw[←hrel.1,←hl];exact hoff
 have hbs:=hM.hbs
 have hnar:vs.toList.all (fun u=>!wideV u)=true:=by
  rw[List.all_eq_true]
  intro y hy
  obtain⟨i,hi⟩:=List.mem_iff_getElem?.1 hy
  have hi2:i<cs.length:=by rw[hcs.1];exact(List.getElem?_eq_some_iff.1 hi).1
  have hx:=List.getElem?_eq_getElem hi2
  have:=(hcs.2 i _ y hx hi).nar (nars_mem hn _ (List.getElem_mem hi2))
  simp [this]
 have hnar':∀ x,x∈vs→wideV x=false:=by
  intro x hx
  have:=List.all_eq_true.1 hnar x (Array.mem_toList_iff.2 hx)
  simpa using this
 have hk2:vs.size=k:=by omega
 simp only[stepO,h1,e1,hnar,hk2,and_self,if_true,AL.wrn,hm,Option.isSome_none,Bool.false_eq_true,if_false,Array.length_toList]
 rw[if_pos ⟨hM.bsA ha0,trivial,by omega⟩]
 have e2:cs.length=k:=by omega
 simp only[e2,LB.sz]
theorem o_new {z row d L1} (hz:ofWs z=some row) (hL:pushN L (.cell row)=some (L1,d)):OpV G q (.new z) tl L (some (.cp d 0)) L1:=by
 intro N c Z M tm m n hM hS
 have:=pushN_inv hL;cases this
 obtain⟨h1,h2,h3⟩:=hM.push (.cell row) z (Pt.mono (ofWs_rel (M:=M) hz).1 fun _ _=>.fz)
 exact⟨_,_,_,_,_,.inl rfl,h1,h2,fun u e=>by cases e;exact .cp h3 trivial⟩
theorem o_box {x u row d L1} (hx:evE tl x=some u) (hc:cellsV u=some row) (hL:pushN L (.cell row)=some (L1,d)):OpV G q (.box x) tl L (some (.cp d 0)) L1:=by
 intro N c Z M tm m n hM hS
 have:=pushN_inv hL;cases this
 obtain⟨h0,hj⟩:=cellsV_rel (evE_rel hS hx) hc
 obtain⟨h1,h2,h3⟩:=hM.push (.cell row) _ h0
 exact⟨_,_,_,_,_,.inl (by simp [stepO,hj];exact⟨rfl,rfl⟩),h1,h2,fun u e=>by cases e;exact .cp h3 trivial⟩
end
end Go.Proofs.YtoppcdecolponaaGreat.AL
namespace Go.Proofs.YtoppcdecolponaaGreat.AL
open Go
set_option linter.unusedVariables false
set_option linter.unusedSimpArgs false
theorem arr_write {N:Nat} {c:Cx N} {Z M L m n} (hM:StM c Z M L m n) {b k ad:Nat} {rows:List (List V)} (hz:Z[b]?=some (some ad,.arr k rows)) {j:Nat} {row:List V} (hj:rows[j]?=some row) {cs:List V} {vs:List Value}
 (hcs:Pt (RF M) cs vs) (hn:∀ v,v∈cs→v.nar=true) {off:Nat} (hoff:off+cs.length≤row.length) :
 ∃ cells,m ad=some ⟨cells,true,k⟩∧j * k+off+vs.length≤cells.length∧c.bs≤ad ∧
   ExtV Z M (Z.set b (some ad,.arr k (rows.set j (row.take off++cs++row.drop (off+cs.length))))) M ∧
   StM c (Z.set b (some ad,.arr k (rows.set j (row.take off++cs++row.drop (off+cs.length))))) M (L.set b (.arr k (rows.set j (row.take off++cs++row.drop (off+cs.length)))))
    (upd m ad (some ⟨cells.take (j * k+off)++vs++cells.drop (j * k+off+vs.length),true,k⟩)) n:=by
 obtain⟨ha0,_,cells,hm,hrel⟩:=hM.cell _ _ _ hz
 obtain⟨rows',rfl,hl,hall,hpt,hnar⟩:=hrel
 have hji:=(List.getElem?_eq_some_iff.1 hj).1
 have hj':rows'[j]?=some rows'[j]:=List.getElem?_eq_getElem (by omega)
 have hp:=hpt _ _ _ hj hj'
 have hk:rows'[j].length=k:=hall _ (List.getElem_mem _)
 have hrk:row.length=k:=by rw[hp.1,hk]
 have hvl:vs.length=cs.length:=hcs.1.symm
 have hfl:=flat_row hall hj'
 refine⟨_,hm,by omega,hM.bsA ha0,?_⟩
 have hnew:LB.rel M Z (.arr k (rows.set j (row.take off++cs++row.drop (off+cs.length)))) (rows'.flatten.take (j * k+off)++vs++rows'.flatten.drop (j * k+off+vs.length)):=by
  refine⟨rows'.set j (rows'[j].take off++vs++rows'[j].drop (off+vs.length)),flat_set (by omega) hall hj',by simp [hl],?_,?_,?_⟩
  ·intro r hr
   rcases List.mem_or_eq_of_mem_set hr with h|h
   ·exact hall r h
   ·subst h;simp;omega
  ·intro i r r' h1 h2
   rw[List.getElem?_set] at h1 h2
   by_cases e:j=i
   ·subst e
    rw[if_pos rfl,if_pos hji] at h1
    rw[if_pos rfl,if_pos (by omega)] at h2
    cases h1;cases h2
    rw[hvl]
    exact((hp.take off).append hcs).append (hp.drop _)
   ·rw[if_neg e] at h1 h2;exact hpt i r r' h1 h2
  ·intro i r j' x h1 h2
   rw[List.getElem?_set] at h1
   by_cases e:j=i
   ·subst e
    rw[if_pos rfl,if_pos hji] at h1
    cases h1
    have hx:=List.mem_of_getElem? h2
    simp only[List.mem_append] at hx
    rcases hx with(hx|hx)|hx
    ·obtain⟨i',hi'⟩:=List.mem_iff_getElem?.1 (List.mem_of_mem_take hx);exact hnar _ _ i' x hj hi'
    ·exact hn x hx
    ·obtain⟨i',hi'⟩:=List.mem_iff_getElem?.1 (List.mem_of_mem_drop hx);exact hnar _ _ i' x hj hi'
   ·rw[if_neg e] at h1;exact hnar i r j' x h1 h2
 have hg:grow (some ad,LB.arr k rows) (some ad,.arr k (rows.set j (row.take off++cs++row.drop (off+cs.length)))):=.inl ⟨_,rfl,by simp,fun _=>rfl⟩
 have hlt:b<Z.length:=(List.getElem?_eq_some_iff.1 hz).1
 have he:ExtV Z M (Z.set b (some ad,.arr k (rows.set j (row.take off++cs++row.drop (off+cs.length))))) M:=by
  refine⟨sub_refl _,fun i p hp=>?_⟩
  by_cases e:b=i
  ·subst e;rw[hz] at hp;cases hp
   exact⟨_,by rw[List.getElem?_set,if_pos rfl,if_pos hlt],hg⟩
  ·exact⟨p,by rw[List.getElem?_set,if_neg e];exact hp,grow.refl p⟩
 exact hM.write hz _ hg rfl (hnew.mono he)
section
variable {G : Prg} {q : Bool} {tl : List (Nat × V)} {L : List LB}
theorem o_ldA {x b len j off k rows row u} (hx:evE tl x=some (.ap b len j off)) (hb:L[b]?=some (.arr k rows)) (hl:rows.length=len) (hj:rows[j]?=some row) (hr:row[off]?=some u):OpV G q (.ld x) tl L (some u) L:=
 .same fun N c Z M tm m n hM hS=>by
  obtain⟨a,ha⟩:=hM.getZ hb
  obtain⟨ad,rfl,h1⟩:=(evE_rel hS hx).ap_inv ha hl
  obtain⟨ha0,_,cells,hm,rows',rfl,hl',hall,hpt,hnar⟩:=hM.cell _ _ _ ha
  have hji:=(List.getElem?_eq_some_iff.1 hj).1
  have hj':rows'[j]?=some rows'[j]:=List.getElem?_eq_getElem (by omega)
  have hp:=hpt _ _ _ hj hj'
  obtain⟨y,h2,h3⟩:=hp.get hr
  have hk:rows'[j].length=k:=hall _ (List.getElem_mem _)
  obtain⟨g1,g2⟩:=flat_row hall hj'
  have hoff:=(List.getElem?_eq_some_iff.1 h2).1
  refine⟨y,fun _=>?_,.fz h3⟩
  have:rows'.flatten[j * k+off]?=some y:=by
   rw[←h2,←g2,List.getElem?_take_of_lt (by omega),List.getElem?_drop]
  simp [stepO,h1,AL.rd,hm,this]
theorem o_ldnA {x b len j off k rows row c cs} (hx:evE tl x=some (.ap b len j off)) (hb:L[b]?=some (.arr k rows)) (hl:rows.length=len) (hj:rows[j]?=some row) (hr:subN row off c=some cs):OpV G q (.ldn c x) tl L (some (.agg cs)) L:=
 .same fun N c' Z M tm m n hM hS=>by
  obtain⟨a,ha⟩:=hM.getZ hb
  obtain⟨ad,rfl,h1⟩:=(evE_rel hS hx).ap_inv ha hl
  obtain⟨ha0,_,cells,hm,rows',rfl,hl',hall,hpt,hnar⟩:=hM.cell _ _ _ ha
  have hji:=(List.getElem?_eq_some_iff.1 hj).1
  have hj':rows'[j]?=some rows'[j]:=List.getElem?_eq_getElem (by omega)
  have hp:=hpt _ _ _ hj hj'
  have hk:rows'[j].length=k:=hall _ (List.getElem_mem _)
  obtain⟨g1,g2⟩:=flat_row hall hj'
  obtain⟨h2,rfl⟩:=subN_inv hr
  have hpl:=hp.1
  have h3:=(hp.drop off).take c
  have e:(rows'.flatten.drop (j * k+off)).take c=(rows'[j].drop off).take c:=by
   rw[←List.drop_drop]
   have:rows'[j].drop off=((rows'.flatten.drop (j * k)).drop off).take (k-off):=by
    conv=>lhs;rw[←g2]
    rw[List.drop_take]
   rw[this,List.take_take,Nat.min_eq_left (by omega)]
  refine⟨.agg ((rows'[j].drop off).take c).toArray,fun _=>?_,.fz (.agg (by simpa using h3.1) fun i u y e1 e2=>h3.2 i u y e1 (by simpa using e2))⟩
  simp only[stepO,h1,AL.rdn,hm,Option.isSome_none,Bool.false_eq_true,if_false]
  rw[if_pos (by omega),e]
theorem o_stA {x v b len j off k rows row row' u L1} (hx:evE tl x=some (.ap b len j off)) (hv:evE tl v=some u) (hn:u.fzW=true) (hb:L[b]?=some (.arr k rows)) (hl:rows.length=len) (hj:rows[j]?=some row) (hr:setN row off u=some row')
 (hL:setN L b (.arr k (rows.set j row'))=some L1):OpV G false (.st x v) tl L none L1:=by
 intro N c Z M tm m n hM hS
 obtain⟨a,ha⟩:=hM.getZ hb
 obtain⟨ad,rfl,h1⟩:=(evE_rel hS hx).ap_inv ha hl
 obtain⟨hoff,rfl⟩:=setN_inv hr
 obtain⟨_,rfl⟩:=setN_inv hL
 obtain⟨hu,hnar⟩:=fzW_rel (evE_rel hS hv) hn
 have hw:=hu.nar hnar
 obtain⟨cells,hm,hle,ha0,he,h3⟩:=arr_write hM ha hj (cs:=[u]) (vs:=[v.ev tm]) (Pt.cons hu Pt.nil) (by simpa using hnar) (off:=off) (by simp only[List.length_cons,List.length_nil];omega)
 rw[show row.take off++[u]++row.drop (off+[u].length)=row.set off u from(set_spl row off u hoff).symm] at he h3
 refine⟨junk,_,n,_,M,.inl ?_,he,h3,fun u e=>by cases e⟩
 have hbs:=hM.hbs
 have hlt:j * k+off<cells.length:=by simp only[List.length_cons,List.length_nil] at hle;omega
 simp only[stepO,h1,hw,AL.wr,hm,Option.isSome_none,Bool.false_eq_true,if_false]
 rw[if_pos ⟨ha0,trivial,hlt⟩,set_spl _ _ _ hlt]
 rfl
theorem o_stnA {x v b len j off k c rows row row' cs L1} (hx:evE tl x=some (.ap b len j off)) (hv:evE tl v=some (.agg cs)) (hk:cs.length=c) (hn:fzs cs=true) (hb:L[b]?=some (.arr k rows)) (hl:rows.length=len) (hj:rows[j]?=some row) (hr:splN row off cs=some row')
 (hL:setN L b (.arr k (rows.set j row'))=some L1):OpV G false (.stn c x v) tl L none L1:=by
 intro N cx Z M tm m n hM hS
 obtain⟨a,ha⟩:=hM.getZ hb
 obtain⟨ad,rfl,h1⟩:=(evE_rel hS hx).ap_inv ha hl
 obtain⟨hoff,rfl⟩:=splN_inv hr
 obtain⟨_,rfl⟩:=setN_inv hL
 obtain⟨vs,e1,hvl,hu⟩:=(evE_rel hS hv).agg_inv
 obtain⟨hcs,hnar⟩:=fzs_rel (M:=M) (Z:=Z) (l:=cs) (l':=vs.toList) ⟨by simpa using hvl,fun i x y h2 h3=>hu i x y h2 (by simpa using h3)⟩ hn
 obtain⟨cells,hm,hle,ha0,he,h3⟩:=arr_write hM ha hj hcs hnar hoff
 refine⟨junk,_,n,_,M,.inl ?_,he,h3,fun u e=>by cases e⟩
 have hbs:=hM.hbs
 have hw:vs.toList.all (fun u=>!wideV u)=true:=by
  rw[List.all_eq_true]
  intro y hy
  obtain⟨i,hi⟩:=List.mem_iff_getElem?.1 hy
  have hi2:i<cs.length:=by rw[hcs.1];exact(List.getElem?_eq_some_iff.1 hi).1
  have:=(hcs.2 i _ y (List.getElem?_eq_getElem hi2) hi).nar (hnar _ (List.getElem_mem hi2))
  simp [this]
 have hk2:vs.size=c:=by omega
 simp only[stepO,h1,e1,hw,hk2,and_self,if_true,AL.wrn,hm,Option.isSome_none,Bool.false_eq_true,if_false,Array.length_toList]
 rw[if_pos ⟨ha0,trivial,by simpa[hk2] using hle⟩]
theorem o_ext {i x cs u} (hx:evE tl x=some (.tup cs)) (hr:cs[i]?=some u):OpV G q (.ext i x) tl L (some u) L:=
 .same fun N c Z M tm m n hM hS=>by
  obtain⟨vs,e1,hvl,hu⟩:=(evE_rel hS hx).tup_inv
  have hi:=(List.getElem?_eq_some_iff.1 hr).1
  have h2:vs[i]?=some vs[i]:=Array.getElem?_eq_getElem (by omega)
  exact⟨_,fun _=>by simp only[stepO,e1,h2],hu _ _ _ hr h2⟩
theorem o_fn {f es us} (hx:evEs tl es=some us):OpV G q (.fn f es) tl L (some (.fn f us)) L:=
 .same fun N c Z M tm m n hM hS=>by
  have h:=evEs_rel hS hx
  exact⟨_,fun _=>rfl,.fn (by simpa using h.1) fun i u y h1 h2=>h.2 i u y h1 (by simpa using h2)⟩
theorem o_nilc {x b off} (hx:evE tl x=some (.cp b off)):OpV G q (.nilc x) tl L (some (.cp b off)) L:=
 .same fun N c Z M tm m n hM hS=>by
  have h:=evE_rel hS hx
  obtain⟨a,row',hz,h1⟩:=h.cp_inv
  exact⟨_,fun _=>by simp only[stepO,h1],h1 ▸ h⟩
theorem o_nilcR {x row off} (hx:evE tl x=some (.rp row off)):OpV G q (.nilc x) tl L (some (.rp row off)) L:=
 .same fun N c Z M tm m n hM hS=>by
  have h:=(evE_rel hS hx).rp_inv
  obtain⟨e,he⟩:∃ e,x.ev tm=e:=⟨_,rfl⟩
  rw[he] at h
  refine⟨e,fun _=>?_,.fz h⟩
  cases h with
  | rp hb hc hh=>simp only[stepO,he]
def unw:List V→Option (List Value)
 | []=>some []
 | .w v::l=>match unw l with
   | some r=>some (v::r)
   | none=>none
 | _::_=>none
theorem unw_rel {M Z}:∀ {cs r l},unw cs=some r→Pt (RL M Z) cs l→l=r
 | [],r,l,h,hp=>by simp [unw] at h;subst h;exact hp.unnil
 | v::cs,r,l,h,hp=>by
   obtain⟨x,l',rfl,h1,h2⟩:=hp.uncons
   cases v with
   | w v =>
     simp only[unw] at h
     split at h
     ·rename_i r' h3
      cases h
      rw[unw_rel h3 h2,h1.w_inv.1]
     ·cases h
   | _=>cases h
theorem o_eqs {g ks x y cs ds l r b} (hx:evE tl x=some (.agg cs)) (hy:evE tl y=some (.agg ds)) (hl:unw cs=some l) (hr:unw ds=some r) (h:eqvs ks l r=some b):OpV G q (.eqs g ks x y) tl L (some (.w (.bool (bif g then !b else b)))) L:=
 .same fun N c Z M tm m n hM hS=>by
  obtain⟨vs,e1,hvl,hu⟩:=(evE_rel hS hx).agg_inv
  obtain⟨ws,e2,hwl,hw⟩:=(evE_rel hS hy).agg_inv
  have h1:vs.toList=l:=unw_rel (M:=M) (Z:=Z) hl ⟨by simpa using hvl,fun i x y h2 h3=>hu i x y h2 (by simpa using h3)⟩
  have h2:ws.toList=r:=unw_rel (M:=M) (Z:=Z) hr ⟨by simpa using hwl,fun i x y h2 h3=>hw i x y h2 (by simpa using h3)⟩
  refine⟨_,fun _=>?_,.fz (.w rfl)⟩
  simp only[stepO,e1,e2,h1,h2,h]
  cases g <;> rfl
def intsV (tl:List (Nat×V)):List E→Option (List Int)
 | []=>some []
 | e::l=>match evE tl e,intsV tl l with
   | some (.w (.int .i64 a)),some r=>some (a::r)
   | _,_=>none
theorem intsV_rel {M Z tm} (hS:Slots M Z tl tm):∀ {es l},intsV tl es=some l→es.map (·.ev tm)=l.map fun a=>Value.int .i64 a
 | [],l,h=>by simp [intsV] at h;subst h;rfl
 | e::es,l,h=>by
   simp only[intsV] at h
   split at h
   ·rename_i a r h1 h2
    cases h
    simp only[List.map_cons,intsV_rel hS h2,evE_w hS h1]
   ·cases h
def minL:Int→List Int→Int
 | x,[]=>x
 | x,y::l=>minL (if y<x then y else x) l
def maxL:Int→List Int→Int
 | x,[]=>x
 | x,y::l=>maxL (if x<y then y else x) l
theorem foldv_min:∀ (l:List Int) (x:Int),foldv min2v (.int .i64 x) (l.map fun a=>Value.int .i64 a)=some (.int .i64 (minL x l))
 | [],x=>rfl
 | y::l,x=>by simp only[List.map_cons,foldv,min2v,if_true];exact foldv_min l _
theorem foldv_max:∀ (l:List Int) (x:Int),foldv max2v (.int .i64 x) (l.map fun a=>Value.int .i64 a)=some (.int .i64 (maxL x l))
 | [],x=>rfl
 | y::l,x=>by simp only[List.map_cons,foldv,max2v,if_true];exact foldv_max l _
theorem o_mn {es a l} (h:intsV tl es=some (a::l)):OpV G q (.mn es) tl L (some (.w (.int .i64 (minL a l)))) L:=
 o_w rfl fun M Z tm hS _ m n=>by
  have h1:=intsV_rel hS h
  have h2:=foldv_min l a
  simp only[stepO,h1,List.map_cons,h2]
theorem o_mx {es a l} (h:intsV tl es=some (a::l)):OpV G q (.mx es) tl L (some (.w (.int .i64 (maxL a l)))) L:=
 o_w rfl fun M Z tm hS _ m n=>by
  have h1:=intsV_rel hS h
  have h2:=foldv_max l a
  simp only[stepO,h1,List.map_cons,h2]
end
end Go.Proofs.YtoppcdecolponaaGreat.AL
namespace Go.Proofs.YtoppcdecolponaaGreat.AL
open Go
set_option linter.unusedVariables false
set_option linter.unusedSimpArgs false
theorem rows_whole {k:Nat} {cells:List Value}:∀ {rows:List (List Value)} {off:Nat},(∀ (i:Nat) r,rows[i]?=some r→r.length=k∧off+i * k+k≤cells.length∧(cells.drop (off+i * k)).take k=r) →
 (rows≠[]→off+rows.length * k≤cells.length)∧(cells.drop off).take (rows.length * k)=rows.flatten
 | [],off,h=>by simp
 | r::rows,off,h=>by
   obtain⟨h1,h2,h3⟩:=h 0 r rfl
   have hs:∀ (i:Nat) r,rows[i]?=some r→r.length=k∧(off+k)+i * k+k≤cells.length∧(cells.drop ((off+k)+i * k)).take k=r:=by
    intro i r' hr
    obtain⟨g1,g2,g3⟩:=h (i+1) r' (by simpa using hr)
    have e:off+(i+1) * k=off+k+i * k:=by rw[Nat.succ_mul];omega
    rw[e] at g2 g3
    exact⟨g1,g2,g3⟩
   obtain⟨i1,i2⟩:=rows_whole hs
   have e:(r::rows).length * k=k+rows.length * k:=by simp [Nat.succ_mul,Nat.add_comm]
   rw[e]
   simp only[Nat.zero_mul,Nat.add_zero] at h2 h3
   refine⟨fun _=>?_,?_⟩
   ·by_cases hr:rows=[]
    ·subst hr;simp;omega
    ·have:=i1 hr;omega
   ·rw[List.flatten_cons,←i2,←h3,←List.drop_drop,←List.take_add]
structure Src (M m:Mem) (k:Nat) (rows:List (List V)) (x:Value):Prop where
 h:∃ (xb:Option Addr) (xc:Nat),x=.slice xb rows.length xc∧(rows≠[]→∃ (xa:Addr) (rows':List (List Value)),xb=some xa∧rdn m xa (rows.length * k)=some rows'.flatten∧rows'.length=rows.length∧(∀ r,r∈rows'→r.length=k) ∧
  (∀ (i:Nat) r r',rows[i]?=some r→rows'[i]?=some r'→Pt (RF M) r r'))
 n:∀ (i:Nat) r (j:Nat) x,rows[i]?=some r→r[j]?=some x→x.nar=true
theorem Src.ofSl {M m:Mem} {k rows x} (hs:sub M m) (h:RF M (.sl k rows) x):Src M m k rows x:=by
 cases h with
 | sl hc ha hl hn hk hh =>
   rename_i a c rows'
   refine⟨⟨a,c,rfl,fun hne=>?_⟩,hn⟩
   have hne':rows'≠[]:=by intro e;subst e;simp at hl;exact hne (List.eq_nil_of_length_eq_zero (by omega))
   obtain⟨⟨h1,h2⟩,blk,hb,hsz,hrow⟩:=ha hne'
   cases a with
   | none=>cases h1
   | some a =>
     simp only[adr,Option.getD_some] at h2 hb hrow
     obtain⟨i1,i2⟩:=rows_whole hrow
     have i1:=i1 hne'
     refine⟨a,rows',rfl,?_,hl,fun r hr=>?_,fun i r r' e1 e2=>⟨hk i r r' e1 e2,fun j x y e3 e4=>hh i r r' j x y e1 e2 e3 e4⟩⟩
     ·rw[←i2,←hl]
      simp only[AL.rdn,hs _ _ hb,h2,Option.isSome_none,Bool.false_eq_true,if_false]
      rw[if_pos (by omega)]
     ·obtain⟨i,hi⟩:=List.mem_iff_getElem?.1 hr
      exact(hrow i r hi).1
theorem Src.ofLs {N:Nat} {c:Cx N} {Z M L m n} {k:Nat} {rows:List (List V)} {b:Nat} {a:Option Nat} (hM:StM c Z M L m n) (hz:Z[b]?=some (a,.arr k rows)):Src M m k rows (slOf a rows.length):=by
 cases a with
 | none =>
   obtain⟨k',e⟩:=hM.nil _ _ hz
   cases e
   exact⟨⟨none,0,rfl,fun h=>absurd rfl h⟩,fun i r j x h=>by simp at h⟩
 | some ad =>
   obtain⟨_,_,cells,hm,rows',rfl,hl,hall,hpt,hn⟩:=hM.cell _ _ _ hz
   refine⟨⟨_,_,rfl,fun _=>⟨_,rows',rfl,?_,hl,hall,hpt⟩⟩,hn⟩
   have:rows'.flatten.length=rows.length * k:=by rw[flat_len hall,hl]
   simp only[AL.rdn,hm,Option.isSome_none,Bool.false_eq_true,if_false]
   rw[if_pos (by omega),List.drop_zero,List.take_of_length_le (by omega)]
theorem Src.all {M m:Mem} {k:Nat} {rows:List (List V)} {rows':List (List Value)} (hl:rows'.length=rows.length) (hn:∀ (i:Nat) r (j:Nat) x,rows[i]?=some r→r[j]?=some x→x.nar=true)
 (hp:∀ (i:Nat) r r',rows[i]?=some r→rows'[i]?=some r'→Pt (RF M) r r'):rows'.flatten.all (fun u=>!wideV u)=true:=by
 rw[List.all_eq_true]
 intro y hy
 obtain⟨r',hr',hy⟩:=List.mem_flatten.1 hy
 obtain⟨i,hi⟩:=List.mem_iff_getElem?.1 hr'
 obtain⟨j,hj⟩:=List.mem_iff_getElem?.1 hy
 have hi2:i<rows.length:=by have:=(List.getElem?_eq_some_iff.1 hi).1;omega
 have hp:=hp i _ r' (List.getElem?_eq_getElem hi2) hi
 have hj2:j<rows[i].length:=by rw[hp.1];exact(List.getElem?_eq_some_iff.1 hj).1
 have hx:=List.getElem?_eq_getElem hj2
 have:=(hp.2 j _ y hx hj).nar (hn i _ j _ (List.getElem?_eq_getElem hi2) hx)
 simp [this]
section
variable {G : Prg} {q : Bool} {tl : List (Nat × V)} {L : List LB}
theorem app_core {s x:E} {b len k bytes:Nat} {rows rows2:List (List V)} {L1:List LB} (hx:evE tl s=some (.ls b len)) (hb:L[b]?=some (.arr k rows)) (hl:rows.length=len)
 (hL:setN L b (.arr k (rows++rows2))=some L1) (hroom:(rows.length+rows2.length) * bytes≤roomy∧rows.length+rows2.length≤roomy)
 (hs:∀ (N:Nat) (c:Cx N) Z M tm m n,StM c Z M L m n→Slots M Z tl tm→Src M m k rows2 (x.ev tm)):OpV G false (.app k bytes s x) tl L (some (.ls b (rows++rows2).length)) L1:=by
 intro N c Z M tm m n hM hS
 obtain⟨a,ha⟩:=hM.getZ hb
 obtain⟨_,rfl⟩:=setN_inv hL
 have h1:=(evE_rel hS hx).ls_inv ha hl
 obtain⟨⟨xb,xc,e2,h2⟩,hn2⟩:=hs N c Z M tm m n hM hS
 have hlt:b<Z.length:=(List.getElem?_eq_some_iff.1 ha).1
 have hlen:(rows++rows2).length=rows.length+rows2.length:=by simp
 have hsl:∃ base,s.ev tm=.slice base rows.length rows.length∧(base=a.map fun ad=>⟨ad,0,none⟩):=by
  cases a with
  | some ad=>exact⟨_,by rw[h1,←hl];rfl,rfl⟩
  | none =>
    obtain⟨k',e⟩:=hM.nil _ _ ha
    cases e
    exact⟨none,by rw[h1];rfl,rfl⟩
 obtain⟨base,e1,hbase⟩:=hsl
 by_cases hne:rows2=[]
 ·subst hne
  refine⟨s.ev tm,m,n,Z,M,.inl ?_,ExtV.refl _ _,?_,fun u e=>?_⟩
  ·simp only[stepO,e1,e2]
   rw[if_pos ⟨hroom.1,hroom.2,Nat.le_refl _⟩]
   rfl
  ·have:L.set b (.arr k (rows++[]))=L:=by
    rw[List.append_nil]
    apply List.ext_getElem?
    intro i
    rw[List.getElem?_set]
    by_cases e:b=i
    ·subst e;rw[if_pos rfl,if_pos (List.getElem?_eq_some_iff.1 hb).1,hb]
    ·rw[if_neg e]
   rw[this];exact hM
  ·cases e
   have:=evE_rel hS hx
   simpa[hl] using this
 ·obtain⟨xa,rows2',rfl,hrd,hl2,hall2,hpt2⟩:=h2 hne
  have hpos:0<rows2.length:=List.length_pos_iff.2 hne
  have hnar2:=Src.all (M:=M) (m:=m) (k:=k) hl2 hn2 hpt2
  have helder:∃ rows1':List (List Value),rows1'.length=rows.length∧(∀ r,r∈rows1'→r.length=k)∧(∀ (i:Nat) r r',rows[i]?=some r→rows1'[i]?=some r'→Pt (RF M) r r') ∧
   (∀ (i:Nat) r (j:Nat) x,rows[i]?=some r→r[j]?=some x→x.nar=true)∧∃ m',(∀ b',b'∉a→m' b'=m b')∧(∀ ad,a=some ad→m' ad=none) ∧
   stepO c.bs (.app k bytes s x) tm m n=some (slc n 0 (rows.length+rows2.length) (rows.length+rows2.length),upd m' n (some ⟨rows1'.flatten++rows2'.flatten,true,k⟩),n+1):=by
   cases a with
   | none =>
     obtain⟨k',e⟩:=hM.nil _ _ ha
     cases e
     refine⟨[],rfl,by simp,fun i r r' h=>by simp at h,fun i r j x h=>by simp at h,m,fun _ _=>rfl,(fun ad e=>by cases e),?_⟩
     simp only[stepO,e1,e2,hbase,Option.map_none]
     rw[if_pos ⟨hroom.1,hroom.2,Nat.le_refl _⟩,if_neg (by omega)]
     simp [hrd,hnar2]
   | some ad =>
     obtain⟨ha0,han,cells,hm,rows1',rfl,hl1,hall1,hpt1,hn1⟩:=hM.cell _ _ _ ha
     have hc:rows1'.flatten.length=rows.length * k:=by rw[flat_len hall1,hl1]
     refine⟨rows1',hl1,hall1,hpt1,hn1,upd m ad none,fun b' hb'=>?_,fun ad' e=>by cases e;simp [upd],?_⟩
     ·simp only[Option.mem_def,Option.some.injEq] at hb'
      simp only[upd];rw[if_neg (fun e=>hb' e.symm)]
     ·simp only[stepO,e1,e2,hbase,Option.map_some]
      rw[if_pos ⟨hroom.1,hroom.2,Nat.le_refl _⟩,if_neg (by omega)]
      simp only[hrd,hnar2,hm,if_true,Option.isSome_none,Bool.false_eq_true,if_false]
      rw[if_pos ⟨hM.bsA ha0,trivial,by simp [LB.sz],by omega,by omega⟩]
      rw[List.drop_zero,List.take_of_length_le (by omega)]
  obtain⟨rows1',hl1,hall1,hpt1,hn1,m',hm1,hm2,hstep⟩:=helder
  have hget:∀ (i:Nat) p,(Z.set b (some n,LB.arr k (rows++rows2)))[i]?=some p→(i≠b∧Z[i]?=some p)∨(i=b∧p=(some n,.arr k (rows++rows2))):=by
   intro i p hp
   rw[List.getElem?_set] at hp
   by_cases e:b=i
   ·subst e;rw[if_pos rfl,if_pos hlt] at hp;cases hp;exact .inr ⟨rfl,rfl⟩
   ·rw[if_neg e] at hp;exact .inl ⟨fun e'=>e e'.symm,hp⟩
  have hext:ExtV Z M (Z.set b (some n,LB.arr k (rows++rows2))) M:=by
   refine⟨sub_refl _,fun i p hp=>?_⟩
   by_cases e:b=i
   ·subst e;rw[ha] at hp;cases hp
    exact⟨_,by rw[List.getElem?_set,if_pos rfl,if_pos hlt],.inl ⟨_,rfl,by simp,fun e=>by simp at e;exact absurd e hne⟩⟩
   ·exact⟨p,by rw[List.getElem?_set,if_neg e];exact hp,grow.refl p⟩
  have hnm:m n=none:=hM.fresh _ (Nat.le_refl _)
  have hk:∀ b',b'≠n→b'∉a→(upd m' n (some ⟨rows1'.flatten++rows2'.flatten,true,k⟩)) b'=m b':=fun b' h3 h4=>by simp only[upd,if_neg h3];exact hm1 b' h4
  have ha0:∀ ad,a=some ad→c.okA ad∧ad<n:=fun ad e=>by subst e;exact⟨(hM.cell _ _ _ ha).1,(hM.cell _ _ _ ha).2.1⟩
  have hcn:=hM.hn
  refine⟨_,_,_,Z.set b (some n,.arr k (rows++rows2)),M,.inl hstep,hext,⟨hM.hbs,by omega,?_,by simp [List.map_set,hM.hL],?_,?_,hM.f0,hM.hma,hM.hbr,?_,?_,?_,fun i a' lb hi=>?_⟩,?_⟩
  ·intro b' hb'
   simp only[upd]
   rw[if_neg (by omega)]
   by_cases e:b'∈a
   ·exact hm2 b' e
   ·rw[hm1 b' e];exact hM.fresh b' (by omega)
  ·intro b' y hb'
   obtain⟨g1,g2,g3⟩:=hM.hM b' y hb'
   have hn':b'≠n:=by intro e;subst e;rw[hnm] at g1;cases g1
   have hna:b'∉a:=fun e=>by
    have e:a=some b':=e
    subst e;exact g3 _ _ ha
   refine⟨by rw[hk b' hn' hna];exact g1,g2,fun i lb e=>?_⟩
   ·rcases hget i _ e with⟨_,e1⟩|⟨_,e1⟩
    ·exact g3 i lb e1
    ·cases e1;exact hn' rfl
  ·intro b' y hb'
   have hlt':b'<c.n0:=by
    rcases Nat.lt_or_ge b' c.n0 with h|h
    ·exact h
    ·rw[hM.f0 _ h] at hb';cases hb'
   have hna:b'∉a:=fun e=>by
    have:=hM.m0A (ha0 b' e).1
    rw[this] at hb';cases hb'
   rw[hk b' (by omega) hna]
   exact hM.h0 _ _ hb'
  ·intro i a' lb hi
   rcases hget i _ hi with⟨hne',e1⟩|⟨_,e1⟩
   ·obtain⟨g1,g2,g3⟩:=hM.cell i a' lb e1
    have hna:a'∉a:=fun e=>by
     have e:a=some a':=e
     subst e;exact hne' (hM.inj _ _ _ _ _ e1 ha)
    exact⟨g1,by omega,g3.mono hext (hk a' (by omega) hna)⟩
   ·cases e1
    refine⟨.inl hcn,by omega,rows1'.flatten++rows2'.flatten,by simp [upd,LB.sz],rows1'++rows2',by simp,by simp [hl1,hl2],?_,?_,?_⟩
    ·intro r hr
     rcases List.mem_append.1 hr with h|h
     ·exact hall1 r h
     ·exact hall2 r h
    ·intro i r r' e1 e2
     rw[List.getElem?_append] at e1 e2
     rw[hl1] at e2
     split at e1
     ·rename_i hi;rw[if_pos hi] at e2;exact hpt1 i r r' e1 e2
     ·rename_i hi;rw[if_neg hi] at e2;exact hpt2 _ r r' e1 e2
    ·intro i r j x e1 e2
     rw[List.getElem?_append] at e1
     split at e1
     ·exact hn1 i r j x e1 e2
     ·exact hn2 _ r j x e1 e2
  ·intro i lb hi
   rcases hget i _ hi with⟨_,e1⟩|⟨_,e1⟩
   ·exact hM.nl i lb e1
   ·cases e1
  ·intro i j a' l1 l2 hi hj
   rcases hget i _ hi with⟨_,e1⟩|⟨e0,e1⟩ <;> rcases hget j _ hj with⟨_,e2⟩|⟨e3,e2⟩
   ·exact hM.inj i j a' l1 l2 e1 e2
   ·cases e2;have:=(hM.cell i _ _ e1).2.1;omega
   ·cases e1;have:=(hM.cell j _ _ e2).2.1;omega
   ·omega
  ·rcases hget i _ hi with⟨_,e1⟩|⟨_,e1⟩
   ·exact hM.lo i a' lb e1
   ·cases e1;exact .inl hcn
  ·intro u e
   cases e
   refine .ls (by rw[List.getElem?_set,if_pos rfl,if_pos hlt]) (Nat.le_refl _) rfl fun _=>?_
   rw[hlen];rfl
theorem o_app {s x:E} {b len k bytes:Nat} {rows rows2:List (List V)} {L1:List LB} (hx:evE tl s=some (.ls b len)) (hb:L[b]?=some (.arr k rows)) (hl:rows.length=len)
 (hy:evE tl x=some (.sl k rows2)) (hL:setN L b (.arr k (rows++rows2))=some L1) (hroom:(rows.length+rows2.length) * bytes≤roomy∧rows.length+rows2.length≤roomy) :
 OpV G false (.app k bytes s x) tl L (some (.ls b (rows++rows2).length)) L1:=
 app_core hx hb hl hL hroom fun N c Z M tm m n hM hS=>Src.ofSl hM.subM (evE_rel hS hy).sl_inv
theorem o_appL {s x:E} {b len k bytes b2 len2:Nat} {rows rows2:List (List V)} {L1:List LB} (hx:evE tl s=some (.ls b len)) (hb:L[b]?=some (.arr k rows)) (hl:rows.length=len)
 (hy:evE tl x=some (.ls b2 len2)) (hb2:L[b2]?=some (.arr k rows2)) (hl2:rows2.length=len2) (hL:setN L b (.arr k (rows++rows2))=some L1)
 (hroom:(rows.length+rows2.length) * bytes≤roomy∧rows.length+rows2.length≤roomy) :
 OpV G false (.app k bytes s x) tl L (some (.ls b (rows++rows2).length)) L1:=
 app_core hx hb hl hL hroom fun N c Z M tm m n hM hS=>by
  obtain⟨a,ha⟩:=hM.getZ hb2
  rw[(evE_rel hS hy).ls_inv ha hl2,←hl2]
  exact Src.ofLs hM ha
theorem arr_rel_rep {M Z} {z:List Value} {zr:List V} (hz:ofWs z=some zr) (k:Nat) (hk:z.length=k) (n:Nat):LB.rel M Z (.arr k (List.replicate n zr)) (List.replicate n z).flatten:=by
 obtain⟨h1,h2⟩:=ofWs_rel (M:=M) hz
 refine⟨List.replicate n z,rfl,by simp,fun r hr=>by rw[(List.mem_replicate.1 hr).2];exact hk,fun i r r' e1 e2=>?_,fun i r j x e1 e2=>?_⟩
 ·rw[List.getElem?_replicate] at e1 e2
  split at e1
  ·rename_i hi;rw[if_pos hi] at e2;cases e1;cases e2;exact h1
  ·cases e1
 ·rw[List.getElem?_replicate] at e1
  split at e1
  ·cases e1;exact h2 x (List.mem_of_getElem? e2)
  ·cases e1
theorem o_mk {k bytes z l c zr a d L1} (hz:ofWs z=some zr) (hk:z.length=k) (hl:evE tl l=some (.w (.int .i64 a))) (hc:evE tl c=some (.w (.int .i64 a))) (hroom:0≤a∧a.toNat * bytes≤roomy∧a≤roomy)
 (hL:pushN L (.arr k (List.replicate a.toNat zr))=some (L1,d)):OpV G q (.mk k bytes z l c) tl L (some (.ls d (List.replicate a.toNat zr).length)) L1:=by
 intro N cx Z M tm m n hM hS
 have:=pushN_inv hL;cases this
 obtain⟨h1,h2,h3⟩:=hM.push (.arr k (List.replicate a.toNat zr)) (List.replicate a.toNat z).flatten (arr_rel_rep hz k hk _)
 refine⟨_,_,_,_,_,.inl ?_,h1,h2,fun u e=>by cases e;exact .ls h3 (Nat.le_refl _) rfl fun _=>rfl⟩
 simp only[stepO,evE_w hS hl,evE_w hS hc]
 rw[if_pos ⟨hroom.1,Int.le_refl _,hroom.2.1,hroom.2.2,hk⟩]
 simp [slOf,slc,LB.sz]
def bsV (tl:List (Nat×V)) (k:Nat):List (Nat×E)→List (List V)→Option (List (List V))
 | [],rows=>some rows
 | (i,e)::ps,rows=>match evE tl e with
   | some u=>match cellsV u with
     | some cs=>match Nat.beq cs.length k && fzs cs with
       | true=>match setN rows i cs with
         | some rows1=>bsV tl k ps rows1
         | none=>none
       | false=>none
     | none=>none
   | none=>none
theorem bsV_rel {M Z tm k} (hS:Slots M Z tl tm):∀ {ps:List (Nat×E)} {rows rows1 cells},bsV tl k ps rows=some rows1→LB.rel M Z (.arr k rows) cells →
 rows1.length=rows.length∧LB.rel M Z (.arr k rows1) (fill cells (ps.map fun p=>(p.1 * k,(p.2.ev tm).cells.toList)))∧ps.all (fun p=>!isJunk (p.2.ev tm))=true ∧
  (ps.map fun p=>(p.1 * k,(p.2.ev tm).cells.toList)).all (fun p=>p.2.length == k && decide (p.1+p.2.length≤rows.length * k))=true
 | [],rows,rows1,cells,h,hr=>by simp [bsV] at h;subst h;exact⟨rfl,hr,rfl,rfl⟩
 | (i,e)::ps,rows,rows1,cells,h,hr=>by
   simp only[bsV] at h
   split at h
   case h_2=>cases h
   rename_i u hu
   split at h
   case h_2=>cases h
   rename_i cs hcs
   split at h
   case h_2=>cases h
   rename_i hck
   split at h
   case h_2=>cases h
   rename_i rows2 h2
   simp only[Bool.and_eq_true] at hck
   have hck1:=Nat.eq_of_beq_eq_true hck.1
   obtain⟨hi,rfl⟩:=setN_inv h2
   obtain⟨hc1,hj⟩:=cellsV_rel (evE_rel hS hu) hcs
   obtain⟨hc2,hnar⟩:=fzs_rel hc1 hck.2
   obtain⟨rows',rfl,hl,hall,hpt,hn⟩:=hr
   have hri:rows'[i]?=some rows'[i]:=List.getElem?_eq_getElem (by omega)
   have hvl:(e.ev tm).cells.toList.length=k:=by rw[←hc2.1];exact hck1
   have hk:rows'[i].length=k:=hall _ (List.getElem_mem _)
   have hset:LB.rel M Z (.arr k (rows.set i cs)) (rows'.flatten.take (i * k)++(e.ev tm).cells.toList++rows'.flatten.drop (i * k+(e.ev tm).cells.toList.length)):=by
    have:=flat_set (vs:=(e.ev tm).cells.toList) (off:=0) (k:=k) (by omega) hall hri
    rw[Nat.add_zero] at this
    refine⟨rows'.set i (e.ev tm).cells.toList,?_,by simp [hl],fun r hr=>?_,fun i' r r' e1 e2=>?_,fun i' r j x e1 e2=>?_⟩
    ·rw[this]
     congr 2
     rw[List.take_zero,Nat.zero_add,List.drop_eq_nil_of_le (by omega)]
     simp
    ·rcases List.mem_or_eq_of_mem_set hr with h|h
     ·exact hall r h
     ·subst h;exact hvl
    ·rw[List.getElem?_set] at e1 e2
     by_cases e:i=i'
     ·subst e
      rw[if_pos rfl,if_pos hi] at e1
      rw[if_pos rfl,if_pos (by omega)] at e2
      cases e1;cases e2;exact hc2
     ·rw[if_neg e] at e1 e2;exact hpt i' r r' e1 e2
    ·rw[List.getElem?_set] at e1
     by_cases e:i=i'
     ·subst e
      rw[if_pos rfl,if_pos hi] at e1
      cases e1;exact hnar x (List.mem_of_getElem? e2)
     ·rw[if_neg e] at e1;exact hn i' r j x e1 e2
   obtain⟨g1,g2,g3,g4⟩:=bsV_rel hS h hset
   simp only[List.length_set] at g1 g4
   refine⟨g1,g2,by simp [hj,g3],?_⟩
   have hle:i * k+k≤rows.length * k:=by rw[←Nat.succ_mul];exact Nat.mul_le_mul_right k hi
   simp only[List.map_cons,List.all_cons,Bool.and_eq_true,beq_iff_eq,decide_eq_true_eq]
   exact⟨⟨hvl,by omega⟩,by simpa using g4⟩
theorem o_bs {k n z ps zr rows d L1} (hz:ofWs z=some zr) (hk:z.length=k) (hr:bsV tl k ps (List.replicate n zr)=some rows) (hL:pushN L (.arr k rows)=some (L1,d)) :
 OpV G q (.bs k n z ps) tl L (some (.ls d rows.length)) L1:=by
 intro N cx Z M tm m nn hM hS
 have:=pushN_inv hL;cases this
 obtain⟨g1,g2,g3,g4⟩:=bsV_rel hS hr (arr_rel_rep (M:=M) (Z:=Z) hz k hk n)
 obtain⟨h1,h2,h3⟩:=hM.push (.arr k rows) _ g2
 refine⟨_,_,_,_,_,.inl ?_,h1,h2,fun u e=>by cases e;exact .ls h3 (Nat.le_refl _) rfl fun _=>rfl⟩
 simp only[List.length_replicate] at g1 g4
 simp only[stepO]
 rw[if_pos ⟨hk,g3,g4⟩]
 simp [slOf,slc,LB.sz,g1]
def bdV (tl:List (Nat×V)):List (Nat×Nat×E)→List V→Option (List V)
 | [],row=>some row
 | (i,k,e)::ps,row=>match evE tl e with
   | some u=>match cellsV u with
     | some cs=>match Nat.beq cs.length k with
       | true=>match splN row i cs with
         | some row1=>bdV tl ps row1
         | none=>none
       | false=>none
     | none=>none
   | none=>none
theorem bdV_rel {M Z tm} (hS:Slots M Z tl tm):∀ {ps:List (Nat×Nat×E)} {row row1 cells},bdV tl ps row=some row1→Pt (RL M Z) row cells →
 row1.length=row.length∧Pt (RL M Z) row1 (fill cells (ps.map fun p=>(p.1,(p.2.2.ev tm).cells.toList))) ∧
  ps.all (fun p=>!isJunk (p.2.2.ev tm) && (p.2.2.ev tm).cells.size == p.2.1 && decide (p.1+p.2.1≤row.length))=true
 | [],row,row1,cells,h,hr=>by simp [bdV] at h;subst h;exact⟨rfl,hr,rfl⟩
 | (i,k,e)::ps,row,row1,cells,h,hr=>by
   simp only[bdV] at h
   split at h
   case h_2=>cases h
   rename_i u hu
   split at h
   case h_2=>cases h
   rename_i cs hcs
   split at h
   case h_2=>cases h
   rename_i hck
   split at h
   case h_2=>cases h
   rename_i row2 h2
   have hck1:=Nat.eq_of_beq_eq_true hck
   obtain⟨hi,rfl⟩:=splN_inv h2
   obtain⟨hc1,hj⟩:=cellsV_rel (evE_rel hS hu) hcs
   have hvl:(e.ev tm).cells.toList.length=cs.length:=hc1.1.symm
   have hvs:(e.ev tm).cells.size=k:=by rw[←Array.length_toList];omega
   have hp:Pt (RL M Z) (row.take i++cs++row.drop (i+cs.length)) (cells.take i++(e.ev tm).cells.toList++cells.drop (i+(e.ev tm).cells.toList.length)):=by
    rw[hvl];exact((hr.take i).append hc1).append (hr.drop _)
   obtain⟨g1,g2,g3⟩:=bdV_rel hS h hp
   have hlen:(row.take i++cs++row.drop (i+cs.length)).length=row.length:=by simp;omega
   rw[hlen] at g1 g3
   refine⟨g1,g2,?_⟩
   simp only[List.all_cons,hj,hvs,Bool.and_eq_true,decide_eq_true_eq]
   exact⟨⟨⟨rfl,by simp⟩,by omega⟩,g3⟩
theorem o_bd {z ps zr row} (hz:ofWs z=some zr) (hr:bdV tl ps zr=some row):OpV G q (.bd z ps) tl L (some (.agg row)) L:=
 .same fun N c Z M tm m n hM hS=>by
  have h0:=(ofWs_rel (M:=M) hz).1
  obtain⟨g1,g2,g3⟩:=bdV_rel hS hr (Pt.mono h0 fun _ _=>RL.fz (Z:=Z))
  rw[h0.1] at g3
  refine⟨.agg (fill z (ps.map fun p=>(p.1,(p.2.2.ev tm).cells.toList))).toArray,fun _=>?_,.agg (by simpa using g2.1) fun i x y h1 h2=>g2.2 i x y h1 (by simpa using h2)⟩
  simp only[stepO]
  rw[if_pos g3]
def bndV (tl:List (Nat×V)) (d:Int):Option E→Option Int
 | none=>some d
 | some e=>match evE tl e with
   | some (.w (.int _ i))=>some i
   | _=>none
theorem bndV_rel {M Z tm} (hS:Slots M Z tl tm) {d x i} (h:bndV tl (d:Nat) x=some i) {most:Nat} (hi:0≤i∧i≤most):bnd tm x d most=some i.toNat:=by
 unfold bndV at h
 split at h
 ·cases h;simp [bnd]
 ·rename_i e
  split at h
  ·rename_i k i' he
   cases h
   simp only[bnd,evE_w hS he]
   rw[if_pos hi]
  ·cases h
theorem RF.slice {M:Mem} {k:Nat} {rows:List (List V)} {a:Option Addr} {c:Nat} {rows':List (List Value)} (hc:rows.length≤c) (ha:RowsAt M k a rows') (hl:rows'.length=rows.length)
 (hn:∀ (i:Nat) (r:List V) (j:Nat) x,rows[i]?=some r→r[j]?=some x→x.nar=true)
 (hk:∀ (i:Nat) (r:List V) r',rows[i]?=some r→rows'[i]?=some r'→r.length=r'.length)
 (h:∀ (i:Nat) (r:List V) r' (j:Nat) x y,rows[i]?=some r→rows'[i]?=some r'→r[j]?=some x→r'[j]?=some y→RF M x y) {l h':Nat} (hlh:l≤h') (hh:h'≤rows.length) (hne:0<rows.length) :
 ∃ ad,a=some ad∧ad.spot=none∧(∃ blk,M ad.block=some blk∧blk.sz=k)∧RF M (.sl k ((rows.take h').drop l)) (.slice (some (if c=l then ad else⟨ad.block,ad.off+l * k,none⟩)) (h'-l) (c-l)) ∧
   RF M (.sl k ((rows.take h').drop l)) (.slice (some (if c=l then⟨0,0,some 0⟩ else⟨ad.block,ad.off+l * k,none⟩)) (h'-l) (c-l)):=by
 obtain⟨⟨h1,h2⟩,blk,hb,hsz,hrow⟩:=ha (by intro e;subst e;simp at hl;omega)
 cases a with
 | none=>cases h1
 | some ad =>
   simp only[adr,Option.getD_some] at h2 hb hrow
   have hlen:((rows.take h').drop l).length=h'-l:=by simp;omega
   have get:∀ {α:Type} (xs:List α) (i:Nat) r,((xs.take h').drop l)[i]?=some r→xs[l+i]?=some r:=by
    intro α xs i r e
    rw[List.getElem?_drop,List.getElem?_take] at e
    split at e
    ·exact e
    ·cases e
   have mk:∀ ad':Addr,(c≠l→ad'=⟨ad.block,ad.off+l * k,none⟩)→RF M (.sl k ((rows.take h').drop l)) (.slice (some ad') (h'-l) (c-l)):=by
    intro ad' had
    have:=RF.sl (M:=M) (k:=k) (rows:=(rows.take h').drop l) (a:=some ad') (c:=c-l) (rows':=(rows'.take h').drop l) (by rw[hlen];omega) ?_ (by simp [hl])
     (fun i r j x e1 e2=>hn _ _ _ _ (get _ _ _ e1) e2) (fun i r r' e1 e2=>hk _ _ _ (get _ _ _ e1) (get _ _ _ e2)) (fun i r r' j x y e1 e2 e3 e4=>h _ _ _ _ _ _ (get _ _ _ e1) (get _ _ _ e2) e3 e4)
    ·rw[hlen] at this;exact this
    ·intro hne'
     have hpos:0<((rows'.take h').drop l).length:=List.length_pos_iff.2 hne'
     simp at hpos
     rw[had (by omega)]
     refine⟨⟨rfl,rfl⟩,blk,hb,hsz,fun i r hr=>?_⟩
     obtain⟨g1,g2,g3⟩:=hrow _ _ (get _ _ _ hr)
     have e:ad.off+(l+i) * k=ad.off+l * k+i * k:=by rw[Nat.add_mul];omega
     rw[e] at g2 g3
     exact⟨g1,g2,g3⟩
   exact⟨ad,rfl,h2,⟨blk,hb,hsz⟩,mk _ (fun e=>by rw[if_neg e]),mk _ (fun e=>by rw[if_neg e])⟩
theorem o_sl {k x lo hi l h rows} (hx:evE tl x=some (.sl k rows)) (hh:bndV tl (rows.length:Nat) hi=some h) (hl:bndV tl (0:Nat) lo=some l) (hne:0<rows.length) (hb:0≤l∧l≤h∧h≤rows.length) :
 OpV G q (.sl k x lo hi none) tl L (some (.sl k ((rows.take h.toNat).drop l.toNat))) L:=
 .same fun N cx Z M tm m n hM hS=>by
  have h1:=(evE_rel hS hx).sl_inv
  obtain⟨e,he⟩:∃ e,x.ev tm=e:=⟨_,rfl⟩
  rw[he] at h1
  cases h1 with
  | sl hc ha hl' hn hk hr =>
    rename_i a c rows'
    obtain⟨ad,rfl,hsp,⟨blk,hblk,hsz⟩,r1,r2⟩:=RF.slice hc ha hl' hn hk hr (l:=l.toNat) (h':=h.toNat) (by omega) (by omega) hne
    have hbm:=hM.subM _ _ hblk
    refine⟨_,fun _=>?_,.fz r2⟩
    simp only[stepO,he]
    rw[show bnd tm none c c=some c from rfl]
    simp only
    rw[bndV_rel hS hh (by omega:0≤h∧h≤(c:Int))]
    simp only
    rw[bndV_rel hS hl (by omega:0≤l∧l≤(h.toNat:Int))]
    simp only
    rw[if_pos ⟨by omega,hc,by simp,by simp⟩]
    by_cases ec:c=l.toNat
    ·rw[if_pos ⟨ec,rfl⟩,if_pos ec]
     have e1:h.toNat-l.toNat=0:=by omega
     have e2:c-l.toNat=0:=by omega
     rw[e1,e2]
    ·rw[if_neg (by simp [ec]),if_neg ec,if_neg (by simp [hsp])]
     simp [hbm,hsz,ec]
end
end Go.Proofs.YtoppcdecolponaaGreat.AL
namespace Go.Proofs.YtoppcdecolponaaGreat.AL
open Go
set_option linter.unusedVariables false
set_option linter.unusedSimpArgs false
abbrev Tl:=List (Nat×V)
def VO (N:Nat) (G:Prg) (l:List IOp) (K:Tl→List LB→Prop) (tl:Tl) (L:List LB):Prop:=
 ∀ (c:Cx N) Z M tm m n,StM c Z M L m n→Slots M Z tl tm→∃ tm1 m1 n1 Z1 M1 tl1 L1,Big G c.bs (.ops l tm) m n (.exit .normal tm1) m1 n1∧ExtN N Z M Z1 M1∧StM c Z1 M1 L1 m1 n1∧Slots M1 Z1 tl1 tm1∧K tl1 L1
def VC (N:Nat) (G:Prg) (c:C) (Q:Ex→Tl→List LB→Prop) (tl:Tl) (L:List LB):Prop:=
 ∀ (cx:Cx N) Z M tm m n,StM cx Z M L m n→Slots M Z tl tm→∃ e tm1 m1 n1 Z1 M1 tl1 L1,Big G cx.bs (.code c tm) m n (.exit e tm1) m1 n1∧ExtN N Z M Z1 M1∧StM cx Z1 M1 L1 m1 n1∧Slots M1 Z1 tl1 tm1∧Q e tl1 L1
section
variable {N : Nat} {G : Prg} {tl : Tl} {L : List LB}
theorem Ez {K:Tl→List LB→Prop} (h:K tl L):VO N G [] K tl L:=
 fun c Z M tm m n hM hS=>⟨tm,m,n,Z,M,tl,L,.opsNil,ExtN.refl _ _ _,hM,hS,h⟩
theorem op_run {o:IOp} {l:List IOp} {N:Nat} {c:Cx N} {tm:Tm} {m:Mem} {n:Nat} {v:Value} {m1:Mem} {n1:Nat} {r m2 n2} (hg:o.g=none) (h:Op1 G (if o.q then n else c.bs) o.o tm m n v m1 n1)
 (h2:Big G c.bs (.ops l (put tm o.d v)) m1 n1 r m2 n2):Big G c.bs (.ops (o::l) tm) m n r m2 n2:=by
 rcases h with h|⟨f,args,h,hb⟩
 ·exact .opsPure (fun g b e=>by rw[hg] at e;cases e) h h2
 ·exact .opsCall (fun g b e=>by rw[hg] at e;cases e) h hb h2
theorem Fa {d o q l v L1} {K:Tl→List LB→Prop} (h:OpV G q o tl L (some v) L1) (k:VO N G l K ((d,v)::tl) L1):VO N G (⟨some d,o,none,q⟩::l) K tl L:=by
 intro c Z M tm m n hM hS
 obtain⟨v',m1,n1,Z1,M1,h1,he,hM1,hr⟩:=h _ c Z M tm m n hM hS
 obtain⟨tm2,m2,n2,Z2,M2,tl2,L2,hb,he2,hM2,hS2,hk⟩:=k c Z1 M1 (upd tm d v') m1 n1 hM1 ((hS.mono he).put (hr _ rfl))
 exact⟨tm2,m2,n2,Z2,M2,tl2,L2,op_run rfl h1 hb,he.trans he2,hM2,hS2,hk⟩
theorem Eo {o q l v L1} {K:Tl→List LB→Prop} (h:OpV G q o tl L v L1) (k:VO N G l K tl L1):VO N G (⟨none,o,none,q⟩::l) K tl L:=by
 intro c Z M tm m n hM hS
 obtain⟨v',m1,n1,Z1,M1,h1,he,hM1,hr⟩:=h _ c Z M tm m n hM hS
 obtain⟨tm2,m2,n2,Z2,M2,tl2,L2,hb,he2,hM2,hS2,hk⟩:=k c Z1 M1 tm m1 n1 hM1 (hS.mono he)
 exact⟨tm2,m2,n2,Z2,M2,tl2,L2,op_run rfl h1 hb,he.trans he2,hM2,hS2,hk⟩
theorem unguard {d o q l g b} {bs:Nat} {tm:Tm} {m:Mem} {n:Nat} {r m2 n2} (hg:tm g=.bool b) (h:Big G bs (.ops (⟨d,o,none,q⟩::l) tm) m n r m2 n2):Big G bs (.ops (⟨d,o,some (g,b),q⟩::l) tm) m n r m2 n2:=by
 generalize hT:Task.ops (⟨d,o,none,q⟩::l) tm=T at h
 induction h generalizing tm with
 | opsSkip e _ _ _=>cases hT;cases e
 | opsNone e _ _=>cases hT;cases e
 | opsPure _ hs h2=>cases hT;exact .opsPure (fun g' b' e=>by cases e;exact hg) hs h2
 | opsCall _ hc h1 h2=>cases hT;exact .opsCall (fun g' b' e=>by cases e;exact hg) hc h1 h2
 | opsNewH _ hq hs h2=>cases hT;exact .opsNewH (fun g' b' e=>by cases e;exact hg) hq hs h2
 | opsAlt _ hq hs h2=>cases hT;exact .opsAlt (fun g' b' e=>by cases e;exact hg) hq hs h2
 | opsPureH _ hq hs hd h2=>cases hT;exact .opsPureH (fun g' b' e=>by cases e;exact hg) hq hs hd h2
 | drop h hs ih=>subst hT;exact .drop (ih hg rfl) hs
 | _=>cases hT
theorem Ec {d o q l g b} {K:Tl→List LB→Prop} (hg:look tl g=some (.w (.bool b))) (k:VO N G (⟨d,o,none,q⟩::l) K tl L):VO N G (⟨d,o,some (g,b),q⟩::l) K tl L:=by
 intro c Z M tm m n hM hS
 obtain⟨tm2,m2,n2,Z2,M2,tl2,L2,hb,r⟩:=k c Z M tm m n hM hS
 exact⟨tm2,m2,n2,Z2,M2,tl2,L2,unguard (hS _ _ hg).w_inv.1 hb,r⟩
theorem nov_rel {M Z}:RL M Z (.tup []) nov:=.tup rfl fun i x y h=>by simp at h
theorem Eb {d o q l g b} {K:Tl→List LB→Prop} (hg:look tl g=some (.w (.bool !b))) (k:VO N G l K ((d,.tup [])::tl) L):VO N G (⟨some d,o,some (g,b),q⟩::l) K tl L:=by
 intro c Z M tm m n hM hS
 obtain⟨tm2,m2,n2,Z2,M2,tl2,L2,hb,r⟩:=k c Z M (upd tm d nov) m n hM (hS.put nov_rel)
 exact⟨tm2,m2,n2,Z2,M2,tl2,L2,.opsSkip rfl (hS _ _ hg).w_inv.1 (by cases b <;> simp) hb,r⟩
theorem Ff {d o q l g b} {K:Tl→List LB→Prop} (hg:look tl g=some (.tup [])) (k:VO N G l K ((d,.tup [])::tl) L):VO N G (⟨some d,o,some (g,b),q⟩::l) K tl L:=by
 intro c Z M tm m n hM hS
 obtain⟨tm2,m2,n2,Z2,M2,tl2,L2,hb,r⟩:=k c Z M (upd tm d nov) m n hM (hS.put nov_rel)
 obtain⟨vs,e,_,_⟩:=(hS _ _ hg).tup_inv
 exact⟨tm2,m2,n2,Z2,M2,tl2,L2,.opsNone rfl e hb,r⟩
theorem s_re {l i v} {K:Tl→List LB→Prop} (hg:look tl i=some v) (k:VO N G l K ((i,v)::tl) L):VO N G l K tl L:=by
 intro c Z M tm m n hM hS
 refine k c Z M tm m n hM fun t u hu=>?_
 simp only[look] at hu
 cases e:Nat.beq t i with
 | true =>
   rw[e] at hu
   have:=Nat.eq_of_beq_eq_true e
   simp only[cond_true,Option.some.injEq] at hu
   subst hu;subst this
   exact hS _ _ hg
 | false =>
   rw[e] at hu
   exact hS _ _ hu
theorem s_gB {d o q l g b c} {K:Tl→List LB→Prop} (hg:look tl g=some (.w (.bool c))) (k1:c=b→VO N G (⟨d,o,none,q⟩::l) K ((g,.w (.bool b))::tl) L)
 (k2:c = !b→VO N G (⟨d,o,some (g,b),q⟩::l) K ((g,.w (.bool !b))::tl) L):VO N G (⟨d,o,some (g,b),q⟩::l) K tl L:=by
 by_cases h:c=b
 ·subst h;exact Ec hg (s_re hg (k1 rfl))
 ·have:c = !b:=by cases c <;> cases b <;> simp_all
  subst this;exact s_re hg (k2 rfl)
theorem Ft {d o q l g} {p:Prop} [Decidable p] {K:Tl→List LB→Prop} (hg:look tl g=some (.w (.bool (decide p)))) (k1:p→VO N G (⟨d,o,none,q⟩::l) K ((g,.w (.bool true))::tl) L)
 (k2:¬ p→VO N G (⟨d,o,some (g,true),q⟩::l) K ((g,.w (.bool false))::tl) L):VO N G (⟨d,o,some (g,true),q⟩::l) K tl L:=
 s_gB hg (fun h=>k1 (by simpa using h)) (fun h=>k2 (by simpa using h))
theorem s_gDF {d o q l g} {p:Prop} [Decidable p] {K:Tl→List LB→Prop} (hg:look tl g=some (.w (.bool (decide p)))) (k1:¬ p→VO N G (⟨d,o,none,q⟩::l) K ((g,.w (.bool false))::tl) L)
 (k2:p→VO N G (⟨d,o,some (g,false),q⟩::l) K ((g,.w (.bool true))::tl) L):VO N G (⟨d,o,some (g,false),q⟩::l) K tl L:=
 s_gB hg (fun h=>k1 (by simpa using h)) (fun h=>k2 (by simpa using h))
def keepI (tl:Tl):List Nat→Option Tl
 | []=>some []
 | i::is=>match keepI tl is with
   | some r=>match look tl i with
     | some v=>some ((i,v)::r)
     | none=>some r
   | none=>none
theorem keepI_rel:∀ {is:List Nat} {tl1:Tl},keepI tl is=some tl1→∀ t v,look tl1 t=some v→look tl t=some v
 | [],tl1,h,t,v,hv=>by simp [keepI] at h;subst h;cases hv
 | i::is,tl1,h,t,v,hv=>by
   simp only[keepI] at h
   split at h
   ·rename_i r hr
    split at h
    ·rename_i u hu
     cases h
     simp only[look] at hv
     cases e:Nat.beq t i with
     | true =>
       rw[e] at hv
       have:=Nat.eq_of_beq_eq_true e
       simp only[cond_true,Option.some.injEq] at hv
       subst hv;subst this;exact hu
     | false=>rw[e] at hv;exact keepI_rel hr t v hv
    ·cases h;exact keepI_rel hr t v hv
   ·cases h
theorem Ek {is tl1 l} {K:Tl→List LB→Prop} (h:keepI tl is=some tl1) (k:VO N G l K tl1 L):VO N G l K tl L:=
 fun c Z M tm m n hM hS=>k c Z M tm m n hM fun t v hv=>hS t v (keepI_rel h t v hv)
theorem Ei (is:List Nat) {tl1 c} {Q:Ex→Tl→List LB→Prop} (h:keepI tl is=some tl1) (k:VC N G c Q tl1 L):VC N G c Q tl L:=
 fun cx Z M tm m n hM hS=>k cx Z M tm m n hM fun t v hv=>hS t v (keepI_rel h t v hv)
variable {Q : Ex → Tl → List LB → Prop}
theorem Fr (h:Q .normal tl L):VC N G .skip Q tl L:=fun c Z M tm m n hM hS=>⟨_,_,_,_,Z,M,tl,L,.skip,ExtN.refl _ _ _,hM,hS,h⟩
theorem Eh (h:Q .ret tl L):VC N G .ret Q tl L:=fun c Z M tm m n hM hS=>⟨_,_,_,_,Z,M,tl,L,.ret,ExtN.refl _ _ _,hM,hS,h⟩
theorem s_exit {i} (h:Q (.exit i) tl L):VC N G (.exit i) Q tl L:=fun c Z M tm m n hM hS=>⟨_,_,_,_,Z,M,tl,L,.exit,ExtN.refl _ _ _,hM,hS,h⟩
theorem Fs {l} (h:VO N G l (Q .normal) tl L):VC N G (.rg l) Q tl L:=fun c Z M tm m n hM hS =>
 let ⟨tm1,m1,n1,Z1,M1,tl1,L1,hb,r⟩:=h c Z M tm m n hM hS
 ⟨_,tm1,m1,n1,Z1,M1,tl1,L1,.rg hb,r⟩
theorem s_seq {a b} (h:VC N G a (fun e tl L=>match e with
 | .normal=>VC N G b Q tl L
 | e=>Q e tl L) tl L):VC N G (.seq a b) Q tl L:=by
 intro c Z M tm m n hM hS
 obtain⟨e,tm1,m1,n1,Z1,M1,tl1,L1,hb,he,hM1,hS1,hq⟩:=h c Z M tm m n hM hS
 by_cases hn:e=.normal
 ·subst hn
  obtain⟨e2,tm2,m2,n2,Z2,M2,tl2,L2,hb2,he2,r⟩:=hq c Z1 M1 tm1 m1 n1 hM1 hS1
  exact⟨e2,tm2,m2,n2,Z2,M2,tl2,L2,.seqN hb hb2,he.trans he2,r⟩
 ·refine⟨e,tm1,m1,n1,Z1,M1,tl1,L1,.seqE hb hn,he,hM1,hS1,?_⟩
  cases e <;> first|exact absurd rfl hn|exact hq
theorem s_block {i c} (h:VC N G c (fun e=>Q (e.out i)) tl L):VC N G (.block i c) Q tl L:=fun cx Z M tm m n hM hS =>
 let ⟨e,tm1,m1,n1,Z1,M1,tl1,L1,hb,r⟩:=h cx Z M tm m n hM hS
 ⟨_,tm1,m1,n1,Z1,M1,tl1,L1,.block hb,r⟩
theorem s_mono {c} {Q':Ex→Tl→List LB→Prop} (h:VC N G c Q' tl L) (hq:∀ e tl L,Q' e tl L→Q e tl L):VC N G c Q tl L:=fun cx Z M tm m n hM hS =>
 let ⟨e,tm1,m1,n1,Z1,M1,tl1,L1,hb,h1,h2,h3,h4⟩:=h cx Z M tm m n hM hS
 ⟨e,tm1,m1,n1,Z1,M1,tl1,L1,hb,h1,h2,h3,hq _ _ _ h4⟩
theorem evB {M Z tm x b} (hS:Slots M Z tl tm) (h:evE tl x=some (.w (.bool b))):x.ev tm=.bool b:=evE_w hS h
theorem Fd {x a b} (hx:evE tl x=some (.w (.bool true))) (k:VC N G a Q tl L):VC N G (.cond x a b) Q tl L:=fun c Z M tm m n hM hS =>
 let ⟨e,tm1,m1,n1,Z1,M1,tl1,L1,hb,r⟩:=k c Z M tm m n hM hS
 ⟨e,tm1,m1,n1,Z1,M1,tl1,L1,.cond (evB hS hx) hb,r⟩
theorem Fi {x a b} (hx:evE tl x=some (.w (.bool false))) (k:VC N G b Q tl L):VC N G (.cond x a b) Q tl L:=fun c Z M tm m n hM hS =>
 let ⟨e,tm1,m1,n1,Z1,M1,tl1,L1,hb,r⟩:=k c Z M tm m n hM hS
 ⟨e,tm1,m1,n1,Z1,M1,tl1,L1,.cond (evB hS hx) hb,r⟩
theorem s_condB {x a b t} (hx:evE tl x=some (.w (.bool t))) (k1:t=true→VC N G a Q tl L) (k2:t=false→VC N G b Q tl L):VC N G (.cond x a b) Q tl L:=by
 cases t
 ·exact Fi hx (k2 rfl)
 ·exact Fd hx (k1 rfl)
theorem Ew {x a b} {p:Prop} [Decidable p] (hx:evE tl x=some (.w (.bool (decide p)))) (k1:p→VC N G a Q tl L) (k2:¬ p→VC N G b Q tl L):VC N G (.cond x a b) Q tl L:=
 s_condB hx (fun h=>k1 (by simpa using h)) (fun h=>k2 (by simpa using h))
theorem s_condN {x a b} {p:Prop} [Decidable p] (hx:evE tl x=some (.w (.bool (!decide p)))) (k1:¬ p→VC N G a Q tl L) (k2:p→VC N G b Q tl L):VC N G (.cond x a b) Q tl L:=
 s_condB hx (fun h=>k1 (by simpa using h)) (fun h=>k2 (by simpa using h))
end
def keepN (ds:List Nat):Tl→Option Tl
 | []=>some []
 | (i,v)::tl=>match keepN ds tl with
   | some r=>match ds.any (fun j=>Nat.beq i j) with
     | true=>some r
     | false=>some ((i,v)::r)
   | none=>none
theorem keepN_rel {ds:List Nat}:∀ {tl tl1:Tl},keepN ds tl=some tl1→∀ t v,look tl1 t=some v→look tl t=some v∧t∉ds
 | [],tl1,h,t,v,hv=>by simp [keepN] at h;subst h;cases hv
 | (i,u)::tl,tl1,h,t,v,hv=>by
   simp only[keepN] at h
   split at h
   ·rename_i r hr
    split at h
    ·rename_i hc
     cases h
     obtain⟨h1,h2⟩:=keepN_rel hr t v hv
     have hi:i∈ds:=by
      simp only[List.any_eq_true] at hc
      obtain⟨j,hj,e⟩:=hc
      rw[Nat.eq_of_beq_eq_true e];exact hj
     have:t≠i:=fun e=>h2 (by rw[e];exact hi)
     refine⟨?_,h2⟩
     simp only[look]
     rw[show Nat.beq t i=false from by cases e:Nat.beq t i with
      | true=>exact absurd (Nat.eq_of_beq_eq_true e) this
      | false=>rfl]
     exact h1
    ·rename_i hc
     cases h
     have hi:i∉ds:=fun hi=>by
      have:ds.any (fun j=>Nat.beq i j)=true:=List.any_eq_true.2 ⟨i,hi,Nat.beq_refl i⟩
      rw[this] at hc;cases hc
     simp only[look] at hv ⊢
     cases e:Nat.beq t i with
     | true =>
       rw[e] at hv
       exact⟨hv,by rw[Nat.eq_of_beq_eq_true e];exact hi⟩
     | false=>rw[e] at hv;exact keepN_rel hr t v hv
   ·cases h
def V.bel:Nat→Nat→V→Bool
 | 0,_,_=>false
 | fu+1,n,v=>match v with
   | .w _|.sl .. | .rp .. | .raw _=>true
   | .cp b _=>Nat.blt b n
   | .ap b ..=>Nat.blt b n
   | .ls b _=>Nat.blt b n
   | .agg cs=>cs.all (V.bel fu n)
   | .tup cs=>cs.all (V.bel fu n)
   | .fn _ cs=>cs.all (V.bel fu n)
theorem V.bel_rel {M Z n}:∀ {fu v x},RL M Z v x→V.bel fu n v=true→RL M (Z.take n) v x
 | 0,v,x,h,hb=>by cases hb
 | fu+1,v,x,h,hb=>by
   have key:∀ (b:Nat) p,Z[b]?=some p→Nat.blt b n=true→(Z.take n)[b]?=some p:=by
    intro b p hp hb
    have:b<n:=by rw[Nat.blt_eq] at hb;exact hb
    rw[List.getElem?_take_of_lt this];exact hp
   have all:∀ {cs:List V},cs.all (V.bel fu n)=true→∀ (i:Nat) u,cs[i]?=some u→V.bel fu n u=true:=by
    intro cs h i u hu
    exact List.all_eq_true.1 h u (List.mem_of_getElem? hu)
   cases v with
   | w v=>exact .fz (by cases h with|fz h=>exact h)
   | raw v=>exact .fz (by cases h with|fz h=>exact h)
   | sl k rows=>exact .fz h.sl_inv
   | rp row off=>exact .fz h.rp_inv
   | agg cs =>
     obtain⟨vs,rfl,hl,hh⟩:=h.agg_inv
     exact .agg hl fun i u y h1 h2=>V.bel_rel (hh i u y h1 h2) (all hb i u h1)
   | tup cs =>
     obtain⟨vs,rfl,hl,hh⟩:=h.tup_inv
     exact .tup hl fun i u y h1 h2=>V.bel_rel (hh i u y h1 h2) (all hb i u h1)
   | fn f cs =>
     obtain⟨vs,rfl,hl,hh⟩:=h.fn_inv
     exact .fn hl fun i u y h1 h2=>V.bel_rel (hh i u y h1 h2) (all hb i u h1)
   | cp b off =>
     cases h with
     | fz h=>cases h
     | cp hz hc=>exact .cp (key _ _ hz hb) hc
   | ap b len j off =>
     cases h with
     | fz h=>cases h
     | ap hz h1 h2 h3=>exact .ap (key _ _ hz hb) h1 h2 h3
     | apD hz h1=>exact .apD (key _ _ hz hb) h1
   | ls b len =>
     cases h with
     | fz h=>cases h
     | ls hz h1 h2 h3=>exact .ls (key _ _ hz hb) h1 h2 h3
     | lsD hz h1=>exact .lsD (key _ _ hz hb) h1
def LB.bel (n:Nat):LB→Bool
 | .cell row=>row.all (V.bel 6 n)
 | .arr ..=>true
 | .gone=>true
 | .dead=>true
structure Has (tl:Tl) (L:List LB) (S:Tl) (F:List LB):Prop where
 hs:∀ p,p∈S→look tl p.1=some p.2
 hl:L.take F.length=F
theorem lookV_mem:∀ {S:Tl} {t v},look S t=some v→(t,v)∈S
 | (i,u)::S,t,v,h=>by
   simp only[look] at h
   cases e:Nat.beq t i with
   | true =>
     rw[e] at h
     have:=Nat.eq_of_beq_eq_true e
     simp only[cond_true,Option.some.injEq] at h
     subst h;subst this;exact .head _
   | false=>rw[e] at h;exact .tail _ (lookV_mem h)
theorem look_append {S T:Tl} {t v} (h:look (S++T) t=some v):look S t=some v∨look T t=some v:=by
 induction S with
 | nil=>exact .inr h
 | cons p S ih =>
   obtain⟨i,u⟩:=p
   simp only[List.cons_append,look] at h ⊢
   cases e:Nat.beq t i with
   | true=>rw[e] at h;exact .inl h
   | false=>rw[e] at h;exact ih h
theorem s_loop {N0:Nat} {G:Prg} {tl:Tl} {L:List LB} {Q:Ex→Tl→List LB→Prop} {c:C} {ι:Type} (P:ι→Prop) (S:ι→Tl) (F:ι→List LB) (μ:ι→Nat) (N:Nat) (i0:ι) (hP:P i0) {tlk:Tl} (hk:keepN c.dsts tl=some tlk)
 (start:Has tl L (S i0) (F i0)) (hL:L.length=N) (hN:∀ i,P i→(F i).length=N) (hbel:∀ i,P i→(S i).all (fun p=>V.bel 6 N p.2)=true∧(F i).all (LB.bel N)=true)
 (round:∀ i,P i→VC (max N0 N) G c (fun e tl1 L1=>match e with
   | .normal=>∃ j,P j∧μ j<μ i∧Has tl1 L1 (S j) (F j)
   | e=>Q e tl1 L1) (S i++tlk) (F i)):VC N0 G (.loop c) Q tl L:=by
 have key:∀ k i,P i→μ i=k→∀ (cx:Cx N0) Z M tm m n,StM cx Z M (F i) m n→Slots M Z (S i) tm→Slots M Z tlk tm →
  ∃ e tm1 m1 n1 Z1 M1 tl1 L1,Big G cx.bs (.code (.loop c) tm) m n (.exit e tm1) m1 n1∧ExtN N0 Z M Z1 M1∧StM cx Z1 M1 L1 m1 n1∧Slots M1 Z1 tl1 tm1∧Q e tl1 L1:=by
  intro k
  induction k using Nat.strongRecOn with
  | _ k ih =>
    intro i hi hk' cx Z M tm m n hM hS hT
    obtain⟨e,tm1,m1,n1,Z1,M1,tl1,L1,hb,he,hM1,hS1,hq⟩:=round i hi (cx.up (Nat.le_max_left _ _)) Z M tm m n hM.up fun t v hv=>(look_append hv).elim (hS t v) (hT t v)
    have hM1:=hM1.down
    by_cases hn:e=.normal
    ·subst hn
     obtain⟨j,hj,hlt,hhas⟩:=hq
     have hNj:=hN j hj
     obtain⟨hb1,hb2⟩:=hbel j hj
     have hZl:Z1.length=L1.length:=hM1.lenZ
     have hZ0:Z.length=N:=by rw[hM.lenZ,hN i hi]
     have hsub:∀ (b:Nat) p,(Z1.take N)[b]?=some p→b<N∧Z1[b]?=some p:=by
      intro b p hp
      rw[List.getElem?_take] at hp
      split at hp
      ·exact⟨‹_›,hp⟩
      ·cases hp
     have hE:ExtV Z M (Z1.take N) M1:=⟨he.hM,fun b p hp=>by
      have hbN:b<N:=by rw[←hZ0];exact(List.getElem?_eq_some_iff.1 hp).1
      obtain⟨p1,h1,g⟩:=he.hZ b p (by omega) hp
      exact⟨p1,by rw[List.getElem?_take_of_lt hbN];exact h1,g⟩⟩
     have hFj:F j=L1.take N:=by rw[←hNj];exact hhas.hl.symm
     have hMj:StM cx (Z1.take N) M1 (F j) m1 n1:=by
      refine⟨hM1.hbs,hM1.hn,hM1.fresh,by rw[hFj,←hM1.hL,List.map_take],fun b x hb=>?_,hM1.h0,hM1.f0,hM1.hma,hM1.hbr,fun b a lb hb=>?_,fun b lb hb=>hM1.nl b lb (hsub _ _ hb).2,fun b b' a l1 l2 h1 h2=>hM1.inj b b' a l1 l2 (hsub _ _ h1).2 (hsub _ _ h2).2,fun b a lb hb=>hM1.lo b a lb (hsub _ _ hb).2⟩
      ·obtain⟨h1,h2,h3⟩:=hM1.hM b x hb
       exact⟨h1,h2,fun i lb e=>h3 i lb (hsub _ _ e).2⟩
      ·obtain⟨h0,h1⟩:=hsub _ _ hb
       obtain⟨g1,g2,g3⟩:=hM1.cell b a lb h1
       refine⟨g1,g2,g3.map rfl fun cells _ g4=>?_⟩
       cases lb with
       | arr k rows=>exact g4
       | gone=>exact g4.elim
       | dead=>exact g4.elim
       | cell row =>
         have hbl:LB.bel N (.cell row)=true:=by
          refine List.all_eq_true.1 hb2 _ ?_
          have:(F j)[b]?=some (.cell row):=by
           rw[hFj,←hM1.hL,←List.map_take,List.getElem?_map,hb];rfl
          exact List.mem_of_getElem? this
         refine⟨g4.1,fun i x y h2 h3=>V.bel_rel (g4.2 i x y h2 h3) (List.all_eq_true.1 hbl x (List.mem_of_getElem? h2))⟩
     have hSj:Slots M1 (Z1.take N) (S j) tm1:=fun t v hv=>by
      have hm:=lookV_mem hv
      exact V.bel_rel (hS1 t v (hhas.hs _ hm)) (List.all_eq_true.1 hb1 _ hm)
     have hTj:Slots M1 (Z1.take N) tlk tm1:=fun t v hv=>by
      have h1:=(hT t v hv).mono hE
      rw[Big.dsts hb t (keepN_rel hk t v hv).2];exact h1
     obtain⟨e2,tm2,m2,n2,Z2,M2,tl2,L2,hb2,he2,r⟩:=ih _ (hk' ▸ hlt) j hj rfl cx _ M1 tm1 m1 n1 hMj hSj hTj
     exact⟨e2,tm2,m2,n2,Z2,M2,tl2,L2,.loopN hb hb2,hE.trans he2,r⟩
    ·refine⟨e,tm1,m1,n1,Z1,M1,tl1,L1,.loopE hb hn,he.less (Nat.le_max_left _ _),hM1,hS1,?_⟩
     cases e <;> first|exact absurd rfl hn|exact hq
 intro cx Z M tm m n hM hS
 have hF:F i0=L:=by
  have:=start.hl
  rw[hN i0 hP,←hL,List.take_length] at this
  exact this.symm
 exact key _ i0 hP rfl cx Z M tm m n (by rw[hF];exact hM) (fun t v hv=>hS t v (start.hs _ (lookV_mem hv))) (fun t v hv=>hS t v (keepN_rel hk t v hv).1)
structure CV (G:Prg) (f:Nat) (vargs:List V) (post:V→Prop):Prop where
 run:∀ args bs m n Ma,Fresh m n→bs≤n→sub Ma m→Pt (RF Ma) vargs args →
 CallW G f args bs m n fun v m1 n1=>∃ u M1,RF M1 u v∧post u∧sub m m1∧sub M1 m1∧∀ b x,M1 b=some x→Ma b=some x∨n≤b
theorem CV.mono {G f vargs} {post post':V→Prop} (h:CV G f vargs post) (hp:∀ u,post u→post' u):CV G f vargs post':=⟨fun args bs m n Ma h1 h2 h3 h4 =>
 (h.run args bs m n Ma h1 h2 h3 h4).mono fun v m1 n1 ⟨u,M1,g1,g2,g3⟩=>⟨u,M1,g1,hp u g2,g3⟩⟩
def V.fzV:Nat→V→Bool
 | 0,_=>false
 | fu+1,v=>match v with
   | .w _|.sl .. | .rp .. | .raw _=>true
   | .agg cs=>cs.all (V.fzV fu)
   | .tup cs=>cs.all (V.fzV fu)
   | .fn _ cs=>cs.all (V.fzV fu)
   | _=>false
theorem V.fzV_rel {M Z}:∀ {fu v x},RL M Z v x→V.fzV fu v=true→RF M v x
 | 0,v,x,h,hb=>by cases hb
 | fu+1,v,x,h,hb=>by
   have all:∀ {cs:List V},cs.all (V.fzV fu)=true→∀ (i:Nat) u,cs[i]?=some u→V.fzV fu u=true:=by
    intro cs h i u hu
    exact List.all_eq_true.1 h u (List.mem_of_getElem? hu)
   cases v with
   | w v=>cases h with|fz h=>exact h
   | raw v=>cases h with|fz h=>exact h
   | sl k rows=>exact h.sl_inv
   | rp row off=>exact h.rp_inv
   | agg cs =>
     obtain⟨vs,rfl,hl,hh⟩:=h.agg_inv
     exact .agg hl fun i u y h1 h2=>V.fzV_rel (hh i u y h1 h2) (all hb i u h1)
   | tup cs =>
     obtain⟨vs,rfl,hl,hh⟩:=h.tup_inv
     exact .tup hl fun i u y h1 h2=>V.fzV_rel (hh i u y h1 h2) (all hb i u h1)
   | fn f cs =>
     obtain⟨vs,rfl,hl,hh⟩:=h.fn_inv
     exact .fn hl fun i u y h1 h2=>V.fzV_rel (hh i u y h1 h2) (all hb i u h1)
   | _=>cases hb
def V.flat:Nat→V→Bool
 | 0,_=>false
 | fu+1,v=>match v with
   | .w _|.raw _=>true
   | .agg cs=>cs.all (V.flat fu)
   | .tup cs=>cs.all (V.flat fu)
   | _=>false
theorem V.flat_rel {M M1}:∀ {fu v x},RF M v x→V.flat fu v=true→RF M1 v x
 | 0,v,x,h,hb=>by cases hb
 | fu+1,v,x,h,hb=>by
   have all:∀ {cs:List V},cs.all (V.flat fu)=true→∀ (i:Nat) u,cs[i]?=some u→V.flat fu u=true:=by
    intro cs h i u hu
    exact List.all_eq_true.1 h u (List.mem_of_getElem? hu)
   cases h with
   | w h=>exact .w h
   | raw h=>exact .raw h
   | agg hl hh=>exact .agg hl fun i u y h1 h2=>V.flat_rel (hh i u y h1 h2) (all hb i u h1)
   | tup hl hh=>exact .tup hl fun i u y h1 h2=>V.flat_rel (hh i u y h1 h2) (all hb i u h1)
   | _=>cases hb
def frs (f:V→Option (V×List (Nat×Nat))):List V→Option (List V×List (Nat×Nat))
 | []=>some ([],[])
 | v::l=>match f v,frs f l with
   | some (u,p),some (us,r)=>some (u::us,p++r)
   | _,_=>none
def fr (L:List LB):Nat→V→Option (V×List (Nat×Nat))
 | 0,_=>none
 | fu+1,v=>match v with
   | .w x=>some (.w x,[])
   | .sl k r=>some (.sl k r,[])
   | .rp r o=>some (.rp r o,[])
   | .raw x=>some (.raw x,[])
   | .agg cs=>match frs (fr L fu) cs with
     | some (us,p)=>some (.agg us,p)
     | none=>none
   | .tup cs=>match frs (fr L fu) cs with
     | some (us,p)=>some (.tup us,p)
     | none=>none
   | .fn f cs=>match frs (fr L fu) cs with
     | some (us,p)=>some (.fn f us,p)
     | none=>none
   | .cp b o=>match L[b]? with
     | some (.cell row)=>match frs (fr L fu) row with
       | some (us,p)=>some (.rp us o,p)
       | none=>none
     | _=>none
   | .ls b len=>match L[b]? with
     | some (.arr k rows)=>some (.sl k rows,[(rows.length,len)])
     | _=>none
   | .ap ..=>none
theorem frs_rel {R R':V→Value→Prop} {f:V→Option (V×List (Nat×Nat))} (hf:∀ v u p x,f v=some (u,p)→(∀ e,e∈p→e.1=e.2)→R v x→R' u x):∀ {l us p l'},frs f l=some (us,p)→(∀ e,e∈p→e.1=e.2)→Pt R l l'→Pt R' us l'
 | [],us,p,l',h,_,hp=>by simp [frs] at h;obtain⟨rfl,rfl⟩:=h;rw[hp.unnil];exact Pt.nil
 | v::l,us,p,l',h,ho,hp=>by
   obtain⟨x,r,rfl,h1,h2⟩:=hp.uncons
   simp only[frs] at h
   split at h
   ·rename_i u p1 us1 r1 e1 e2
    cases h
    exact Pt.cons (hf _ _ _ _ e1 (fun e he=>ho e (List.mem_append_left _ he)) h1) (frs_rel hf e2 (fun e he=>ho e (List.mem_append_right _ he)) h2)
   ·cases h
theorem fr_relM {N:Nat} {c:Cx N} {Z M L m n M'} {L':List LB} (hM:StM c Z M L m n) (hs:sub M M') (hL':∀ (i:Nat) lb,L'[i]?=some lb→lb≠.gone→L[i]?=some lb) (hz:∀ (i:Nat) a lb,L'[i]?=some lb→lb≠.gone→Z[i]?=some (some a,lb)→M' a=m a):∀ fu v u p x,fr L' fu v=some (u,p)→(∀ e,e∈p→e.1=e.2)→RL M Z v x→RF M' u x
 | 0,v,u,p,x,h,_,_=>by cases h
 | fu+1,v,u,p,x,h,ho,hr=>by
   have ih:=fr_relM hM hs hL' hz fu
   cases v with
   | w v=>cases h;obtain⟨rfl,hf⟩:=hr.w_inv;exact .w hf
   | sl k rows=>cases h;exact hr.sl_inv.mono hs
   | rp row off=>cases h;exact hr.rp_inv.mono hs
   | raw v=>cases h;obtain⟨rfl,hf⟩:=hr.raw_inv;exact .raw hf
   | agg cs =>
     simp only[fr] at h
     split at h
     ·rename_i us p1 e1
      cases h
      obtain⟨vs,rfl,hl,hh⟩:=hr.agg_inv
      have:=frs_rel (R:=RL M Z) (R':=RF M') ih e1 ho (l':=vs.toList) ⟨by simpa using hl,fun i x y h1 h2=>hh i x y h1 (by simpa using h2)⟩
      exact .agg (by simpa using this.1) fun i x y h1 h2=>this.2 i x y h1 (by simpa using h2)
     ·cases h
   | tup cs =>
     simp only[fr] at h
     split at h
     ·rename_i us p1 e1
      cases h
      obtain⟨vs,rfl,hl,hh⟩:=hr.tup_inv
      have:=frs_rel (R:=RL M Z) (R':=RF M') ih e1 ho (l':=vs.toList) ⟨by simpa using hl,fun i x y h1 h2=>hh i x y h1 (by simpa using h2)⟩
      exact .tup (by simpa using this.1) fun i x y h1 h2=>this.2 i x y h1 (by simpa using h2)
     ·cases h
   | fn f cs =>
     simp only[fr] at h
     split at h
     ·rename_i us p1 e1
      cases h
      obtain⟨vs,rfl,hl,hh⟩:=hr.fn_inv
      have:=frs_rel (R:=RL M Z) (R':=RF M') ih e1 ho (l':=vs.toList) ⟨by simpa using hl,fun i x y h1 h2=>hh i x y h1 (by simpa using h2)⟩
      exact .fn (by simpa using this.1) fun i x y h1 h2=>this.2 i x y h1 (by simpa using h2)
     ·cases h
   | cp b off =>
     simp only[fr] at h
     split at h
     ·rename_i row hb
      split at h
      ·rename_i us p1 e1
       cases h
       obtain⟨a,row',hz',rfl⟩:=hr.cp_inv
       obtain⟨a',ha⟩:=hM.getZ (hL' _ _ hb nofun)
       rw[hz'] at ha;cases ha
       obtain⟨_,_,cells,hm,hrel⟩:=hM.cell _ _ _ hz'
       have:=frs_rel (R:=RL M Z) (R':=RF M') ih e1 ho hrel
       have:=RF.rp (M:=M') (row:=us) (off:=off) (o:=0) (by rw[hz _ _ _ hb nofun hz'];exact hm) (by simpa using Nat.le_of_eq this.1) (fun j x y h1 h2=>this.2 j x y h1 (by simpa using h2))
       simpa using this
      ·cases h
     ·cases h
   | ls b len =>
     simp only[fr] at h
     split at h
     ·rename_i k rows hb
      cases h
      obtain⟨a,ha⟩:=hM.getZ (hL' _ _ hb nofun)
      have hl:rows.length=len:=ho (rows.length,len) (by simp)
      rw[hr.ls_inv ha hl,←hl]
      cases a with
      | none =>
        obtain⟨k',e⟩:=hM.nil _ _ ha
        cases e
        exact .sl (c:=0) (rows':=[]) (Nat.le_refl _) (fun h=>absurd rfl h) rfl (fun i r j x h=>by simp at h) (fun i r r' h=>by simp at h) (fun i r r' j x y h=>by simp at h)
      | some ad =>
        obtain⟨_,_,cells,hm,rows',rfl,hl',hall,hpt,hn⟩:=hM.cell _ _ _ ha
        refine .sl (rows':=rows') (Nat.le_refl _) (fun _=>⟨⟨rfl,rfl⟩,_,(by rw[show(adr (some ⟨ad,0,none⟩)).block=ad from rfl,hz _ _ _ hb nofun ha];exact hm),rfl,fun i r hi=>?_⟩) hl' hn (fun i r r' h1 h2=>(hpt i r r' h1 h2).1) fun i r r' j x y h1 h2 h3 h4=>((hpt i r r' h1 h2).2 j x y h3 h4).mono hs
        obtain⟨g1,g2⟩:=flat_row hall hi
        exact⟨hall r (List.mem_of_getElem? hi),by simpa[adr] using g1,by simpa[adr] using g2⟩
     ·cases h
   | ap b len j off=>cases h
theorem fr_rel {N:Nat} {c:Cx N} {Z M L m n M'} (hM:StM c Z M L m n) (hs:sub M M') (hz:∀ (i:Nat) a lb,Z[i]?=some (some a,lb)→M' a=m a):∀ fu v u p x,fr L fu v=some (u,p)→(∀ e,e∈p→e.1=e.2)→RL M Z v x→RF M' u x:=
 fr_relM hM hs (fun _ _ h _=>h) fun i a lb _ _ h=>hz i a lb h
def retV1 (tl:Tl) (L:List LB):RV→Option V
 | .tmp t=>look tl t
 | .cell t=>match look tl t with
   | some (.cp b off)=>match L[b]? with
     | some (.cell row)=>row[off]?
     | _=>none
   | _=>none
 | .celln t n=>match look tl t with
   | some (.cp b off)=>match L[b]? with
     | some (.cell row)=>match subN row off n with
       | some cs=>some (.agg cs)
       | none=>none
     | _=>none
   | _=>none
def retVs (tl:Tl) (L:List LB):List RV→Option (List V)
 | []=>some []
 | r::l=>match retV1 tl L r,retVs tl L l with
   | some v,some vs=>some (v::vs)
   | _,_=>none
def retV (tl:Tl) (L:List LB) (l:List RV):Option V:=match retVs tl L l with
 | some [v]=>some v
 | some vs=>some (.tup vs)
 | none=>none
theorem retV1_rel {N:Nat} {c:Cx N} {Z M L m n tl tm r u} (hM:StM c Z M L m n) (hS:Slots M Z tl tm) (h:retV1 tl L r=some u):∃ x,AL.retv1 tm m r=some x∧RL M Z u x:=by
 cases r with
 | tmp t=>exact⟨_,rfl,hS _ _ h⟩
 | cell t =>
   simp only[retV1] at h
   split at h
   ·rename_i b off ht
    split at h
    ·rename_i row hb
     obtain⟨a,row',hz,h1⟩:=(hS _ _ ht).cp_inv
     obtain⟨a',ha⟩:=hM.getZ hb
     rw[hz] at ha;cases ha
     obtain⟨_,_,cells,hm,hrel⟩:=hM.cell _ _ _ hz
     obtain⟨y,h2,h3⟩:=Pt.get hrel h
     exact⟨y,by simp [AL.retv1,h1,AL.rd,hm,h2],h3⟩
    ·cases h
   ·cases h
 | celln t k =>
   simp only[retV1] at h
   split at h
   ·rename_i b off ht
    split at h
    ·rename_i row hb
     split at h
     ·rename_i cs hcs
      cases h
      obtain⟨a,row',hz,h1⟩:=(hS _ _ ht).cp_inv
      obtain⟨a',ha⟩:=hM.getZ hb
      rw[hz] at ha;cases ha
      obtain⟨_,_,cells,hm,hrel⟩:=hM.cell _ _ _ hz
      obtain⟨h2,rfl⟩:=subN_inv hcs
      have hrel:Pt (RL M Z) row cells:=hrel
      have h3:=(hrel.drop off).take k
      have h4:=hrel.1
      refine⟨.agg ((cells.drop off).take k).toArray,?_,.agg (by simpa using h3.1) fun i u y e1 e2=>h3.2 i u y e1 (by simpa using e2)⟩
      simp only[AL.retv1,h1,AL.rdn,hm,Option.isSome_none,Bool.false_eq_true,if_false]
      rw[if_pos (by omega)]
     ·cases h
    ·cases h
   ·cases h
theorem retVs_rel {N:Nat} {c:Cx N} {Z M L m n tl tm} (hM:StM c Z M L m n) (hS:Slots M Z tl tm):∀ {l us},retVs tl L l=some us→∃ xs,AL.retvs tm m l=some xs∧Pt (RL M Z) us xs
 | [],us,h=>by simp [retVs] at h;subst h;exact⟨[],rfl,Pt.nil⟩
 | r::l,us,h=>by
   simp only[retVs] at h
   split at h
   ·rename_i v vs h1 h2
    cases h
    obtain⟨x,g1,g2⟩:=retV1_rel hM hS h1
    obtain⟨xs,g3,g4⟩:=retVs_rel hM hS h2
    exact⟨x::xs,by simp only[AL.retvs,g1,g3],Pt.cons g2 g4⟩
   ·cases h
theorem retV_rel {N:Nat} {c:Cx N} {Z M L m n tl tm l u} (hM:StM c Z M L m n) (hS:Slots M Z tl tm) (h:retV tl L l=some u):∃ x,AL.retv l tm m=some x∧RL M Z u x:=by
 unfold retV at h
 split at h
 ·rename_i v hv
  cases h
  obtain⟨xs,g1,g2⟩:=retVs_rel hM hS hv
  obtain⟨x,r,rfl,g3,g4⟩:=g2.uncons
  rw[g4.unnil] at g1
  exact⟨x,by simp only[AL.retv,g1],g3⟩
 ·rename_i vs hne hv
  cases h
  obtain⟨xs,g1,g2⟩:=retVs_rel hM hS hv
  refine⟨.tuple xs.toArray,?_,.tup (by simpa using g2.1) fun i x y h1 h2=>g2.2 i x y h1 (by simpa using h2)⟩
  simp only[AL.retv,g1]
  split
  ·rename_i y e
   cases e
   exfalso
   have:=g2.1
   cases vs with
   | nil=>simp at this
   | cons v vs =>
     cases vs with
     | nil=>exact hne v rfl
     | cons=>simp at this
  ·rename_i e;cases e;rfl
  ·rename_i e;cases e
 ·cases h
inductive Wk:V→V→Prop
 | refl (v):Wk v v
 | nil (k c):Wk (.w (.slice none 0 c)) (.sl k [])
 | agg {l r:List V} (hl:l.length=r.length) (h:∀ (i:Nat) a b,l[i]?=some a→r[i]?=some b→Wk a b):Wk (.agg l) (.agg r)
 | tup {l r:List V} (hl:l.length=r.length) (h:∀ (i:Nat) a b,l[i]?=some a→r[i]?=some b→Wk a b):Wk (.tup l) (.tup r)
theorem len_get {α γ:Type} {l:List α} {r:List γ} (hl:l.length=r.length) {i:Nat} {b:γ} (h:r[i]?=some b):∃ a,l[i]?=some a:=by
 have hi:=(List.getElem?_eq_some_iff.1 h).1
 exact⟨l[i]'(by omega),List.getElem?_eq_getElem (by omega)⟩
theorem Wk.rel {M:Mem} {v u:V} (h:Wk v u):∀ x,RF M v x→RF M u x:=by
 induction h with
 | refl v=>exact fun x h=>h
 | nil k c =>
   intro x h
   cases h with
   | w h=>exact .sl (c:=c) (rows':=[]) (Nat.zero_le _) (fun h=>absurd rfl h) rfl (fun i r j x h=>by simp at h) (fun i r r' h=>by simp at h) (fun i r r' j x y h=>by simp at h)
 | agg hl _ ih =>
   intro x h
   cases h with
   | agg hl' hh =>
     refine .agg (by omega) fun i u y h1 h2=>?_
     obtain⟨a,h3⟩:=len_get hl h1
     exact ih i a u h3 h1 _ (hh i a y h3 h2)
 | tup hl _ ih =>
   intro x h
   cases h with
   | tup hl' hh =>
     refine .tup (by omega) fun i u y h1 h2=>?_
     obtain⟨a,h3⟩:=len_get hl h1
     exact ih i a u h3 h1 _ (hh i a y h3 h2)
theorem Wk.relL {M:Mem} {Z:Zl} {v u:V} (h:Wk v u):∀ x,RL M Z v x→RL M Z u x:=by
 induction h with
 | refl v=>exact fun x h=>h
 | nil k c =>
   intro x h
   cases h with
   | fz h=>exact .fz ((Wk.nil k c).rel _ h)
 | agg hl _ ih =>
   intro x h
   obtain⟨vs,rfl,hl',hh⟩:=h.agg_inv
   refine .agg (by omega) fun i u y h1 h2=>?_
   obtain⟨a,h3⟩:=len_get hl h1
   exact ih i a u h3 h1 _ (hh i a y h3 h2)
 | tup hl _ ih =>
   intro x h
   obtain⟨vs,rfl,hl',hh⟩:=h.tup_inv
   refine .tup (by omega) fun i u y h1 h2=>?_
   obtain⟨a,h3⟩:=len_get hl h1
   exact ih i a u h3 h1 _ (hh i a y h3 h2)
def Wks:List V→List V→Prop
 | [],[]=>True
 | a::l,b::r=>Wk a b∧Wks l r
 | _,_=>False
theorem Wks.pt:∀ {l r:List V},Wks l r→l.length=r.length∧∀ (i:Nat) a b,l[i]?=some a→r[i]?=some b→Wk a b
 | [],[],_=>⟨rfl,fun i a b h=>by simp at h⟩
 | a::l,b::r,h=>by
   obtain⟨h1,h2⟩:=Wks.pt h.2
   refine⟨by simp [h1],fun i x y hx hy=>?_⟩
   cases i with
   | zero=>simp at hx hy;subst hx hy;exact h.1
   | succ i=>exact h2 i x y (by simpa using hx) (by simpa using hy)
def tlOf:Nat→List V→Tl
 | _,[]=>[]
 | i,v::l=>(i,v)::tlOf (i+1) l
theorem tlOf_rel {R:V→Value→Prop}:∀ {l l' i t v},Pt R l l'→look (tlOf i l) t=some v→i≤t∧∃ x,l'[t-i]?=some x∧R v x
 | [],l',i,t,v,hp,h=>by cases h
 | u::l,l',i,t,v,hp,h=>by
   obtain⟨x,r,rfl,h1,h2⟩:=hp.uncons
   simp only[tlOf,look] at h
   cases e:Nat.beq t i with
   | true =>
     rw[e] at h
     have:=Nat.eq_of_beq_eq_true e
     simp only[cond_true,Option.some.injEq] at h
     subst h;subst this
     exact⟨Nat.le_refl _,x,by simp,h1⟩
   | false =>
     rw[e] at h
     obtain⟨g1,y,g2,g3⟩:=tlOf_rel h2 h
     refine⟨by omega,y,?_,g3⟩
     have:t-i=(t-(i+1))+1:=by omega
     rw[this];simpa using g2
def Ret (res:List RV) (post:V→Prop) (e:Ex) (tl:Tl) (L:List LB):Prop:=
 (e=.normal∨e=.ret)∧∃ v u p u',retV tl L res=some v∧fr L 6 v=some (u,p)∧(∀ e,e∈p→e.1=e.2)∧Wk u u'∧post u'
theorem cv_intro {G f fn vargs post} (hG:G f=some fn) (h:VC 0 G fn.body (Ret fn.res post) (tlOf 0 vargs) []):CV G f vargs post:=by
 refine⟨fun args bs m n Ma hF hb hs hp=>?_⟩
 have hM:StM (N:=0) ⟨m,Ma,n,bs,[],[],Nat.le_refl _⟩ [] Ma [] m n:=⟨hb,Nat.le_refl _,hF,rfl,fun b x hx=>⟨hs b x hx,.inl hx,fun i lb e=>by simp at e⟩,sub_refl _,hF,sub_refl _,(fun a ha=>by simp at ha),fun i a lb e=>by simp at e,fun i lb e=>by simp at e,fun i j a l1 l2 e=>by simp at e,fun i a lb e=>by simp at e⟩
 have hS:Slots Ma [] (tlOf 0 vargs) (tm0 args):=fun t v hv=>by
  obtain⟨_,x,h1,h2⟩:=tlOf_rel hp hv
  have:tm0 args t=x:=by simp only[tm0,List.getD];rw[show t=t-0 from rfl,h1];rfl
  rw[this];exact .fz h2
 obtain⟨e,tm1,m1,n1,Z1,M1,tl1,L1,hb1,he,hM1,hS1,hex,v,u0,p,u,h1,h2,h3,hwk,h4⟩:=h _ _ _ _ _ _ hM hS
 obtain⟨x,g1,g2⟩:=retV_rel hM1 hS1 h1
 refine⟨x,m1,n1,.call hG hb1 hex g1,u,fun b=>if Ma b=none∧b<n then none else m1 b,?_,h4,hM1.h0,fun b y hy=>?_,fun b y hy=>?_⟩
 ·refine hwk.rel _ (fr_rel hM1 (fun b y hy=>?_) (fun i a lb hz=>?_) 6 v u0 p x h2 h3 g2)
  ·obtain⟨k1,k2,_⟩:=hM1.hM b y hy
   show(if Ma b=none∧b<n then none else m1 b)=some y
   rw[if_neg (fun hc=>by
    rcases k2 with k2|k2
    ·have k2:Ma b=some y:=k2
     rw[hc.1] at k2;cases k2
    ·exact absurd hc.2 (Nat.not_lt.2 k2))]
   exact k1
  ·have:n≤a:=by
    rcases(hM1.cell i a lb hz).1 with h|h
    ·exact h
    ·simp at h
   show(if Ma a=none∧a<n then none else m1 a)=m1 a
   rw[if_neg (fun hc=>absurd hc.2 (Nat.not_lt.2 this))]
 ·simp only at hy
  split at hy
  ·cases hy
  ·exact hy
 ·simp only at hy
  split at hy
  ·cases hy
  ·rename_i hn
   by_cases hbn:b<n
   ·left
    cases hmb:Ma b with
    | none=>exact absurd ⟨hmb,hbn⟩ hn
    | some z=>rw[←hy,hM1.h0 b z (hs b z hmb)]
   ·right;omega
end Go.Proofs.YtoppcdecolponaaGreat.AL
namespace Go.Proofs.YtoppcdecolponaaGreat.AL
open Go
set_option linter.unusedVariables false
set_option linter.unusedSimpArgs false
section
variable {N : Nat} {G : Prg} {tl : Tl} {L : List LB}
theorem call_after {N:Nat} {c:Cx N} {Z M m n} (hM:StM c Z M L m n) {m1:Mem} {n1:Nat} (hn:n≤n1) (hf:Fresh m1 n1) (hs:sub m m1) (hd:∀ b,b<n→m b=none→m1 b=none) {M1:Mem} (hs1:sub M1 m1) (hp:∀ b x,M1 b=some x→M b=some x∨n≤b) :
 ∃ M2,sub M1 M2∧ExtV Z M Z M2∧StM c Z M2 L m1 n1:=by
 refine⟨fun b=>if(M b).isSome then M b else M1 b,fun b x hb=>?_,?_⟩
 ·simp only
  split
  ·rename_i h
   obtain⟨y,hy⟩:=Option.isSome_iff_exists.1 h
   have h1:=hs b y (hM.hM b y hy).1
   have h2:=hs1 b x hb
   rw[h1] at h2
   rw[hy,h2]
  ·exact hb
 ·have hsub:sub M (fun b=>if(M b).isSome then M b else M1 b):=fun b x hb=>by
   show(if(M b).isSome then M b else M1 b)=some x
   rw[hb];rfl
  have hE:ExtV Z M Z (fun b=>if(M b).isSome then M b else M1 b):=⟨hsub,fun b p h=>⟨p,h,grow.refl p⟩⟩
  refine⟨hE,⟨hM.hbs,by have:=hM.hn;omega,hf,hM.hL,fun b x hb=>?_,sub_trans hM.h0 hs,hM.f0,sub_trans hM.hma hsub,hM.hbr,fun i a lb hi=>?_,hM.nl,hM.inj,hM.lo⟩⟩
  ·have hb:(if(M b).isSome then M b else M1 b)=some x:=hb
   split at hb
   ·obtain⟨h1,h2,h3⟩:=hM.hM b x hb
    exact⟨hs _ _ h1,h2,h3⟩
   ·rename_i hno
    rcases hp b x hb with h|h
    ·rw[h] at hno;exact absurd rfl hno
    ·refine⟨hs1 _ _ hb,.inr (by have:=hM.hn;omega),fun i lb e=>?_⟩
     have:=(hM.cell _ _ _ e).2.1
     omega
  ·obtain⟨g1,g2,g3⟩:=hM.cell i a lb hi
   refine⟨g1,by omega,g3.mono hE ?_⟩
   cases e:m a with
   | none=>exact hd a g2 e
   | some x=>exact hs _ _ e
theorem call_plain {f us post q} {args:List Value} {N:Nat} {c:Cx N} {Z M m n} (hM:StM c Z M L m n) (ha:Pt (RL M Z) us args) (hz:us.all (V.fzV 6)=true) (hc:CV G f us post) :
 ∃ v m1 n1 M2 u,Big G (if q=true then n else c.bs) (.call f args) m n (.ret v) m1 n1∧ExtV Z M Z M2∧StM c Z M2 L m1 n1∧RL M2 Z u v∧post u:=by
 have hp:Pt (RF M) us args:=⟨ha.1,fun i x y h1 h2=>V.fzV_rel (ha.2 i x y h1 h2) (List.all_eq_true.1 hz x (List.mem_of_getElem? h1))⟩
 have hbs:(if q=true then n else c.bs)≤n:=by
  have h1:=hM.hbs;have h2:=hM.hn
  split <;> omega
 obtain⟨v,m1,n1,hb,u,M1,g1,g2,g3,g4,g5⟩:=hc.run args _ m n M hM.fresh hbs hM.subM hp
 obtain⟨hn,hf⟩:=hb.fresh hM.fresh
 obtain⟨M2,k1,k2,k3⟩:=call_after hM hn hf g3 hb.dom g4 g5
 exact⟨v,m1,n1,M2,u,hb,k2,k3,.fz (g1.mono k1),g2⟩
theorem call_local {f us us' p post q} {args:List Value} {N:Nat} {c:Cx N} {Z M m n} (hM:StM c Z M L m n) (ha:Pt (RL M Z) us args) (hz:frs (fr L 6) us=some (us',p)) (ho:∀ e,e∈p→e.1=e.2) (hc:CV G f us' post) (hfl:∀ u,post u→V.flat 6 u=true) :
 ∃ v m1 n1 M2 u,Big G (if q=true then n else c.bs) (.call f args) m n (.ret v) m1 n1∧ExtV Z M Z M2∧StM c Z M2 L m1 n1∧RL M2 Z u v∧post u:=by
 have hp:Pt (RF m) us' args:=frs_rel (R:=RL M Z) (fr_rel hM hM.subM (fun _ _ _ _=>rfl) 6) hz ho ha
 have hbs:(if q=true then n else c.bs)≤n:=by
  have h1:=hM.hbs;have h2:=hM.hn
  split <;> omega
 obtain⟨v,m1,n1,hb,u,M1,g1,g2,g3,g4,g5⟩:=hc.run args _ m n m hM.fresh hbs (sub_refl _) hp
 obtain⟨hn,hf⟩:=hb.fresh hM.fresh
 obtain⟨M2,k1,k2,k3⟩:=call_after (M1:=fun _=>none) hM hn hf g3 hb.dom (fun b x h=>by cases h) (fun b x h=>by cases h)
 exact⟨v,m1,n1,M2,u,hb,k2,k3,.fz (V.flat_rel g1 (hfl u g2)),g2⟩
variable {K : Tl → List LB → Prop} {l : List IOp} {q : Bool} {d : Nat}
theorem call_step {o:O} {f:Nat} {post:V→Prop} (k:∀ u,post u→VO N G l K ((d,u)::tl) L)
 (h:∀ (c:Cx N) Z M tm m n,StM c Z M L m n→Slots M Z tl tm→∃ args,o.callee tm=some (f,args)∧∃ v m1 n1 M2 u,Big G (if q=true then n else c.bs) (.call f args) m n (.ret v) m1 n1∧ExtV Z M Z M2∧StM c Z M2 L m1 n1∧RL M2 Z u v∧post u) :
 VO N G (⟨some d,o,none,q⟩::l) K tl L:=by
 intro c Z M tm m n hM hS
 obtain⟨args,hc,v,m1,n1,M2,u,hb,he,hM2,hr,hp⟩:=h c Z M tm m n hM hS
 obtain⟨tm2,m2,n2,Z2,M3,tl2,L2,hb2,he2,r⟩:=k u hp c Z M2 (upd tm d v) m1 n1 hM2 ((hS.mono he).put hr)
 exact⟨tm2,m2,n2,Z2,M3,tl2,L2,op_run (o:=⟨some d,o,none,q⟩) rfl (.inr ⟨f,args,hc,hb⟩) hb2,he.trans he2,r⟩
theorem s_callP {f es us} {post:V→Prop} (ha:evEs tl es=some us) (hz:us.all (V.fzV 6)=true) (hc:CV G f us post) (k:∀ u,post u→VO N G l K ((d,u)::tl) L):VO N G (⟨some d,.call f es,none,q⟩::l) K tl L:=
 call_step k fun c Z M tm m n hM hS=>⟨_,rfl,call_plain hM (evEs_rel hS ha) hz hc⟩
theorem Ev {f es us u} (ha:evEs tl es=some us) (hz:us.all (V.fzV 6)=true) (hc:CV G f us (fun v=>v=u)) (k:VO N G l K ((d,u)::tl) L):VO N G (⟨some d,.call f es,none,q⟩::l) K tl L:=
 s_callP ha hz hc fun u' e=>by cases e;exact k
theorem s_callLP {f es us us' p} {post:V→Prop} (ha:evEs tl es=some us) (hz:frs (fr L 6) us=some (us',p)) (ho:∀ e,e∈p→e.1=e.2) (hc:CV G f us' post) (hfl:∀ u,post u→V.flat 6 u=true) (k:∀ u,post u→VO N G l K ((d,u)::tl) L):VO N G (⟨some d,.call f es,none,q⟩::l) K tl L:=
 call_step k fun c Z M tm m n hM hS=>⟨_,rfl,call_local hM (evEs_rel hS ha) hz ho hc hfl⟩
theorem s_callL {f es us us' p u} (ha:evEs tl es=some us) (hz:frs (fr L 6) us=some (us',p)) (ho:∀ e,e∈p→e.1=e.2) (hc:CV G f us' (fun v=>v=u)) (hfl:V.flat 6 u=true) (k:VO N G l K ((d,u)::tl) L):VO N G (⟨some d,.call f es,none,q⟩::l) K tl L:=
 s_callLP ha hz ho hc (fun u' e=>by cases e;exact hfl) fun u' e=>by cases e;exact k
theorem calli_args {M Z tm} {f:E} {g:Nat} {caps us:List V} {es:List E} (hS:Slots M Z tl tm) (hf:evE tl f=some (.fn g caps)) (ha:evEs tl es=some us):∃ args,O.callee tm (.calli f es)=some (g,args)∧Pt (RL M Z) (us++caps) args:=by
 obtain⟨vs,e,h1,h2⟩:=(evE_rel hS hf).fn_inv
 exact⟨(es.map (·.ev tm))++vs.toList,by simp only[O.callee,e];simp,(evEs_rel hS ha).append ⟨by simpa using h1,fun i x y g1 g2=>h2 i x y g1 (by simpa using g2)⟩⟩
theorem s_calliP {f es g caps us} {post:V→Prop} (hf:evE tl f=some (.fn g caps)) (ha:evEs tl es=some us) (hz:(us++caps).all (V.fzV 6)=true) (hc:CV G g (us++caps) post) (k:∀ u,post u→VO N G l K ((d,u)::tl) L):VO N G (⟨some d,.calli f es,none,q⟩::l) K tl L:=
 call_step k fun c Z M tm m n hM hS=>let ⟨args,h1,h2⟩:=calli_args hS hf ha;⟨args,h1,call_plain hM h2 hz hc⟩
theorem s_calli {f es g caps us u} (hf:evE tl f=some (.fn g caps)) (ha:evEs tl es=some us) (hz:(us++caps).all (V.fzV 6)=true) (hc:CV G g (us++caps) (fun v=>v=u)) (k:VO N G l K ((d,u)::tl) L):VO N G (⟨some d,.calli f es,none,q⟩::l) K tl L:=
 s_calliP hf ha hz hc fun u' e=>by cases e;exact k
theorem s_nil (i k:Nat) {Q:Ex→Tl→List LB→Prop} {c:C} {L1 b a c'} (hi:look tl i=some (.w (.slice a 0 c'))) (ha:a=none∧c'=0) (hL:pushN L (.arr k [])=some (L1,b)) (h:VC N G c Q ((i,.ls b 0)::tl) L1):VC N G c Q tl L:=by
 obtain⟨rfl,rfl⟩:=ha
 intro cx Z M tm m n hM hS
 have:=pushN_inv hL;cases this
 have hlt:∀ (i:Nat) p,Z[i]?=some p→i<Z.length:=fun i p hp=>(List.getElem?_eq_some_iff.1 hp).1
 have hget:∀ (i:Nat) p,(Z++[((none:Option Nat),LB.arr k [])])[i]?=some p→Z[i]?=some p∨(i=Z.length∧p=(none,.arr k [])):=by
  intro i p hp
  rw[List.getElem?_append] at hp
  split at hp
  ·exact .inl hp
  ·rename_i hi
   rw[List.getElem?_singleton] at hp
   split at hp
   ·cases hp;exact .inr ⟨by omega,rfl⟩
   ·cases hp
 have hE:ExtV Z M (Z++[(none,.arr k [])]) M:=⟨sub_refl _,fun b p hp=>⟨p,by rw[List.getElem?_append_left (hlt b p hp)];exact hp,grow.refl p⟩⟩
 have hZ:(Z++[((none:Option Nat),LB.arr k [])])[L.length]?=some (none,.arr k []):=by
  rw[←hM.lenZ,List.getElem?_append_right (Nat.le_refl _)];simp
 have hM1:StM cx (Z++[(none,.arr k [])]) M (L++[.arr k []]) m n:=by
  refine⟨hM.hbs,hM.hn,hM.fresh,by simp [hM.hL],fun b x hb=>?_,hM.h0,hM.f0,hM.hma,hM.hbr,fun j a lb hj=>?_,fun j lb hj=>?_,fun i j a l1 l2 h1 h2=>?_,fun j a lb hj=>?_⟩
  ·obtain⟨h1,h2,h3⟩:=hM.hM b x hb
   refine⟨h1,h2,fun j lb e=>?_⟩
   rcases hget j _ e with e1|⟨_,e1⟩
   ·exact h3 j lb e1
   ·cases e1
  ·rcases hget j _ hj with e1|⟨_,e1⟩
   ·obtain⟨h1,h2,h3⟩:=hM.cell j a lb e1
    exact⟨h1,h2,h3.mono hE rfl⟩
   ·cases e1
  ·rcases hget j _ hj with e1|⟨_,e1⟩
   ·exact hM.nl j lb e1
   ·cases e1;exact .inr ⟨k,rfl⟩
  ·rcases hget i _ h1 with e1|⟨_,e1⟩ <;> rcases hget j _ h2 with e2|⟨_,e2⟩
   ·exact hM.inj i j a l1 l2 e1 e2
   ·cases e2
   ·cases e1
   ·cases e1
  ·rcases hget j _ hj with e1|⟨_,e1⟩
   ·exact hM.lo j a lb e1
   ·cases e1
 have hS1:Slots M (Z++[(none,.arr k [])]) ((i,.ls L.length 0)::tl) tm:=by
  intro t u hu
  simp only[look] at hu
  cases e:Nat.beq t i with
  | true =>
    rw[e] at hu
    have:=Nat.eq_of_beq_eq_true e
    simp only[cond_true,Option.some.injEq] at hu
    subst hu;subst this
    have hv:=(hS _ _ hi).w_inv.1
    exact .ls hZ (Nat.le_refl _) (by rw[hv];rfl) fun _=>hv
  | false=>rw[e] at hu;exact(hS t u hu).mono hE
 obtain⟨e,tm1,m1,n1,Z1,M1,tl1,L1,hb,he,r⟩:=h cx _ M tm m n hM1 hS1
 exact⟨e,tm1,m1,n1,Z1,M1,tl1,L1,hb,hE.trans he,r⟩
theorem s_iaM {α:Type} {r:α→List V} {xs:List α} {x i k t j} (hx:evE tl x=some (.sl k (xs.map r))) (hi:evE tl i=some (.w (.int t j))) (hb:0≤j∧j<xs.length)
 (h:∀ y,xs[j.toNat]?=some y→VO N G l K ((d,.rp (r y) 0)::tl) L):VO N G (⟨some d,.ia k x i,none,q⟩::l) K tl L:=by
 have hj:j.toNat<xs.length:=by omega
 have hy:xs[j.toNat]?=some xs[j.toNat]:=List.getElem?_eq_getElem hj
 exact Fa (o_ia (row:=r xs[j.toNat]) hx hi (by simpa using hb) (by rw[List.getElem?_map,hy];rfl)) (h _ hy)
theorem o_lenM {α:Type} {r:α→List V} {xs:List α} {x k} (hx:evE tl x=some (.sl k (xs.map r))):OpV G q (.len x) tl L (some (.w (.int .i64 xs.length))) L:=by
 have:=o_len (G:=G) (q:=q) (L:=L) hx
 rwa [List.length_map] at this
end
def HasS (tl:Tl):Tl→Prop
 | []=>True
 | (i,v)::S=>look tl i=some v∧HasS tl S
theorem HasS.mem {tl:Tl}:∀ {S:Tl},HasS tl S→∀ p,p∈S→look tl p.1=some p.2
 | (i,v)::S,h,p,hp=>by
   simp only[List.mem_cons] at hp
   rcases hp with rfl|hp
   ·exact h.1
   ·exact HasS.mem h.2 p hp
theorem hasOf {tl:Tl} {L:List LB} {S:Tl} {F:List LB} (h:HasS tl S) (hl:L.take F.length=F):Has tl L S F:=⟨h.mem,hl⟩
theorem ret_leaf {res post e tl L v u} (he:e=.normal∨e=.ret) (h1:retV tl L res=some v) (h2:fr L 6 v=some (u,[])) (h:post u):Ret res post e tl L:=⟨he,v,u,[],u,h1,h2,fun e he=>by simp at he,.refl _,h⟩
theorem nnp {p:Prop} [Decidable p]:¬¬p↔p:=Decidable.not_not
theorem Fq {res post tl L v u} (h1:retV tl L res=some v) (h2:fr L 6 v=some (u,[])) (h:post u):Ret res post .ret tl L:=ret_leaf (.inr rfl) h1 h2 h
theorem Ef {res tl L v b b'} (h1:retV tl L res=some v) (h2:fr L 6 v=some (.w (.bool b),[])) (h:b=b'):Ret res (fun r=>r=.w (.bool b')) .ret tl L:=ret_leaf (.inr rfl) h1 h2 (congrArg (fun b=>V.w (.bool b)) h)
theorem Fe {res tl L v b b'} (h1:retV tl L res=some v) (h2:fr L 6 v=some (.w (.int .i64 b),[])) (h:b=b'):Ret res (fun r=>r=.w (.int .i64 b')) .ret tl L:=ret_leaf (.inr rfl) h1 h2 (congrArg (fun b=>V.w (.int .i64 b)) h)
theorem ret_leafA {res post e tl L v u a b} (he:e=.normal∨e=.ret) (h1:retV tl L res=some v) (h2:fr L 6 v=some (u,[(a,b)])) (hab:a=b) (h:post u):Ret res post e tl L:=⟨he,v,u,_,u,h1,h2,fun e he=>by simp at he;subst he;exact hab,.refl _,h⟩
theorem ret_leafW {res post e tl L v u u'} (he:e=.normal∨e=.ret) (h1:retV tl L res=some v) (h2:fr L 6 v=some (u,[])) (hw:Wk u u') (h:post u'):Ret res post e tl L:=⟨he,v,u,[],u',h1,h2,fun e he=>by simp at he,hw,h⟩
section
variable {N : Nat} {G : Prg} {tl : Tl} {L : List LB} {Q : Ex → Tl → List LB → Prop}
theorem s_condNB {x a b t} (hx:evE tl x=some (.w (.bool (!t)))) (k1:t=false→VC N G a Q tl L) (k2:t=true→VC N G b Q tl L):VC N G (.cond x a b) Q tl L:=
 s_condB hx (fun h=>k1 (by simpa using h)) (fun h=>k2 (by simpa using h))
theorem s_gNT {d o q l g t} {K:Tl→List LB→Prop} (hg:look tl g=some (.w (.bool (!t)))) (k1:t=false→VO N G (⟨d,o,none,q⟩::l) K ((g,.w (.bool true))::tl) L)
 (k2:t=true→VO N G (⟨d,o,some (g,true),q⟩::l) K ((g,.w (.bool false))::tl) L):VO N G (⟨d,o,some (g,true),q⟩::l) K tl L:=
 s_gB hg (fun h=>k1 (by simpa using h)) (fun h=>k2 (by simpa using h))
theorem s_gNF {d o q l g t} {K:Tl→List LB→Prop} (hg:look tl g=some (.w (.bool (!t)))) (k1:t=true→VO N G (⟨d,o,none,q⟩::l) K ((g,.w (.bool false))::tl) L)
 (k2:t=false→VO N G (⟨d,o,some (g,false),q⟩::l) K ((g,.w (.bool true))::tl) L):VO N G (⟨d,o,some (g,false),q⟩::l) K tl L:=
 s_gB hg (fun h=>k1 (by simpa using h)) (fun h=>k2 (by simpa using h))
theorem s_gNDT {d o q l g} {p:Prop} [Decidable p] {K:Tl→List LB→Prop} (hg:look tl g=some (.w (.bool (!decide p)))) (k1:¬ p→VO N G (⟨d,o,none,q⟩::l) K ((g,.w (.bool true))::tl) L)
 (k2:p→VO N G (⟨d,o,some (g,true),q⟩::l) K ((g,.w (.bool false))::tl) L):VO N G (⟨d,o,some (g,true),q⟩::l) K tl L:=
 s_gB hg (fun h=>k1 (by simpa using h)) (fun h=>k2 (by simpa using h))
theorem s_gNDF {d o q l g} {p:Prop} [Decidable p] {K:Tl→List LB→Prop} (hg:look tl g=some (.w (.bool (!decide p)))) (k1:p→VO N G (⟨d,o,none,q⟩::l) K ((g,.w (.bool false))::tl) L)
 (k2:¬ p→VO N G (⟨d,o,some (g,false),q⟩::l) K ((g,.w (.bool true))::tl) L):VO N G (⟨d,o,some (g,false),q⟩::l) K tl L:=
 s_gB hg (fun h=>k1 (by simpa using h)) (fun h=>k2 (by simpa using h))
end
section
variable {N : Nat} {G : Prg} {tl : Tl} {L : List LB} {Q : Ex → Tl → List LB → Prop}
def seqQ (N:Nat) (G:Prg) (b:C) (Q:Ex→Tl→List LB→Prop):Ex→Tl→List LB→Prop:=fun e tl L=>match e with
 | .normal=>VC N G b Q tl L
 | e=>Q e tl L
def blkQ (i:Nat) (Q:Ex→Tl→List LB→Prop):Ex→Tl→List LB→Prop:=fun e=>Q (e.out i)
def loopQ (R:Tl→List LB→Prop) (Q:Ex→Tl→List LB→Prop):Ex→Tl→List LB→Prop:=fun e tl L=>match e with
 | .normal=>R tl L
 | e=>Q e tl L
theorem Eu {b} (h:VC N G b Q tl L):seqQ N G b Q .normal tl L:=h
theorem q_seqX {b i} (h:Q (.exit i) tl L):seqQ N G b Q (.exit i) tl L:=h
theorem Ep {b} (h:Q .ret tl L):seqQ N G b Q .ret tl L:=h
theorem Fb {i} (h:Q .normal tl L):blkQ i Q .normal tl L:=h
theorem Fc {i} (h:Q .ret tl L):blkQ i Q .ret tl L:=h
theorem q_blkH {i} (h:Q .normal tl L):blkQ i Q (.exit i) tl L:=by unfold blkQ;simp only[Ex.out,if_true];exact h
theorem Fp {R} (h:R tl L):loopQ R Q .normal tl L:=h
theorem q_loopX {R i} (h:Q (.exit i) tl L):loopQ R Q (.exit i) tl L:=h
theorem q_loopR {R} (h:Q .ret tl L):loopQ R Q .ret tl L:=h
theorem Ey {a b} (h:VC N G a (seqQ N G b Q) tl L):VC N G (.seq a b) Q tl L:=by
 refine s_seq (s_mono h fun e tl L h=>?_)
 cases e <;> exact h
theorem Fh {i c} (h:VC N G c (blkQ i Q) tl L):VC N G (.block i c) Q tl L:=s_block h
theorem S_loop {N0:Nat} {c:C} {ι:Type} (P:ι→Prop) (S:ι→Tl) (F:ι→List LB) (μ:ι→Nat) (N:Nat) (i0:ι) (hP:P i0) {tlk:Tl} (hk:keepN c.dsts tl=some tlk)
 (start:Has tl L (S i0) (F i0)) (hL:L.length=N) (hN:∀ i,P i→(F i).length=N) (hbel:∀ i,P i→(S i).all (fun p=>V.bel 6 N p.2)=true∧(F i).all (LB.bel N)=true)
 (round:∀ i,P i→VC (max N0 N) G c (loopQ (fun tl1 L1=>∃ j,P j∧μ j<μ i∧Has tl1 L1 (S j) (F j)) Q) (S i++tlk) (F i)):VC N0 G (.loop c) Q tl L:=by
 refine s_loop P S F μ N i0 hP hk start hL hN hbel fun i hi=>s_mono (round i hi) fun e tl L h=>?_
 cases e <;> exact h
theorem S_loop0 {c:C} {ι:Type} (P:ι→Prop) (S:ι→Tl) (μ:ι→Nat) (i0:ι) (hP:P i0) {tlk:Tl} (hk:keepN c.dsts tl=some tlk)
 (start:HasS tl (S i0)) (hbel:∀ i,P i→(S i).all (fun p=>V.bel 6 L.length p.2)=true) (hL:L.all (LB.bel L.length)=true)
 (round:∀ i,P i→VC (max N L.length) G c (loopQ (fun tl1 L1=>∃ j,P j∧μ j<μ i∧Has tl1 L1 (S j) L) Q) (S i++tlk) L):VC N G (.loop c) Q tl L:=
 S_loop P S (fun _=>L) μ L.length i0 hP hk (hasOf start (List.take_length ..)) rfl (fun _ _=>rfl) (fun i hi=>⟨hbel i hi,hL⟩) round
theorem s_eqv (i:Nat) {c v v'} (hg:look tl i=some v) (e:v=v') (k:VC N G c Q ((i,v')::tl) L):VC N G c Q tl L:=by
 subst e
 intro cx Z M tm m n hM hS
 refine k cx Z M tm m n hM fun t u hu=>?_
 simp only[look] at hu
 cases e:Nat.beq t i with
 | true =>
   rw[e] at hu
   have:=Nat.eq_of_beq_eq_true e
   simp only[cond_true,Option.some.injEq] at hu
   subst hu;subst this
   exact hS _ _ hg
 | false=>rw[e] at hu;exact hS _ _ hu
theorem cv_in {G f body res vargs post} (hG:G f=some ⟨body,res⟩) (h:VC 0 G body (Ret res post) (tlOf 0 vargs) []):CV G f vargs post:=cv_intro hG h
end
section
variable {N : Nat} {G : Prg} {tl : Tl} {L : List LB} {K : Tl → List LB → Prop} {l : List IOp} {q : Bool} {d : Nat}
theorem flat_drop {k:Nat}:∀ {rows:List (List Value)} {l:Nat},(∀ r,r∈rows→r.length=k)→rows.flatten.drop (l * k)=(rows.drop l).flatten
 | [],l,_=>by simp
 | r::rows,0,_=>by simp
 | r::rows,l+1,h=>by
   have h0:=h r (List.mem_cons_self ..)
   have ih:=flat_drop (l:=l) fun r hr=>h r (List.mem_cons_of_mem _ hr)
   rw[List.drop_succ_cons,List.flatten_cons,←ih,show(l+1) * k=r.length+l * k by rw[Nat.succ_mul];omega,List.drop_length_add_append]
theorem flat_take {k:Nat}:∀ {rows:List (List Value)} {l:Nat},(∀ r,r∈rows→r.length=k)→rows.flatten.take (l * k)=(rows.take l).flatten
 | [],l,_=>by simp
 | r::rows,0,_=>by simp
 | r::rows,l+1,h=>by
   have h0:=h r (List.mem_cons_self ..)
   have ih:=flat_take (l:=l) fun r hr=>h r (List.mem_cons_of_mem _ hr)
   rw[List.take_succ_cons,List.flatten_cons,List.flatten_cons,←ih,show(l+1) * k=r.length+l * k by rw[Nat.succ_mul];omega,List.take_length_add_append]
theorem part_rel {M:Mem} {Z Z':Zl} {k:Nat} {rows:List (List V)} {cells:List Value} (h:LB.rel M Z (.arr k rows) cells) (l h':Nat):LB.rel M Z' (.arr k ((rows.take h').drop l)) ((cells.drop (l * k)).take ((h'-l) * k)):=by
 obtain⟨rows',rfl,h2,h3,h4,h5⟩:=h
 have h3d:∀ r,r∈rows'.drop l→r.length=k:=fun r hr=>h3 r (List.mem_of_mem_drop hr)
 refine⟨(rows'.take h').drop l,?_,by simp [h2],fun r hr=>h3 r (List.mem_of_mem_take (List.mem_of_mem_drop hr)),fun i r r' e1 e2=>?_,fun i r j x e1 e2=>?_⟩
 ·rw[flat_drop h3,flat_take h3d,List.drop_take]
 ·rw[List.getElem?_drop,List.getElem?_take] at e1 e2
  split at e1
  ·rename_i hi;rw[if_pos hi] at e2;exact h4 _ _ _ e1 e2
  ·cases e1
 ·rw[List.getElem?_drop,List.getElem?_take] at e1
  split at e1
  ·exact h5 _ _ _ _ e1 e2
  ·cases e1
theorem cut_core {x:E} {lo hi:Option E} {b len k:Nat} {rows:List (List V)} {h lw:Int} {L1 L2:List LB} {b2:Nat} (hx:evE tl x=some (.ls b len)) (hb:L[b]?=some (.arr k rows)) (hl:rows.length=len)
 (hh:bndV tl (rows.length:Nat) hi=some h) (hlo:bndV tl (0:Nat) lo=some lw) (hbd:0≤lw∧lw≤h∧h≤rows.length)
 (hL1:setN L b .dead=some L1) (hL2:pushN L1 (.arr k ((rows.take h.toNat).drop lw.toNat))=some (L2,b2))
 {c:Cx N} {Z M tm m n} (hM:StM c Z M L m n) (hS:Slots M Z tl tm):∃ v m2 n2 Z2,(∀ l r m3 n3,Big G c.bs (.ops l (upd tm d v)) m2 n2 r m3 n3→Big G c.bs (.ops (⟨some d,.sl k x lo hi none,none,false⟩::l) tm) m n r m3 n3)∧ExtV Z M Z2 M∧StM c Z2 M L2 m2 n2∧RL M Z2 (.ls b2 ((rows.take h.toNat).drop lw.toNat).length) v:=by
 obtain⟨a,ha⟩:=hM.getZ hb
 obtain⟨hbl,rfl⟩:=setN_inv hL1
 have:=pushN_inv hL2;cases this
 have h1:=(evE_rel hS hx).ls_inv ha hl
 have hlt:b<Z.length:=(List.getElem?_eq_some_iff.1 ha).1
 have hlen:((rows.take h.toNat).drop lw.toNat).length=h.toNat-lw.toNat:=by simp;omega
 have key:∀ (a2:Option Nat) (m2:Mem) (n2:Nat),(∀ a',a2=some a'→a'=n∧n2=n+1∧∃ cells,m2 n=some ⟨cells,true,k⟩∧∀ Z',LB.rel M Z' (.arr k ((rows.take h.toNat).drop lw.toNat)) cells) →
  (a2=none→(rows.take h.toNat).drop lw.toNat=[])→n≤n2→Fresh m2 n2→(∀ b',b'≠n→b'∉a→m2 b'=m b') →
  ∃ Z2,ExtV Z M Z2 M∧StM c Z2 M (L.set b .dead++[.arr k ((rows.take h.toNat).drop lw.toNat)]) m2 n2∧Z2[(L.set b LB.dead).length]?=some (a2,.arr k ((rows.take h.toNat).drop lw.toNat)):=by
  intro a2 m2 n2 h2 h20 hn2 hf2 hm2
  have hget:∀ (i:Nat) p,((Z.set b ((none:Option Nat),LB.dead))++[(a2,LB.arr k ((rows.take h.toNat).drop lw.toNat))])[i]?=some p →
   (i≠b∧Z[i]?=some p)∨(i=b∧p=(none,.dead))∨(i=Z.length∧p=(a2,.arr k ((rows.take h.toNat).drop lw.toNat))):=by
   intro i p hp
   rw[List.getElem?_append] at hp
   split at hp
   ·rw[List.getElem?_set] at hp
    by_cases e:b=i
    ·subst e;rw[if_pos rfl,if_pos hlt] at hp;cases hp;exact Or.inr (Or.inl ⟨rfl,rfl⟩)
    ·rw[if_neg e] at hp;exact .inl ⟨fun e'=>e e'.symm,hp⟩
   ·rename_i hi
    rw[List.getElem?_singleton] at hp
    split at hp
    ·have hl9:(Z.set b ((none:Option Nat),LB.dead)).length=Z.length:=by simp
     cases hp;exact Or.inr (Or.inr ⟨by omega,rfl⟩)
    ·cases hp
  have hext:ExtV Z M ((Z.set b ((none:Option Nat),LB.dead))++[(a2,LB.arr k ((rows.take h.toNat).drop lw.toNat))]) M:=by
   refine⟨sub_refl _,fun i p hp=>?_⟩
   have hi:=(List.getElem?_eq_some_iff.1 hp).1
   by_cases e:b=i
   ·subst e;rw[ha] at hp;cases hp
    exact⟨(none,.dead),by rw[List.getElem?_append_left (by simpa using hi),List.getElem?_set,if_pos rfl,if_pos hlt],Or.inr (Eq.refl LB.dead)⟩
   ·exact⟨p,by rw[List.getElem?_append_left (by simpa using hi),List.getElem?_set,if_neg e];exact hp,grow.refl p⟩
  have ha0:∀ ad,a=some ad→c.okA ad∧ad<n:=fun ad e=>by subst e;exact⟨(hM.cell _ _ _ ha).1,(hM.cell _ _ _ ha).2.1⟩
  have hcn:=hM.hn
  refine⟨_,hext,⟨hM.hbs,by omega,hf2,by simp [List.map_set,hM.hL],fun b' y hb'=>?_,fun b' y hb'=>?_,hM.f0,hM.hma,hM.hbr,fun i a' lb hi=>?_,fun i lb hi=>?_,fun i j a' l1 l2 hi hj=>?_,fun i a' lb hi=>?_⟩,?_⟩
  ·obtain⟨g1,g2,g3⟩:=hM.hM b' y hb'
   have hn':b'≠n:=by intro e;subst e;rw[hM.fresh _ (Nat.le_refl _)] at g1;cases g1
   have hna:b'∉a:=fun e=>by
    have e:a=some b':=e
    subst e;exact g3 _ _ ha
   refine⟨by rw[hm2 b' hn' hna];exact g1,g2,fun i lb e=>?_⟩
   rcases hget i _ e with⟨_,e1⟩|⟨_,e1⟩|⟨_,e1⟩
   ·exact g3 i lb e1
   ·cases e1
   ·have e2:a2=some b':=by rw[Prod.mk.injEq] at e1;exact e1.1.symm
    exact hn' (h2 _ e2).1
  ·have hlt':b'<c.n0:=by
    rcases Nat.lt_or_ge b' c.n0 with h|h
    ·exact h
    ·rw[hM.f0 _ h] at hb';cases hb'
   have hna:b'∉a:=fun e=>by
    have:=hM.m0A (ha0 b' e).1
    rw[this] at hb';cases hb'
   rw[hm2 b' (by omega) hna]
   exact hM.h0 _ _ hb'
  ·rcases hget i _ hi with⟨hne',e1⟩|⟨_,e1⟩|⟨_,e1⟩
   ·obtain⟨g1,g2,g3⟩:=hM.cell i a' lb e1
    have hna:a'∉a:=fun e=>by
     have e:a=some a':=e
     subst e;exact hne' (hM.inj _ _ _ _ _ e1 ha)
    exact⟨g1,by omega,g3.mono hext (hm2 a' (by omega) hna)⟩
   ·cases e1
   ·rw[Prod.mk.injEq] at e1
    obtain⟨e1,rfl⟩:=e1
    obtain⟨q1,q2,cells,q3,q4⟩:=h2 _ e1.symm
    subst q1
    exact⟨.inl hcn,by omega,cells,q3,q4 _⟩
  ·rcases hget i _ hi with⟨_,e1⟩|⟨_,e1⟩|⟨_,e1⟩
   ·exact hM.nl i lb e1
   ·cases e1;exact .inl rfl
   ·rw[Prod.mk.injEq] at e1
    obtain⟨e1,rfl⟩:=e1
    exact .inr ⟨k,by rw[h20 e1.symm]⟩
  ·have dis:∀ (i:Nat) lb,Z[i]?=some (some n,lb)→False:=fun i lb e=>by have:=(hM.cell i _ _ e).2.1;omega
   rcases hget i _ hi with⟨_,e1⟩|⟨_,e1⟩|⟨e0,e1⟩ <;> rcases hget j _ hj with⟨_,e2⟩|⟨_,e2⟩|⟨e3,e2⟩
   ·exact hM.inj i j a' l1 l2 e1 e2
   ·cases e2
   ·rw[Prod.mk.injEq] at e2;have:=(h2 _ e2.1.symm).1;subst this;exact(dis _ _ e1).elim
   ·cases e1
   ·cases e1
   ·cases e1
   ·rw[Prod.mk.injEq] at e1;have:=(h2 _ e1.1.symm).1;subst this;exact(dis _ _ e2).elim
   ·cases e2
   ·omega
  ·rcases hget i _ hi with⟨_,e1⟩|⟨_,e1⟩|⟨_,e1⟩
   ·exact hM.lo i a' lb e1
   ·cases e1
   ·rw[Prod.mk.injEq] at e1;have:=(h2 _ e1.1.symm).1;subst this;exact .inl hcn
  ·have hLl:(L.set b LB.dead).length=(Z.set b ((none:Option Nat),LB.dead)).length:=by simp [hM.lenZ]
   rw[hLl,List.getElem?_append_right (Nat.le_refl _)];simp
 cases a with
 | none =>
   obtain⟨k',e⟩:=hM.nil _ _ ha
   cases e
   simp only[List.length_nil] at hbd
   obtain⟨rfl,rfl⟩:h=0∧lw=0:=by omega
   obtain⟨Z2,q1,q2,q3⟩:=key none m n (fun a' e=>by cases e) (fun _=>by simp) (Nat.le_refl _) hM.fresh (fun _ _ _=>rfl)
   have hr:RL M Z2 (.ls (L.set b LB.dead).length 0) (.slice none 0 0):=.ls q3 (by simp) rfl fun _=>rfl
   refine⟨_,_,_,_,fun l r m3 n3 hb2=>op_run (o:=⟨some d,.sl k x lo hi none,none,false⟩) rfl (.inl ?_) hb2,q1,q2,hr⟩
   simp only[stepO,h1,slOf]
   rw[show bnd tm none 0 0=some 0 from rfl]
   simp only
   rw[show bnd tm hi 0 0=some 0 from bndV_rel (d:=0) (most:=0) hS hh (by simp)]
   simp only
   rw[show bnd tm lo 0 0=some 0 from bndV_rel (d:=0) (most:=0) hS hlo (by simp)]
   rfl
 | some ad =>
   obtain⟨ha0,han,cells,hm,hrel⟩:=hM.cell _ _ _ ha
   have hcl:cells.length=rows.length * k:=by
    obtain⟨rows',rfl,e2,e3,_⟩:=hrel
    rw[flat_len e3,e2]
   have hhl:h.toNat≤rows.length:=by omega
   have hhk:h.toNat * k≤rows.length * k:=Nat.mul_le_mul_right _ hhl
   obtain⟨Z2,q1,q2,q3⟩:=key (some n) (upd (upd m ad none) n (some ⟨(cells.drop (0+lw.toNat * k)).take ((h.toNat-lw.toNat) * k),true,k⟩)) (n+1)
    (fun a' e=>by cases e;exact⟨rfl,rfl,(cells.drop (0+lw.toNat * k)).take ((h.toNat-lw.toNat) * k),by simp only[upd,if_true],fun Z'=>by rw[Nat.zero_add];exact part_rel hrel _ _⟩) (fun e=>by cases e) (by omega)
    (Fresh.upd (fresh_upd hM.fresh han) _) (fun b' h3 h4=>by
      have:b'≠ad:=fun e=>h4 (by rw[e];rfl)
      simp [upd,h3,this])
   have hr:RL M Z2 (.ls (L.set b LB.dead).length ((rows.take h.toNat).drop lw.toNat).length) (slc n 0 (h.toNat-lw.toNat) (h.toNat-lw.toNat)):=.ls q3 (Nat.le_refl _) rfl fun _=>by rw[hlen];rfl
   refine⟨_,_,_,_,fun l r m3 n3 hb2=>.opsAlt (fun g b e=>by cases e) rfl ?_ hb2,q1,q2,hr⟩
   simp only[stepA,h1,slOf,←hl]
   rw[bndV_rel (most:=rows.length) hS hh (by omega)]
   simp only
   rw[bndV_rel (most:=h.toNat) hS hlo (by omega)]
   simp only
   rw[if_pos ⟨by omega,by omega,by omega,rfl⟩]
   simp only[hm]
   rw[if_pos ⟨hM.bsA ha0,trivial,rfl,by omega⟩]
theorem s_cut {x:E} {lo hi:Option E} {b len k:Nat} {rows:List (List V)} {h lw:Int} {L1 L2:List LB} {b2:Nat} (hx:evE tl x=some (.ls b len)) (hb:L[b]?=some (.arr k rows)) (hl:rows.length=len)
 (hh:bndV tl (rows.length:Nat) hi=some h) (hlo:bndV tl (0:Nat) lo=some lw) (hbd:0≤lw∧lw≤h∧h≤rows.length)
 (hL1:setN L b .dead=some L1) (hL2:pushN L1 (.arr k ((rows.take h.toNat).drop lw.toNat))=some (L2,b2))
 (kk:VO N G l K ((d,.ls b2 ((rows.take h.toNat).drop lw.toNat).length)::tl) L2):VO N G (⟨some d,.sl k x lo hi none,none,false⟩::l) K tl L:=by
 intro c Z M tm m n hM hS
 obtain⟨v,m2,n2,Z2,g1,g2,g3,g4⟩:=cut_core (G:=G) (d:=d) hx hb hl hh hlo hbd hL1 hL2 hM hS
 obtain⟨tm3,m3,n3,Z3,M3,tl3,L3,hb2,he2,r⟩:=kk c Z2 M (upd tm d v) m2 n2 g3 ((hS.mono g2).put g4)
 exact⟨tm3,m3,n3,Z3,M3,tl3,L3,g1 _ _ _ _ hb2,g2.trans he2,r⟩
theorem s_clrS {x lo:E} {b len k t:Nat} {j:Int} {rows:List (List V)} {z:List Value} {zr:List V} {L1:List LB} (hx:evE tl x=some (.ls b len)) (hb:L[b]?=some (.arr k rows)) (hl:rows.length=len)
 (hlo:evE tl lo=some (.w (.int .i64 j))) (hbd:0≤j∧j≤rows.length) (hd:look tl d=none) (hz:ofWs z=some zr) (hk:z.length=k)
 (hL:setN L b (.arr k (rows.take j.toNat++List.replicate (rows.length-j.toNat) zr))=some L1) (kk:VO N G l K tl L1) :
 VO N G (⟨some d,.sl k x (some lo) none none,none,q⟩::⟨none,.clr k z (.t d),none,false⟩::l) K tl L:=by
 intro c Z M tm m n hM hS
 obtain⟨a,ha⟩:=hM.getZ hb
 obtain⟨hbl,rfl⟩:=setN_inv hL
 have h1:=(evE_rel hS hx).ls_inv ha hl
 have hlo':=evE_w hS hlo
 have hS1:∀ v,Slots M Z tl (upd tm d v):=fun v t u hu=>by
  have:t≠d:=fun e=>by subst e;rw[hd] at hu;cases hu
  simp only[upd,if_neg this]
  exact hS t u hu
 have hbj:bnd tm (some lo) 0 rows.length=some j.toNat:=by
  simp only[bnd,hlo']
  rw[if_pos (by omega)]
 by_cases hj:j.toNat=rows.length
 ·skip
  have e0:L.set b (.arr k (rows.take j.toNat++List.replicate (rows.length-j.toNat) zr))=L:=by
   rw[hj,List.take_length,Nat.sub_self,List.replicate_zero,List.append_nil]
   apply List.ext_getElem?
   intro i
   rw[List.getElem?_set]
   by_cases e:b=i
   ·subst e;rw[if_pos rfl,if_pos hbl,hb]
   ·rw[if_neg e]
  rw[e0] at kk
  have run:∀ v,(∃ a',v=.slice a' 0 0)→(∀ b',stepO b' (.sl k x (some lo) none none) tm m n=some (v,m,n))→∃ tm1 m1 n1 Z1 M1 tl1 L1,Big G c.bs (.ops (⟨some d,.sl k x (some lo) none none,none,q⟩::⟨none,.clr k z (.t d),none,false⟩::l) tm) m n (.exit .normal tm1) m1 n1∧ExtN N Z M Z1 M1∧StM c Z1 M1 L1 m1 n1∧Slots M1 Z1 tl1 tm1∧K tl1 L1:=by
   rintro v ⟨a',rfl⟩ hst
   obtain⟨tm2,m2,n2,Z2,M2,tl2,L2,hb2,r⟩:=kk c Z M (upd tm d (.slice a' 0 0)) m n hM (hS1 _)
   refine⟨tm2,m2,n2,Z2,M2,tl2,L2,op_run (o:=⟨some d,_,none,q⟩) (m1:=m) (n1:=n) rfl (.inl (hst _)) (op_run (o:=⟨none,_,none,false⟩) (v:=junk) rfl (.inl ?_) hb2),r⟩
   simp [stepO,put,E.ev,upd]
  cases a with
  | none =>
    obtain⟨k',e⟩:=hM.nil _ _ ha
    cases e
    refine run _ ⟨none,rfl⟩ fun b'=>?_
    simp only[stepO,h1,slOf]
    rw[show bnd tm none 0 0=some 0 from rfl]
    simp only
    rw[show bnd tm none 0 0=some 0 from rfl]
    simp only
    rw[show bnd tm (some lo) 0 0=some j.toNat from hbj,hj]
    rfl
  | some ad =>
    refine run _ ⟨some ⟨0,0,some 0⟩,rfl⟩ fun b'=>?_
    simp only[stepO,h1,slOf,←hl]
    rw[show bnd tm none rows.length rows.length=some rows.length from by simp [bnd]]
    simp only
    rw[show bnd tm none rows.length rows.length=some rows.length from by simp [bnd]]
    simp only
    rw[hbj]
    simp [hj]
 ·cases a with
  | none =>
    obtain⟨k',e⟩:=hM.nil _ _ ha
    cases e
    simp only[List.length_nil] at hbd hj
    omega
  | some ad =>
    obtain⟨ha0,han,cells,hm,hrel⟩:=hM.cell _ _ _ ha
    have hcl:cells.length=rows.length * k:=by
     obtain⟨rows',rfl,e2,e3,_⟩:=hrel
     rw[flat_len e3,e2]
    have hjl:j.toNat<rows.length:=by omega
    have hkk:j.toNat * k+(rows.length-j.toNat) * k=rows.length * k:=by rw[←Nat.add_mul];congr 1;omega
    have hnew:LB.rel M (Z.set b (some ad,.arr k (rows.take j.toNat++List.replicate (rows.length-j.toNat) zr))) (.arr k (rows.take j.toNat++List.replicate (rows.length-j.toNat) zr)) (cells.take (j.toNat * k)++(List.replicate (rows.length-j.toNat) z).flatten):=by
     obtain⟨rows',rfl,e2,e3,e4,e5⟩:=hrel
     obtain⟨r',f1,f2,f3,f4,f5⟩:=arr_rel_rep (M:=M) (Z:=Z) hz k hk (rows.length-j.toNat)
     refine⟨rows'.take j.toNat++r',by rw[flat_take e3,List.flatten_append,f1],by simp [e2,f2],fun r hr=>?_,fun i r r2 g1 g2=>?_,fun i r j' y g1 g2=>?_⟩
     ·rcases List.mem_append.1 hr with h|h
      ·exact e3 r (List.mem_of_mem_take h)
      ·exact f3 r h
     ·rw[List.getElem?_append] at g1 g2
      simp only[List.length_take] at g1 g2
      rw[e2] at g2
      split at g1
      ·rename_i hi
       rw[if_pos hi] at g2
       rw[List.getElem?_take_of_lt (by omega)] at g1 g2
       exact e4 _ _ _ g1 g2
      ·rename_i hi
       rw[if_neg hi] at g2
       exact f4 _ _ _ g1 g2
     ·rw[List.getElem?_append] at g1
      split at g1
      ·rename_i hi
       simp only[List.length_take] at hi
       rw[List.getElem?_take_of_lt (by omega)] at g1
       exact e5 _ _ _ _ g1 g2
      ·exact f5 _ _ _ _ g1 g2
    have hg:grow (some ad,LB.arr k rows) (some ad,.arr k (rows.take j.toNat++List.replicate (rows.length-j.toNat) zr)):=.inl ⟨_,rfl,by simp;omega,fun _=>rfl⟩
    obtain⟨he,hM1⟩:=hM.write ha _ hg rfl hnew
    obtain⟨tm2,m2,n2,Z2,M2,tl2,L2,hb2,he2,r⟩:=kk c _ M (upd tm d (.slice (some ⟨ad,0+j.toNat * k,none⟩) (rows.length-j.toNat) (rows.length-j.toNat))) _ n hM1 ((hS1 _).mono he)
    refine⟨tm2,m2,n2,Z2,M2,tl2,L2,op_run (o:=⟨some d,_,none,q⟩) (m1:=m) (n1:=n) rfl (.inl ?_) (op_run (o:=⟨none,_,none,false⟩) (v:=junk) rfl (.inl ?_) hb2),he.trans he2,r⟩
    ·show stepO _ (.sl k x (some lo) none none) tm m n=some (.slice (some ⟨ad,0+j.toNat * k,none⟩) (rows.length-j.toNat) (rows.length-j.toNat),m,n)
     simp only[stepO,h1,slOf,←hl]
     rw[show bnd tm none rows.length rows.length=some rows.length from by simp [bnd]]
     simp only
     rw[show bnd tm none rows.length rows.length=some rows.length from by simp [bnd]]
     simp only
     rw[hbj]
     have hne:¬ rows.length=j.toNat:=fun e=>hj e.symm
     simp [hne,hm,LB.sz]
    ·have hne:¬ rows.length-j.toNat=0:=by omega
     show stepO c.bs (.clr k z (.t d)) (upd tm d (.slice (some ⟨ad,0+j.toNat * k,none⟩) (rows.length-j.toNat) (rows.length-j.toNat))) m n=_
     simp only[stepO,E.ev,upd,if_true,if_neg hne,hk,AL.wrn,hm,Option.isSome_none,Bool.false_eq_true,if_false]
     have hfl:(List.replicate (rows.length-j.toNat) z).flatten.length=(rows.length-j.toNat) * k:=by simp [hk]
     rw[if_pos ⟨hM.bsA ha0,trivial,by rw[hfl];omega⟩]
     simp only[Nat.zero_add,hfl,hkk,←hcl,List.drop_length,List.append_nil,LB.sz]
end
end Go.Proofs.YtoppcdecolponaaGreat.AL
