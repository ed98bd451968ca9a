/- A small language of plain Go code over rows of cells,its runs,and rules to show what a run comes to. -/
import GoSem.Core.Sem
import GoSem.Op.String
import Derived.Lib.AtoiAll
import Derived.Lib.ItoaNum
import Derived.Lib.Bytealg
import Derived.Lib.Join
import GoSem.Machine.Frame
import GoSem.Core.Region
import GoSem.Core.Made
import GoSem.Op.Equal
import Derived.Orders
import Derived.Tactics
import Derived.Below
import Derived.Laws.Entries
import Derived.Laws.Cells
import Derived.Laws.IdiomCopy
import Derived.Laws.CopyRow
import Derived.Laws.MakeOwn
import Derived.Laws.AppendOwn
import Derived.Laws.StructEq
import Derived.Laws.Append
import Derived.Laws.Cover3
namespace Go.Proofs.YtoppcdecolponaaGreat.AL
open Go
set_option linter.unusedVariables false
structure Blk where
 cells:List Value
 own:Bool
 sz:Nat
abbrev Mem:=Nat→Option Blk
abbrev Tm:=Nat→Value
def junk:Value:=.nilIface
def nov:Value:=.tuple #[]
def upd {α:Type} (f:Nat→α) (i:Nat) (x:α):Nat→α:=fun j=>if j=i then x else f j
inductive E where
 | t (i:Nat)
 | k (v:Value)
def E.ev (tm:Tm):E→Value
 | .t i=>tm i
 | .k v=>v
inductive BK where
 | b|i|s
inductive O where
 | mv (x:E)
 | pick (c a b:E)
 | new (z:List Value)
 | box (x:E)
 | ld (x:E)
 | ldn (n:Nat) (x:E)
 | st (x v:E)
 | stn (n:Nat) (x v:E)
 | fa (off:Nat) (x:E)
 | ia (sz:Nat) (x i:E)
 | bin (op:BinOp) (x y:E)
 | eqb (neg:Bool) (x y:E)
 | eqs (neg:Bool) (ks:List BK) (x y:E)
 | eqnil (neg:Bool) (x:E)
 | not (x:E)
 | neg (x:E)
 | len (x:E)
 | lens (x:E)
 | cap (x:E)
 | mk (sz bytes:Nat) (z:List Value) (l c:E)
 | bs (sz n:Nat) (z:List Value) (parts:List (Nat×E))
 | bd (z:List Value) (parts:List (Nat×Nat×E))
 | fld (off:Nat) (n:Option Nat) (x:E)
 | ext (i:Nat) (x:E)
 | fn (f:Nat) (cap:List E)
 | call (f:Nat) (args:List E)
 | calli (f:E) (args:List E)
 | app (sz bytes:Nat) (s x:E)
 | sl (sz:Nat) (x:E) (lo hi mx:Option E)
 | sls (x:E) (lo hi:Option E)
 | ix (x i:E)
 | cvi (k:IntKind) (x:E)
 | cvsb (x:E)
 | cvbs (x:E)
 | nilc (x:E)
 | mn (xs:List E)
 | mx (xs:List E)
 | clr (sz:Nat) (z:List Value) (x:E)
 | cpy (sz:Nat) (d s:E)
structure IOp where
 d:Option Nat
 o:O
 g:Option (Nat×Bool)
 q:Bool
abbrev p (d:Nat) (o:O):IOp:=⟨some d,o,none,false⟩
inductive C where
 | skip
 | rg (l:List IOp)
 | seq (a b:C)
 | cond (c:E) (a b:C)
 | block (i:Nat) (c:C)
 | loop (c:C)
 | exit (i:Nat)
 | ret
inductive RV where
 | tmp (t:Nat)
 | cell (t:Nat)
 | celln (t n:Nat)
structure Fnc where
 body:C
 res:List RV
abbrev Prg:=Nat→Option Fnc
inductive Ex where
 | normal
 | exit (i:Nat)
 | ret
 deriving DecidableEq
def Ex.out (i:Nat):Ex→Ex
 | .exit j=>if j=i then .normal else .exit j
 | e=>e
def rd (m:Mem) (a:Addr):Option Value:=
 if a.spot.isSome then none else match m a.block with
 | some b=>b.cells[a.off]?
 | none=>none
def rdn (m:Mem) (a:Addr) (n:Nat):Option (List Value):=
 if a.spot.isSome then none else match m a.block with
 | some b=>if a.off+n≤b.cells.length then some ((b.cells.drop a.off).take n) else none
 | none=>none
def wrn (bs:Nat) (m:Mem) (a:Addr) (vs:List Value):Option Mem:=
 if a.spot.isSome then none else match m a.block with
 | some b=>if bs≤a.block∧b.own=true∧a.off+vs.length≤b.cells.length then
    some (upd m a.block (some ⟨b.cells.take a.off++vs++b.cells.drop (a.off+vs.length),true,b.sz⟩)) else none
 | none=>none
def wr (bs:Nat) (m:Mem) (a:Addr) (v:Value):Option Mem:=
 if a.spot.isSome then none else match m a.block with
 | some b=>if bs≤a.block∧b.own=true∧a.off<b.cells.length then
    some (upd m a.block (some ⟨b.cells.set a.off v,true,b.sz⟩)) else none
 | none=>none
def adr (a:Option Addr):Addr:=a.getD ⟨0,0,none⟩
def okA (a:Option Addr):Prop:=a.isSome=true∧(adr a).spot=none
def sub (m m1:Mem):Prop:=∀ b x,m b=some x→m1 b=some x
def ptr (b o:Nat):Value:=.pointer (some ⟨b,o,none⟩)
def slc (b o l c:Nat):Value:=.slice (some ⟨b,o,none⟩) l c
def flatW:Value→Bool
 | .bool _|.int _ _|.string _|.pointer none|.slice none _ _=>true
 | _=>false
def flatA:Value→Bool
 | .agg ds=>ds.toList.all flatW
 | v=>flatW v
def flat:Value→Bool
 | .nilFunc=>true
 | .func _ a b=>a.size == 0 && b.size == 0
 | .tuple cs=>cs.toList.all flatA
 | v=>flatA v
def wideV:Value→Bool
 | .agg _|.tuple _|.nilIface=>true
 | _=>false
def isJunk:Value→Bool
 | .nilIface=>true
 | _=>false
def eqv:BK→Value→Value→Option Bool
 | .b,.bool a,.bool b=>some (a == b)
 | .i,.int j a,.int k b=>if j=k then some (a == b) else none
 | .s,.string a,.string b=>some (a.toList == b.toList)
 | _,_,_=>none
def eqvs:List BK→List Value→List Value→Option Bool
 | [],[],[]=>some true
 | k::ks,a::l,b::r=>match eqv k a b,eqvs ks l r with
   | some x,some y=>some (x && y)
   | _,_=>none
 | _,_,_=>none
def binv (op:BinOp) (x y:Value):Option Value:=
 match x,y with
 | .int j a,.int k b =>
   match op with
   | .shl=>if 0≤b then some (.int j (j.wrap (a * 2 ^ (min b.toNat j.bits)))) else none
   | .shr=>if 0≤b then some (.int j (a.fdiv (2 ^ (min b.toNat j.bits)))) else none
   | _ =>
   if j=k then
    match op with
    | .add=>some (.int j (j.wrap (a+b)))
    | .sub=>some (.int j (j.wrap (a-b)))
    | .mul=>some (.int j (j.wrap (a * b)))
    | .quo=>if b=0 then none else some (.int j (j.wrap (a.tdiv b)))
    | .rem=>if b=0 then none else some (.int j (a.tmod b))
    | .and=>some (.int j (j.wrap (BitVec.ofInt j.bits a &&& BitVec.ofInt j.bits b).toNat))
    | .or=>some (.int j (j.wrap (BitVec.ofInt j.bits a ||| BitVec.ofInt j.bits b).toNat))
    | .xor=>some (.int j (j.wrap (BitVec.ofInt j.bits a ^^^ BitVec.ofInt j.bits b).toNat))
    | .andNot=>some (.int j (j.wrap (BitVec.ofInt j.bits a &&& ~~~ BitVec.ofInt j.bits b).toNat))
    | .eql=>some (.bool (a == b))
    | .neq=>some (.bool (a != b))
    | .lss=>some (.bool (a<b))
    | .leq=>some (.bool (a≤b))
    | .gtr=>some (.bool (a > b))
    | .geq=>some (.bool (a≥b))
    | _=>none
   else none
 | .string a,.string b =>
   match op with
   | .add=>if((a.size+b.size:Nat):Int) > IntKind.i64.max then none else some (.string (a++b))
   | .eql=>some (.bool (a.toList == b.toList))
   | .neq=>some (.bool !(a.toList == b.toList))
   | .lss=>some (.bool (Op.bytesLess a.toList b.toList))
   | .leq=>some (.bool (Op.bytesLess a.toList b.toList || a.toList == b.toList))
   | .gtr=>some (.bool !(Op.bytesLess a.toList b.toList || a.toList == b.toList))
   | .geq=>some (.bool !(Op.bytesLess a.toList b.toList))
   | _=>none
 | _,_=>none
def min2v:Value→Value→Option Value
 | .int j a,.int k b=>if j=k then some (.int j (if b<a then b else a)) else none
 | _,_=>none
def max2v:Value→Value→Option Value
 | .int j a,.int k b=>if j=k then some (.int j (if b > a then b else a)) else none
 | _,_=>none
def foldv (f:Value→Value→Option Value):Value→List Value→Option Value
 | x,[]=>some x
 | x,y::l=>match f x y with
   | some z=>foldv f z l
   | none=>none
def bnd (tm:Tm) (x:Option E) (dflt most:Nat):Option Nat:=
 match x with
 | none=>some dflt
 | some e=>match e.ev tm with
   | .int _ i=>if 0≤i∧i≤most then some i.toNat else none
   | _=>none
def fill (l:List Value):List (Nat×List Value)→List Value
 | []=>l
 | (i,vs)::r=>fill (l.take i++vs++l.drop (i+vs.length)) r
def roomy:Nat:=2 ^ 44
def bytesV:List Value→Option (List UInt8)
 | []=>some []
 | .int .u8 b::l=>if 0≤b∧b<256 then match bytesV l with
   | some r=>some (UInt8.ofNat b.toNat::r)
   | none=>none
   else none
 | _=>none
theorem bytesV_at:∀ {cs:List Value} {bs:List UInt8},bytesV cs=some bs→bs.length=cs.length∧∀ (j:Nat) b,bs[j]?=some b→cs[j]?=some (.int .u8 (b.toNat:Int))
 | [],bs,h=>by cases h;exact⟨rfl,fun j b h=>by simp at h⟩
 | .int .u8 b::l,bs,h=>by
   simp only[bytesV] at h
   split at h
   ·rename_i hb
    split at h
    ·rename_i r hr
     cases h
     obtain⟨h1,h2⟩:=bytesV_at hr
     refine⟨by simp [h1],fun j b' hj=>?_⟩
     cases j with
     | zero =>
       simp only[List.getElem?_cons_zero,Option.some.injEq] at hj ⊢
       subst hj
       have:(UInt8.ofNat b.toNat).toNat=b.toNat:=by simp;omega
       rw[this]
       congr 1;omega
     | succ j=>simp only[List.getElem?_cons_succ] at hj ⊢;exact h2 j b' hj
    ·cases h
   ·cases h
def stepO (bs:Nat) (o:O) (tm:Tm) (m:Mem) (n:Nat):Option (Value×Mem×Nat):=
 match o with
 | .mv x=>some (x.ev tm,m,n)
 | .pick c a b=>match c.ev tm with
   | .bool t=>some (if t then a.ev tm else b.ev tm,m,n)
   | _=>none
 | .new z=>some (ptr n 0,upd m n (some ⟨z,true,1⟩),n+1)
 | .box x=>if isJunk (x.ev tm) then none else some (ptr n 0,upd m n (some ⟨(x.ev tm).cells.toList,true,1⟩),n+1)
 | .ld x=>match x.ev tm with
   | .pointer (some a)=>match rd m a with
     | some v=>some (v,m,n)
     | none=>none
   | _=>none
 | .ldn k x=>match x.ev tm with
   | .pointer (some a)=>match rdn m a k with
     | some vs=>some (.agg vs.toArray,m,n)
     | none=>none
   | _=>none
 | .st x v=>match x.ev tm with
   | .pointer (some a)=>if wideV (v.ev tm) then none else match wr bs m a (v.ev tm) with
     | some m1=>some (junk,m1,n)
     | none=>none
   | _=>none
 | .stn k x v=>match x.ev tm,v.ev tm with
   | .pointer (some a),.agg vs=>if vs.size=k∧vs.toList.all (fun u=>!wideV u) then match wrn bs m a vs.toList with
      | some m1=>some (junk,m1,n)
      | none=>none
     else none
   | _,_=>none
 | .fa off x=>match x.ev tm with
   | .pointer (some a)=>if a.spot.isSome then none else some (ptr a.block (a.off+off),m,n)
   | _=>none
 | .ia sz x i=>match x.ev tm,i.ev tm with
   | .slice (some a) len _,.int _ j=>if a.spot.isSome then none else if 0≤j∧j<len then some (ptr a.block (a.off+j.toNat * sz),m,n) else none
   | _,_=>none
 | .bin op x y=>match binv op (x.ev tm) (y.ev tm) with
   | some v=>some (v,m,n)
   | none=>none
 | .eqb neg x y=>match x.ev tm,y.ev tm with
   | .bool a,.bool b=>some (.bool (if neg then !(a == b) else a == b),m,n)
   | _,_=>none
 | .eqs neg ks x y=>match x.ev tm,y.ev tm with
   | .agg xs,.agg ys=>match eqvs ks xs.toList ys.toList with
     | some b=>some (.bool (if neg then !b else b),m,n)
     | none=>none
   | _,_=>none
 | .eqnil neg x=>match x.ev tm with
   | .slice a _ _=>some (.bool (if neg then a.isSome else a.isNone),m,n)
   | _=>none
 | .not x=>match x.ev tm with
   | .bool b=>some (.bool !b,m,n)
   | _=>none
 | .neg x=>match x.ev tm with
   | .int k i=>some (.int k (k.wrap (0-i)),m,n)
   | _=>none
 | .len x=>match x.ev tm with
   | .slice _ l _=>some (.int .i64 l,m,n)
   | _=>none
 | .lens x=>match x.ev tm with
   | .string s=>some (.int .i64 s.size,m,n)
   | _=>none
 | .cap _=>none
 | .mk sz bytes z l c=>match l.ev tm,c.ev tm with
   | .int .i64 a,.int .i64 b=>if 0≤a∧a≤b∧b.toNat * bytes≤roomy∧b≤roomy∧z.length=sz then
      some (slc n 0 a.toNat b.toNat,upd m n (some ⟨(List.replicate b.toNat z).flatten,true,sz⟩),n+1) else none
   | _,_=>none
 | .bs sz k z parts =>
   let ps:=parts.map fun p=>(p.1 * sz,(p.2.ev tm).cells.toList)
   if z.length=sz∧parts.all (fun p=>!isJunk (p.2.ev tm))∧ps.all (fun p=>p.2.length == sz && p.1+p.2.length≤k * sz) then
    some (slc n 0 k k,upd m n (some ⟨fill (List.replicate k z).flatten ps,true,sz⟩),n+1) else none
 | .bd z parts =>
   let ps:=parts.map fun p=>(p.1,(p.2.2.ev tm).cells.toList)
   if parts.all (fun p=>!isJunk (p.2.2.ev tm) && (p.2.2.ev tm).cells.size == p.2.1 && p.1+p.2.1≤z.length) then
    some (.agg (fill z ps).toArray,m,n) else none
 | .fld off k x=>match x.ev tm with
   | .agg cs=>match k with
     | none=>match cs[off]? with
       | some v=>some (v,m,n)
       | none=>none
     | some k=>some (.agg (cs.extract off (off+k)),m,n)
   | _=>none
 | .ext i x=>match x.ev tm with
   | .tuple vs=>match vs[i]? with
     | some v=>some (v,m,n)
     | none=>none
   | _=>none
 | .fn f cap=>some (.func (.func f) #[] (cap.map (·.ev tm)).toArray,m,n)
 | .call _ _=>none
 | .calli _ _=>none
 | .app sz bytes s x=>match s.ev tm,x.ev tm with
   | .slice base len cap,.slice xb xl _ =>
     if(len+xl) * bytes≤roomy∧len+xl≤roomy∧len≤cap then
      if xl=0 then some (.slice base len cap,m,n) else
      match xb with
      | none=>none
      | some xa=>match rdn m xa (xl * sz) with
        | none=>none
        | some new=>if new.all (fun u=>!wideV u) then
           match base with
           | none=>if cap=0 then some (slc n 0 xl xl,upd m n (some ⟨new,true,sz⟩),n+1) else none
           | some a=>if a.spot.isSome then none else match m a.block with
             | none=>none
             | some b=>if bs≤a.block∧b.own=true∧b.sz=sz∧a.off+cap * sz=b.cells.length∧cap<len+xl then
                some (slc n 0 (len+xl) (len+xl),upd (upd m a.block none) n (some ⟨(b.cells.drop a.off).take (len * sz)++new,true,sz⟩),n+1)
               else none
          else none
     else none
   | _,_=>none
 | .sl sz x lo hi mx=>match x.ev tm with
   | .slice a len cap =>
     match bnd tm mx cap cap with
     | none=>none
     | some k=>match bnd tm hi len k with
       | none=>none
       | some h=>match bnd tm lo 0 h with
         | none=>none
         | some l=>if h≤len∧len≤cap∧(mx.isSome=true→hi.isSome=true)∧(mx.isSome=true→h=k) then
            match a with
            | none=>some (.slice none (h-l) (k-l),m,n)
            | some a=>if k=l∧mx.isNone=true then some (.slice (some ⟨0,0,some 0⟩) 0 0,m,n) else
              if a.spot.isSome then none else match m a.block with
              | none=>none
              | some b=>if b.sz=sz then some (.slice (some (if k=l then a else⟨a.block,a.off+l * sz,none⟩)) (h-l) (k-l),m,n) else none
           else none
   | _=>none
 | .sls x lo hi=>match x.ev tm with
   | .string s=>match bnd tm hi s.size s.size with
     | none=>none
     | some h=>match bnd tm lo 0 h with
       | none=>none
       | some l=>some (.string (s.extract l h),m,n)
   | _=>none
 | .ix x i=>match x.ev tm,i.ev tm with
   | .string s,.int _ j=>if 0≤j then match s[j.toNat]? with
      | some b=>some (.int .u8 b.toNat,m,n)
      | none=>none
     else none
   | _,_=>none
 | .cvi k x=>match x.ev tm with
   | .int _ i=>some (.int k (k.wrap i),m,n)
   | _=>none
 | .cvsb _=>none
 | .cvbs x=>match x.ev tm with
   | .slice (some a) l _=>match rdn m a l with
     | some cs=>match bytesV cs with
       | some bs=>some (.string ⟨bs.toArray⟩,m,n)
       | none=>none
     | none=>none
   | .slice none _ _=>some (.string ⟨#[]⟩,m,n)
   | _=>none
 | .nilc x=>match x.ev tm with
   | .pointer (some a)=>some (.pointer (some a),m,n)
   | .func (.func f) a b=>some (.func (.func f) a b,m,n)
   | _=>none
 | .mn xs=>match xs.map (·.ev tm) with
   | []=>none
   | x::l=>match foldv min2v x l with
     | some v=>some (v,m,n)
     | none=>none
 | .mx xs=>match xs.map (·.ev tm) with
   | []=>none
   | x::l=>match foldv max2v x l with
     | some v=>some (v,m,n)
     | none=>none
 | .clr sz z x=>match x.ev tm with
   | .slice a len _=>if len=0 then some (junk,m,n) else match a with
     | some ad=>if z.length=sz then match wrn bs m ad (List.replicate len z).flatten with
        | some m1=>some (junk,m1,n)
        | none=>none
       else none
     | none=>none
   | _=>none
 | .cpy _ _ _=>none
def stepA (bs:Nat) (o:O) (tm:Tm) (m:Mem) (n:Nat):Option (Value×Mem×Nat):=
 match o with
 | .sl sz x lo hi none=>match x.ev tm with
   | .slice (some a) len cap=>match bnd tm hi len cap with
     | none=>none
     | some h=>match bnd tm lo 0 h with
       | none=>none
       | some l=>if h≤len∧len≤cap∧l≤h∧a.spot.isSome=false then match m a.block with
         | none=>none
         | some b=>if bs≤a.block∧b.own=true∧b.sz=sz∧a.off+h * sz≤b.cells.length then
            some (slc n 0 (h-l) (h-l),upd (upd m a.block none) n (some ⟨(b.cells.drop (a.off+l * sz)).take ((h-l) * sz),true,sz⟩),n+1)
           else none
         else none
   | _=>none
 | _=>none
def O.callee (tm:Tm):O→Option (Nat×List Value)
 | .call f args=>some (f,args.map (·.ev tm))
 | .calli f args=>match f.ev tm with
   | .func (.func g) first captured=>some (g,first.toList++args.map (·.ev tm)++captured.toList)
   | _=>none
 | _=>none
def put (tm:Tm) (d:Option Nat) (v:Value):Tm:=
 match d with
 | some d=>upd tm d v
 | none=>tm
theorem stepA_inv {bs:Nat} {o:O} {tm:Tm} {m:Mem} {n:Nat} {v:Value} {m1:Mem} {n1:Nat} (hs:stepA bs o tm m n=some (v,m1,n1)) :
 ∃ sz x lo hi a len cap h l b,o=.sl sz x lo hi none∧x.ev tm=.slice (some a) len cap∧bnd tm hi len cap=some h∧bnd tm lo 0 h=some l∧h≤len∧len≤cap∧l≤h∧a.spot=none∧m a.block=some b∧bs≤a.block∧b.own=true∧b.sz=sz ∧
   a.off+h * sz≤b.cells.length∧v=slc n 0 (h-l) (h-l)∧m1=upd (upd m a.block none) n (some ⟨(b.cells.drop (a.off+l * sz)).take ((h-l) * sz),true,sz⟩)∧n1=n+1:=by
 unfold stepA at hs
 split at hs
 ·rename_i sz x lo hi
  split at hs
  ·rename_i a len cap he
   split at hs
   ·cases hs
   ·rename_i h hh
    split at hs
    ·cases hs
    ·rename_i l hl
     split at hs
     ·rename_i hc
      split at hs
      ·cases hs
      ·rename_i b hb
       split at hs
       ·rename_i hc2
        cases hs
        exact⟨sz,x,lo,hi,a,len,cap,h,l,b,rfl,he,hh,hl,hc.1,hc.2.1,hc.2.2.1,by simpa using hc.2.2.2,hb,hc2.1,hc2.2.1,hc2.2.2.1,hc2.2.2.2,rfl,rfl,rfl⟩
       ·cases hs
     ·cases hs
  ·cases hs
 ·cases hs
def retv1 (tm:Tm) (m:Mem):RV→Option Value
 | .tmp t=>some (tm t)
 | .cell t=>match tm t with
   | .pointer (some a)=>rd m a
   | _=>none
 | .celln t n=>match tm t with
   | .pointer (some a)=>match rdn m a n with
     | some vs=>some (.agg vs.toArray)
     | none=>none
   | _=>none
def retvs (tm:Tm) (m:Mem):List RV→Option (List Value)
 | []=>some []
 | r::l=>match retv1 tm m r,retvs tm m l with
   | some v,some vs=>some (v::vs)
   | _,_=>none
def retv (res:List RV) (tm:Tm) (m:Mem):Option Value:=
 match retvs tm m res with
 | some [v]=>some v
 | some vs=>some (.tuple vs.toArray)
 | none=>none
def tm0 (args:List Value):Tm:=fun i=>args.getD i junk
def dstsO (l:List IOp):List Nat:=l.filterMap (·.d)
def C.dsts:C→List Nat
 | .rg l=>dstsO l
 | .seq a b=>a.dsts++b.dsts
 | .cond _ a b=>a.dsts++b.dsts
 | .block _ c=>c.dsts
 | .loop c=>c.dsts
 | _=>[]
abbrev Xs:=List (Nat×Bool)
inductive Task where
 | code (c:C) (tm:Tm)
 | ops (l:List IOp) (tm:Tm)
 | opsH (h:Mem) (X:Xs) (l:List IOp) (tm:Tm)
 | call (f:Nat) (args:List Value)
inductive Res where
 | exit (e:Ex) (tm:Tm)
 | ret (v:Value)
def Fresh (m:Mem) (n:Nat):Prop:=∀ b,n≤b→m b=none
def mrg (h m:Mem):Mem:=fun b=>match h b with
 | some x=>some x
 | none=>m b
def O.at (o:O) (tm:Tm):Option (Nat×Addr):=match o with
 | .st (.t s) _|.stn _ (.t s) _=>match tm s with
   | .pointer (some a)=>some (s,a)
   | _=>none
 | _=>none
def offG (o:IOp) (tm:Tm):Prop:=∃ g b,o.g=some (g,b)∧((∃ c,tm g=.bool c∧c≠b)∨∃ vs,tm g=.tuple vs)
def onG (o:IOp) (tm:Tm):Prop:=∀ g b,o.g=some (g,b)→tm g=.bool b
def E.slots:E→List Nat
 | .t i=>[i]
 | .k _=>[]
def oslots (e:Option E):List Nat:=match e with|some e=>e.slots|none=>[]
def O.slots:O→List Nat
 | .mv x|.box x|.ld x|.ldn _ x|.fa _ x|.eqnil _ x|.not x|.neg x|.len x|.lens x|.cap x|.fld _ _ x|.ext _ x|.cvi _ x|.cvsb x|.cvbs x|.nilc x|.clr _ _ x=>x.slots
 | .pick c a b=>c.slots++a.slots++b.slots
 | .new _=>[]
 | .st x v|.stn _ x v|.ia _ x v|.bin _ x v|.eqb _ x v|.eqs _ _ x v|.app _ _ x v|.ix x v|.cpy _ x v=>x.slots++v.slots
 | .mk _ _ _ l c=>l.slots++c.slots
 | .bs _ _ _ ps=>ps.flatMap fun p=>p.2.slots
 | .bd _ ps=>ps.flatMap fun p=>p.2.2.slots
 | .fn _ es|.call _ es|.mn es|.mx es=>es.flatMap E.slots
 | .calli f es=>f.slots++es.flatMap E.slots
 | .sl _ x a b c=>x.slots++oslots a++oslots b++oslots c
 | .sls x a b=>x.slots++oslots a++oslots b
def Leads (o:O) (tm:Tm) (b:Nat):Prop:=∃ s a,s∈o.slots∧a.block=b∧a.spot=none∧(tm s=.pointer (some a)∨∃ l c,tm s=.slice (some a) l c)
def O.isCall:O→Bool
 | .call _ _|.calli _ _=>true
 | _=>false
def XOk (o:O) (X:Xs) (b:Nat):Prop:=(b,false)∉X∧(o.isCall=false→(b,true)∉X)
def XAdd (o:O) (T:List Nat) (X:Xs):Xs:=T.map (fun b=>(b,o.isCall))++X
def XIn (X:Xs) (b:Nat):Prop:=∃ c,(b,c)∈X
theorem XAdd.mem {o:O} {T:List Nat} {X:Xs} {b:Nat} {c:Bool}:(b,c)∈XAdd o T X↔(b∈T∧c=o.isCall)∨(b,c)∈X:=by
 unfold XAdd
 simp only[List.mem_append,List.mem_map,Prod.mk.injEq]
 constructor
 ·rintro(⟨x,h1,rfl,rfl⟩|h)
  ·exact .inl ⟨h1,rfl⟩
  ·exact .inr h
 ·rintro(⟨h1,rfl⟩|h)
  ·exact .inl ⟨b,h1,rfl,rfl⟩
  ·exact .inr h
theorem XAdd.xin {o:O} {T:List Nat} {X:Xs} {b:Nat}:XIn (XAdd o T X) b↔b∈T∨XIn X b:=by
 unfold XIn
 constructor
 ·rintro⟨c,h⟩
  rcases XAdd.mem.1 h with⟨h1,_⟩|h
  ·exact .inl h1
  ·exact .inr ⟨c,h⟩
 ·rintro(h|⟨c,h⟩)
  ·exact⟨_,XAdd.mem.2 (.inl ⟨h,rfl⟩)⟩
  ·exact⟨c,XAdd.mem.2 (.inr h)⟩
structure HvR (o:O) (tm:Tm) (n:Nat) (h:Mem) (X:Xs) (T:List Nat) (m mh mh' h2 m2:Mem):Prop where
 sub:∀ b x,mh b=some x→(b∈T∧h b=some x)∨m b=some x
 tgt:∀ b,b∈T→XOk o X b∧m b=none∧(∃ x,h b=some x∧mh b=some x)∧Leads o tm b
 keep:∀ b x,mh b=some x→b∉T→mh' b=some x
 stay:∀ b x,h b=some x→b∉T→h2 b=some x
 outH:∀ b x,h2 b=some x→(b<n∧b∉T∧h b=some x)∨((b∈T∨n≤b)∧mh' b=some x)
 outM:∀ b x,m2 b=some x→(b<n∧m b=some x)∨(n≤b∧mh' b=some x)
 dis:∀ b x,h2 b=some x→m2 b=none
def numN (l:List UInt8) (d:Int):Int×Bool:=match Lib.atoiAll l with
 | .ok v=>if Lib.itoa v=l∧(((match l with
   | 45::r=>r
   | _=>l).length:Nat):Int)≤d then(v,true) else(0,false)
 | _=>(0,false)
def natS (f:Nat) (s:ByteArray) (y:Value):Option Value:=match y with
 | .int .i64 d=>if f=408∧s.size≤140737488355328 then some (.tuple #[.int .i64 (numN s.data.toList d).1,.bool (numN s.data.toList d).2]) else none
 | .int .u8 c=>if f=273 then some (.int .i64 (Lib.indexByte s.data.toList c.toNat.toUInt8)) else none
 | .string p=>match p.data.toList with
   | [c]=>if f=473 then some (.int .i64 (Lib.indexByte s.data.toList c)) else if f=472 then some (.int .i64 (Lib.countByte s.data.toList c)) else none
   | _=>none
 | _=>none
def nat (f:Nat) (args:List Value):Option Value:=match args with
 | [.string s,y]=>natS f s y
 | [.int .i64 n]=>if f=272∧-9223372036854775808≤n∧n≤9223372036854775807 then some (.string ⟨(Lib.itoa n).toArray⟩) else none
 | _=>none
theorem natS_inv {f:Nat} {s:ByteArray} {y v:Value} (h:natS f s y=some v):flat v=true∧(∀ g a b,v≠.func g a b)∧((∃ s,y=.string s)∨∃ k n,y=.int k n):=by
 unfold natS at h
 split at h
 ·split at h
  ·cases h;exact⟨rfl,nofun,.inr ⟨_,_,rfl⟩⟩
  ·cases h
 ·split at h
  ·cases h;exact⟨rfl,nofun,.inr ⟨_,_,rfl⟩⟩
  ·cases h
 ·split at h
  ·split at h
   ·cases h;exact⟨rfl,nofun,.inl ⟨_,rfl⟩⟩
   ·split at h
    ·cases h;exact⟨rfl,nofun,.inl ⟨_,rfl⟩⟩
    ·cases h
  ·cases h
 ·cases h
theorem nat_inv {f:Nat} {args:List Value} {v:Value} (h:nat f args=some v):flat v=true∧(∀ g a b,v≠.func g a b)∧∀ x,x∈args→(∃ s,x=.string s)∨∃ k n,x=.int k n:=by
 unfold nat at h
 split at h
 ·obtain⟨h1,h2,h3⟩:=natS_inv h
  refine⟨h1,h2,fun x hx=>?_⟩
  simp only[List.mem_cons,List.not_mem_nil,or_false] at hx
  rcases hx with rfl|rfl
  ·exact .inl ⟨_,rfl⟩
  ·exact h3
 ·split at h
  ·cases h
   refine⟨rfl,nofun,fun x hx=>?_⟩
   simp only[List.mem_cons,List.not_mem_nil,or_false] at hx
   subst hx;exact .inr ⟨_,_,rfl⟩
  ·cases h
 ·cases h
theorem nat_flat {f:Nat} {args:List Value} {v:Value} (h:nat f args=some v):flat v=true:=(nat_inv h).1
theorem nat_args {f:Nat} {args:List Value} {v:Value} (h:nat f args=some v):∀ x,x∈args→(∃ s,x=.string s)∨∃ k n,x=.int k n:=(nat_inv h).2.2
theorem nat_nofunc {f:Nat} {args:List Value} {v:Value} (h:nat f args=some v):∀ g a b,v≠.func g a b:=(nat_inv h).2.1
def strsV:List Value→Option (List ByteArray)
 | []=>some []
 | .string s::l=>match strsV l with
   | some r=>some (s::r)
   | none=>none
 | _=>none
theorem strsV_at:∀ {cs:List Value} {xs:List ByteArray},strsV cs=some xs→xs.length=cs.length∧∀ (j:Nat) x,xs[j]?=some x→cs[j]?=some (.string x)
 | [],xs,h=>by cases h;exact⟨rfl,fun j b h=>by simp at h⟩
 | .string s::l,xs,h=>by
   simp only[strsV] at h
   split at h
   ·rename_i r hr
    cases h
    obtain⟨h1,h2⟩:=strsV_at hr
    refine⟨by simp [h1],fun j x hj=>?_⟩
    cases j with
    | zero=>simp only[List.getElem?_cons_zero,Option.some.injEq] at hj ⊢;rw[hj]
    | succ j=>simp only[List.getElem?_cons_succ] at hj ⊢;exact h2 j x hj
   ·cases h
def joinB (xs:List ByteArray) (sep:ByteArray):List UInt8:=Lib.join (xs.map (·.data.toList)) sep.data.toList
def natJ (f:Nat) (args:List Value) (m:Mem):Option Value:=match args with
 | [.slice (some a) l c,.string s]=>match rdn m a l with
   | some vs=>match strsV vs with
     | some xs=>if f=407∧xs.length≤140737488355328∧(joinB xs s).length≤140737488355328∧l≤c then some (.string ⟨(joinB xs s).toArray⟩) else none
     | none=>none
   | none=>none
 | _=>none
theorem natJ_inv {f:Nat} {args:List Value} {m:Mem} {v:Value} (h:natJ f args m=some v):f=407∧∃ a l c s vs xs,args=[.slice (some a) l c,.string s]∧rdn m a l=some vs∧strsV vs=some xs ∧
 xs.length≤140737488355328∧(joinB xs s).length≤140737488355328∧l≤c∧v=.string ⟨(joinB xs s).toArray⟩:=by
 unfold natJ at h
 split at h
 ·split at h
  ·split at h
   ·split at h
    ·rename_i hk
     cases h
     exact⟨hk.1,_,_,_,_,_,_,rfl,by assumption,by assumption,hk.2.1,hk.2.2.1,hk.2.2.2,rfl⟩
    ·cases h
   ·cases h
  ·cases h
 ·cases h
inductive Big (G:Prg):Nat→Task→Mem→Nat→Res→Mem→Nat→Prop
 | skip {bs tm m n}:Big G bs (.code .skip tm) m n (.exit .normal tm) m n
 | ret {bs tm m n}:Big G bs (.code .ret tm) m n (.exit .ret tm) m n
 | exit {bs tm m n i}:Big G bs (.code (.exit i) tm) m n (.exit (.exit i) tm) m n
 | seqN {bs a b tm m n tm1 m1 n1 r m2 n2}:Big G bs (.code a tm) m n (.exit .normal tm1) m1 n1→Big G bs (.code b tm1) m1 n1 r m2 n2 →
    Big G bs (.code (.seq a b) tm) m n r m2 n2
 | seqE {bs a b tm m n e tm1 m1 n1}:Big G bs (.code a tm) m n (.exit e tm1) m1 n1→e≠.normal →
    Big G bs (.code (.seq a b) tm) m n (.exit e tm1) m1 n1
 | cond {bs c a b tm m n t r m1 n1}:c.ev tm=.bool t→Big G bs (.code (if t=true then a else b) tm) m n r m1 n1 →
    Big G bs (.code (.cond c a b) tm) m n r m1 n1
 | block {bs i c tm m n e tm1 m1 n1}:Big G bs (.code c tm) m n (.exit e tm1) m1 n1 →
    Big G bs (.code (.block i c) tm) m n (.exit (e.out i) tm1) m1 n1
 | loopN {bs c tm m n tm1 m1 n1 r m2 n2}:Big G bs (.code c tm) m n (.exit .normal tm1) m1 n1→Big G bs (.code (.loop c) tm1) m1 n1 r m2 n2 →
    Big G bs (.code (.loop c) tm) m n r m2 n2
 | loopE {bs c tm m n e tm1 m1 n1}:Big G bs (.code c tm) m n (.exit e tm1) m1 n1→e≠.normal →
    Big G bs (.code (.loop c) tm) m n (.exit e tm1) m1 n1
 | rg {bs l tm m n tm1 m1 n1}:Big G bs (.ops l tm) m n (.exit .normal tm1) m1 n1 →
    Big G bs (.code (.rg l) tm) m n (.exit .normal tm1) m1 n1
 | opsNil {bs tm m n}:Big G bs (.ops [] tm) m n (.exit .normal tm) m n
 | opsSkip {bs o l tm m n g b c r m1 n1}:o.g=some (g,b)→tm g=.bool c→c≠b→Big G bs (.ops l (put tm o.d nov)) m n r m1 n1 →
    Big G bs (.ops (o::l) tm) m n r m1 n1
 | opsNone {bs o l tm m n g b vs r m1 n1}:o.g=some (g,b)→tm g=.tuple vs→Big G bs (.ops l (put tm o.d nov)) m n r m1 n1 →
    Big G bs (.ops (o::l) tm) m n r m1 n1
 | opsPure {bs o l tm m n v m1 n1 r m2 n2}:(∀ g b,o.g=some (g,b)→tm g=.bool b)→stepO (if o.q then n else bs) o.o tm m n=some (v,m1,n1) →
    Big G bs (.ops l (put tm o.d v)) m1 n1 r m2 n2→Big G bs (.ops (o::l) tm) m n r m2 n2
 | opsAlt {bs o l tm m n v m1 n1 r m2 n2}:onG o tm→o.q=false→stepA bs o.o tm m n=some (v,m1,n1) →
    Big G bs (.ops l (put tm o.d v)) m1 n1 r m2 n2→Big G bs (.ops (o::l) tm) m n r m2 n2
 | opsCall {bs o l tm m n f args v m1 n1 r m2 n2}:(∀ g b,o.g=some (g,b)→tm g=.bool b)→o.o.callee tm=some (f,args) →
    Big G (if o.q then n else bs) (.call f args) m n (.ret v) m1 n1 →
    Big G bs (.ops l (put tm o.d v)) m1 n1 r m2 n2→Big G bs (.ops (o::l) tm) m n r m2 n2
 | rgH {bs h l tm m n tm1 m1 n1}:(∀ b x,h b=some x→m b=none)→Big G bs (.opsH h [] l tm) m n (.exit .normal tm1) m1 n1 →
    Big G bs (.code (.rg l) tm) (mrg h m) n (.exit .normal tm1) m1 n1
 | opsPureH {bs h o l tm m n v m1 n1 r m2 n2}:onG o tm→o.q=false→stepO bs o.o tm m n=some (v,mrg h m1,n1)→(∀ b x,h b=some x→m1 b=none) →
    Big G bs (.opsH h [] l (put tm o.d v)) m1 n1 r m2 n2→Big G bs (.ops (o::l) tm) m n r m2 n2
 | opsNewH {bs o l tm m n v blk r m2 n2}:onG o tm→o.q=true→stepO n o.o tm m n=some (v,upd m n (some blk),n+1) →
    Big G bs (.opsH (upd (fun _=>none) n (some blk)) [] l (put tm o.d v)) m (n+1) r m2 n2→Big G bs (.ops (o::l) tm) m n r m2 n2
 | hNil {bs h X tm m n}:Big G bs (.opsH h X [] tm) m n (.exit .normal tm) (mrg h m) n
 | hBar {bs h X o l tm m n r m1 n1}:o.q=false→Big G bs (.ops (o::l) tm) (mrg h m) n r m1 n1→Big G bs (.opsH h X (o::l) tm) m n r m1 n1
 | hSkip {bs h X o l tm m n r m1 n1}:o.q=true→offG o tm→Big G bs (.opsH h X l (put tm o.d nov)) m n r m1 n1→Big G bs (.opsH h X (o::l) tm) m n r m1 n1
 | hPure {bs h X o l tm m n v m1 n1 r m2 n2}:o.q=true→onG o tm→stepO n o.o tm m n=some (v,m1,n1) →
    Big G bs (.opsH h X l (put tm o.d v)) m1 n1 r m2 n2→Big G bs (.opsH h X (o::l) tm) m n r m2 n2
 | hCall {bs h X o l tm m n f args v m1 n1 r m2 n2}:o.q=true→onG o tm→o.o.callee tm=some (f,args) →
    Big G n (.call f args) m n (.ret v) m1 n1→Big G bs (.opsH h X l (put tm o.d v)) m1 n1 r m2 n2→Big G bs (.opsH h X (o::l) tm) m n r m2 n2
 | hNew {bs h X o l tm m n v blk r m2 n2}:o.q=true→onG o tm→stepO n o.o tm m n=some (v,upd m n (some blk),n+1) →
    Big G bs (.opsH (upd h n (some blk)) X l (put tm o.d v)) m (n+1) r m2 n2→Big G bs (.opsH h X (o::l) tm) m n r m2 n2
 | hSide {bs h X o l tm m n b0 blk blk1 s a v r m2 n2}:o.q=true→onG o tm→XOk o.o X b0→h b0=some blk→bs≤b0→o.o.at tm=some (s,a)→a.block=b0 →
    (∀ m' n',m' b0=some blk→stepO bs o.o tm m' n'=some (v,upd m' b0 (some blk1),n')) →
    Big G bs (.opsH (upd h b0 (some blk1)) (XAdd o.o [b0] X) l (put tm o.d v)) m n r m2 n2→Big G bs (.opsH h X (o::l) tm) m n r m2 n2
 | hHvO {bs h X T o l tm m mh n v mh' h2 m2 n1 r m3 n3}:o.q=true→onG o tm→stepO bs o.o tm mh n=some (v,mh',n1)→HvR o.o tm n h X T m mh mh' h2 m2 →
    Big G bs (.opsH h2 (XAdd o.o T X) l (put tm o.d v)) m2 n1 r m3 n3→Big G bs (.opsH h X (o::l) tm) m n r m3 n3
 | hHvC {bs h X T o l tm m mh n f args v mh' h2 m2 n1 r m3 n3}:o.q=true→onG o tm→o.o.callee tm=some (f,args)→Big G bs (.call f args) mh n (.ret v) mh' n1→HvR o.o tm n h X T m mh mh' h2 m2 →
    Big G bs (.opsH h2 (XAdd o.o T X) l (put tm o.d v)) m2 n1 r m3 n3→Big G bs (.opsH h X (o::l) tm) m n r m3 n3
 | call {bs f args fn m n e tm1 m1 n1 v}:G f=some fn→Big G bs (.code fn.body (tm0 args)) m n (.exit e tm1) m1 n1→(e=.normal∨e=.ret) →
    retv fn.res tm1 m1=some v→Big G bs (.call f args) m n (.ret v) m1 n1
 | callS {bs f args m n v m1 n1}:Big G bs (.call f args) m n (.ret v) m1 n1→flat v=true→sub m m1→Big G bs (.call f args) m n (.ret v) m n
 | callN {bs f args m n v}:nat f args=some v→Big G bs (.call f args) m n (.ret v) m n
 | callJ {bs f args m n v}:natJ f args m=some v→Big G bs (.call f args) m n (.ret v) m n
 | drop {bs T m n r m1 n1 m2}:Big G bs T m n r m1 n1→sub m2 m1→Big G bs T m n r m2 n1
 | rst {bs c tm m n e tm1 m1 n1 tm2}:Big G bs (.code c tm) m n (.exit e tm1) m1 n1→sub m m1 →
    (∀ t,(t∉c.dsts→tm2 t=tm1 t)∧(tm2 t=junk∨tm2 t=tm1 t∧(tm1 t=tm t∨flat (tm1 t)=true))) →
    Big G bs (.code c tm) m n (.exit e tm2) m n
 | jk {bs c tm m n e tm1 m1 n1 tm2}:Big G bs (.code c tm) m n (.exit e tm1) m1 n1 →
    (∀ t,(t∉c.dsts→tm2 t=tm1 t)∧(tm2 t=junk∨tm2 t=tm1 t)) →
    Big G bs (.code c tm) m n (.exit e tm2) m1 n1
 | wk {bs c tm m n r m1 n1 tm2}:Big G bs (.code c tm2) m n r m1 n1 →
    (∀ t,(t∉c.dsts→tm2 t=tm t)∧(tm2 t=junk∨tm2 t=tm t)) →
    Big G bs (.code c tm) m n r m1 n1
def W (G:Prg) (bs:Nat) (c:C) (Q:Ex→Tm→Mem→Nat→Prop) (tm:Tm) (m:Mem) (n:Nat):Prop:=
 ∃ e tm1 m1 n1,Big G bs (.code c tm) m n (.exit e tm1) m1 n1∧Q e tm1 m1 n1
def CallW (G:Prg) (f:Nat) (args:List Value) (bs:Nat) (m:Mem) (n:Nat) (K:Value→Mem→Nat→Prop):Prop:=
 ∃ v m1 n1,Big G bs (.call f args) m n (.ret v) m1 n1∧K v m1 n1
theorem CallW.mono {G f args bs m n K K'} (h:CallW G f args bs m n K) (hk:∀ v m1 n1,K v m1 n1→K' v m1 n1):CallW G f args bs m n K':=
 let ⟨v,m1,n1,b,k⟩:=h;⟨v,m1,n1,b,hk _ _ _ k⟩
theorem W.mono {G bs c Q Q' tm m n} (h:W G bs c Q tm m n) (hq:∀ e tm m n,Q e tm m n→Q' e tm m n):W G bs c Q' tm m n:=
 let ⟨e,tm1,m1,n1,b,k⟩:=h;⟨e,tm1,m1,n1,b,hq _ _ _ _ k⟩
abbrev Sm:=Nat→List Value→Option Value
def SmOk (G:Prg) (S:Sm):Prop:=∀ f args v,S f args=some v→∀ bs m n,∃ m1 n1,Big G bs (.call f args) m n (.ret v) m1 n1∧m1=m∧n1=n
theorem upd_id {α:Type} {f:Nat→α} {i:Nat} {x:α} (h:f i=x):upd f i x=f:=by
 funext j;unfold upd;split
 ·rename_i e;rw[e,h]
 ·rfl
def hd (D:List Nat) (tm:Tm) (S:List (Nat×Value)):Tm:=fun t =>
 match S.lookup t with
 | some v=>v
 | none=>if D.contains t then junk else tm t
def Task.kept:Task→Res→Prop
 | .code c tm,.exit _ tm1=>∀ t,t∉c.dsts→tm1 t=tm t
 | .ops l tm,.exit _ tm1=>∀ t,t∉dstsO l→tm1 t=tm t
 | .opsH _ _ l tm,.exit _ tm1=>∀ t,t∉dstsO l→tm1 t=tm t
 | _,_=>True
theorem put_kept (o:IOp) (l:List IOp) (tm:Tm) (v:Value) (t:Nat) (ht:t∉dstsO (o::l)):put tm o.d v t=tm t∧t∉dstsO l:=by
 unfold dstsO at *
 cases hd:o.d with
 | none=>simp [hd,put] at *;exact ht
 | some d =>
   simp only[List.filterMap_cons,hd,List.mem_cons,not_or] at ht
   exact⟨by simp [put,upd,ht.1],ht.2⟩
theorem kept_cons {o:IOp} {l:List IOp} {tm:Tm} {v:Value} {r:Res} (h:Task.kept (.ops l (put tm o.d v)) r):Task.kept (.ops (o::l) tm) r:=by
 cases r with
 | ret v=>trivial
 | exit e tm1=>intro t ht;have:=put_kept o l tm v t ht;rw[h t this.2,this.1]
theorem kept_consH {h h':Mem} {X X':Xs} {o:IOp} {l:List IOp} {tm:Tm} {v:Value} {r:Res} (k:Task.kept (.opsH h X l (put tm o.d v)) r):Task.kept (.opsH h' X' (o::l) tm) r:=by
 cases r with
 | ret v=>trivial
 | exit e tm1=>intro t ht;have:=put_kept o l tm v t ht;rw[k t this.2,this.1]
theorem Big.kept {G bs T m n r m1 n1} (h:Big G bs T m n r m1 n1):Task.kept T r:=by
 induction h with
 | seqN _ _ ih1 ih2 =>
   rename_i r _ _ _ _
   cases r with
   | ret v=>trivial
   | exit e tm=>intro t ht;simp only[C.dsts,List.mem_append,not_or] at ht;rw[ih2 t ht.2,ih1 t ht.1]
 | seqE _ _ ih=>intro t ht;simp only[C.dsts,List.mem_append,not_or] at ht;exact ih t ht.1
 | @cond bs c a b tm m n t r m1 n1 _ _ ih =>
   cases r with
   | ret v=>trivial
   | exit e tm =>
     intro u hu;simp only[C.dsts,List.mem_append,not_or] at hu
     cases t
     ·exact ih u (by simpa using hu.2)
     ·exact ih u (by simpa using hu.1)
 | block _ ih=>exact ih
 | loopN _ _ ih1 ih2 =>
   rename_i r _ _ _ _
   cases r with
   | ret v=>trivial
   | exit e tm=>intro t ht;rw[ih2 t ht,ih1 t ht]
 | loopE _ _ ih=>exact ih
 | rg _ ih=>exact ih
 | opsSkip _ _ _ _ ih=>exact kept_cons ih
 | opsNone _ _ _ ih=>exact kept_cons ih
 | opsPure _ _ _ ih=>exact kept_cons ih
 | opsAlt _ _ _ _ ih=>exact kept_cons ih
 | opsCall _ _ _ _ _ ih=>exact kept_cons ih
 | rgH _ _ ih=>exact ih
 | @opsPureH bs h o l tm m n v m1 n1 r m2 n2 _ _ _ _ _ ih =>
   cases r with
   | ret v=>trivial
   | exit e tm1=>exact kept_cons (o:=o) ih
 | @opsNewH bs o l tm m n v blk r m2 n2 _ _ _ _ ih =>
   cases r with
   | ret v=>trivial
   | exit e tm1=>exact kept_cons (o:=o) ih
 | hBar _ _ ih =>
   rename_i r _ _ _ _
   cases r with
   | ret v=>trivial
   | exit e tm1=>exact ih
 | hSkip _ _ _ ih=>exact kept_consH ih
 | hPure _ _ _ _ ih=>exact kept_consH ih
 | hCall _ _ _ _ _ _ ih=>exact kept_consH ih
 | hNew _ _ _ _ ih=>exact kept_consH ih
 | hSide _ _ _ _ _ _ _ _ _ ih=>exact kept_consH ih
 | hHvO _ _ _ _ _ ih=>exact kept_consH ih
 | hHvC _ _ _ _ _ _ _ ih=>exact kept_consH ih
 | drop _ _ ih=>exact ih
 | rst _ _ h ih=>intro t ht;rw[(h t).1 ht,ih t ht]
 | jk _ h ih=>intro t ht;rw[(h t).1 ht,ih t ht]
 | @wk bs c tm m n r m1 n1 tm2 _ h ih =>
   cases r with
   | ret v=>trivial
   | exit e tm=>intro t ht;rw[ih t ht,(h t).1 ht]
 | _=>first|trivial|exact fun t _=>rfl
theorem Big.dsts {G bs c tm m n e tm1 m1 n1} (h:Big G bs (.code c tm) m n (.exit e tm1) m1 n1):∀ t,t∉c.dsts→tm1 t=tm t:=Big.kept h
theorem SmOk.of {G S} (h:∀ f args v,S f args=some v→∀ bs m n,CallW G f args bs m n fun v' m1 n1=>v'=v∧m1=m∧n1=n):SmOk G S:=by
 intro f args v hv bs m n
 obtain⟨v',m1,n1,b,rfl,rfl,rfl⟩:=h f args v hv bs m n
 exact⟨m1,n1,b,rfl,rfl⟩
end Go.Proofs.YtoppcdecolponaaGreat.AL
namespace Go.Proofs.YtoppcdecolponaaGreat.AL
open Go
set_option linter.unusedVariables false
inductive VLt (n:Nat):Value→Prop
 | word {v}:flatW v=true→VLt n v
 | junk:VLt n .nilIface
 | nilFunc:VLt n .nilFunc
 | ptr {a:Addr}:a.block<n→VLt n (.pointer (some a))
 | slice {a:Addr} {l c}:a.block<n→VLt n (.slice (some a) l c)
 | empty:VLt n (.slice (some ⟨0,0,some 0⟩) 0 0)
 | func {f} {xs ys:Array Value}:(∀ x,x∈xs.toList→VLt n x)→(∀ y,y∈ys.toList→VLt n y)→VLt n (.func f xs ys)
 | agg {xs:Array Value}:(∀ x,x∈xs.toList→VLt n x)→VLt n (.agg xs)
 | tuple {xs:Array Value}:(∀ x,x∈xs.toList→VLt n x)→VLt n (.tuple xs)
theorem VLt.mono {n n1:Nat} (h:n≤n1) {v:Value} (hv:VLt n v):VLt n1 v:=by
 induction hv with
 | word h=>exact .word h
 | junk=>exact .junk
 | nilFunc=>exact .nilFunc
 | ptr h1=>exact .ptr (by omega)
 | slice h1=>exact .slice (by omega)
 | empty=>exact .empty
 | func _ _ ih1 ih2=>exact .func ih1 ih2
 | agg _ ih=>exact .agg ih
 | tuple _ ih=>exact .tuple ih
theorem VLt.flatA {n:Nat} {v:Value} (h:flatA v=true):VLt n v:=by
 cases v with
 | agg xs=>exact .agg fun x hx=>.word (List.all_eq_true.1 h x hx)
 | _=>exact .word h
theorem VLt.flat {n:Nat} {v:Value} (h:flat v=true):VLt n v:=by
 cases v with
 | nilFunc=>exact .nilFunc
 | func f xs ys =>
   simp only[AL.flat,Bool.and_eq_true,beq_iff_eq] at h
   exact .func (fun x hx=>by
    have:xs = #[]:=Array.eq_empty_of_size_eq_zero h.1
    subst this;simp at hx) (fun x hx=>by
    have:ys = #[]:=Array.eq_empty_of_size_eq_zero h.2
    subst this;simp at hx)
 | tuple xs=>exact .tuple fun x hx=>.flatA (List.all_eq_true.1 h x hx)
 | _=>exact .flatA h
def MLt (m:Mem) (n:Nat):Prop:=∀ b blk,m b=some blk→b<n∧∀ c,c∈blk.cells→VLt n c
theorem MLt.mono {m:Mem} {n n1:Nat} (h:MLt m n) (hn:n≤n1):MLt m n1:=fun b blk e=>⟨by have:=(h b blk e).1;omega,fun c hc=>((h b blk e).2 c hc).mono hn⟩
theorem MLt.sub {m m1:Mem} {n:Nat} (h:MLt m n) (hs:AL.sub m1 m):MLt m1 n:=fun b blk e=>h b blk (hs _ _ e)
theorem MLt.fresh {m:Mem} {n:Nat} (h:MLt m n):Fresh m n:=by
 intro b hb
 cases e:m b with
 | none=>rfl
 | some blk=>have:=(h b blk e).1;omega
def TLt (tm:Tm) (n:Nat):Prop:=∀ t,VLt n (tm t)
theorem TLt.put {tm:Tm} {n:Nat} (h:TLt tm n) (d:Option Nat) {v:Value} (hv:VLt n v):TLt (put tm d v) n:=by
 cases d with
 | none=>exact h
 | some d =>
   intro t
   simp only[AL.put,upd]
   split
   ·exact hv
   ·exact h t
theorem TLt.mono {tm:Tm} {n n1:Nat} (h:TLt tm n) (hn:n≤n1):TLt tm n1:=fun t=>(h t).mono hn
def E.ok:E→Bool
 | .t _=>true
 | .k v=>flat v
theorem E.lt {tm:Tm} {n:Nat} (h:TLt tm n) {e:E} (he:e.ok=true):VLt n (e.ev tm):=by
 cases e with
 | t i=>exact h i
 | k v=>exact .flat he
def optOk (e:Option E):Bool:=match e with|some e=>e.ok|none=>true
def O.ok:O→Bool
 | .mv x|.box x|.ld x|.ldn _ x|.fa _ x|.eqnil _ x|.not x|.neg x|.len x|.lens x|.cap x|.fld _ _ x|.ext _ x|.cvi _ x|.cvsb x|.cvbs x|.nilc x=>x.ok
 | .clr _ z x=>x.ok && z.all flatW
 | .pick c a b=>c.ok && a.ok && b.ok
 | .new z=>z.all flatW
 | .st x v|.stn _ x v|.ia _ x v|.bin _ x v|.eqb _ x v|.eqs _ _ x v|.app _ _ x v|.ix x v|.cpy _ x v=>x.ok && v.ok
 | .mk _ _ z l c=>z.all flatW && l.ok && c.ok
 | .bs _ _ z ps=>z.all flatW && ps.all fun p=>p.2.ok
 | .bd z ps=>z.all flatW && ps.all fun p=>p.2.2.ok
 | .fn _ es|.call _ es|.mn es|.mx es=>es.all E.ok
 | .calli f es=>f.ok && es.all E.ok
 | .sl _ x a b c=>x.ok && optOk a && optOk b && optOk c
 | .sls x a b=>x.ok && optOk a && optOk b
theorem rd_lt {m:Mem} {n:Nat} (h:MLt m n) {a:Addr} {v:Value} (hr:rd m a=some v):VLt n v:=by
 unfold rd at hr
 split at hr
 ·cases hr
 ·split at hr
  ·rename_i b hb
   exact(h _ _ hb).2 _ (List.mem_of_getElem? hr)
  ·cases hr
theorem rdn_lt {m:Mem} {n:Nat} (h:MLt m n) {a:Addr} {k:Nat} {vs:List Value} (hr:rdn m a k=some vs):∀ v,v∈vs→VLt n v:=by
 unfold rdn at hr
 split at hr
 ·cases hr
 ·split at hr
  ·rename_i b hb
   split at hr
   ·cases hr
    intro v hv
    exact(h _ _ hb).2 _ (List.mem_of_mem_drop (List.mem_of_mem_take hv))
   ·cases hr
  ·cases hr
theorem MLt.upd {m:Mem} {n n1:Nat} (h:MLt m n) (hn:n≤n1) {b:Nat} {x:Option Blk} (hb:x.isSome=true→b<n1) (hx:∀ blk,x=some blk→∀ c,c∈blk.cells→VLt n1 c):MLt (upd m b x) n1:=by
 intro b' blk e
 simp only[AL.upd] at e
 split at e
 ·rename_i e1;subst e1;exact⟨hb (by rw[e];rfl),hx blk e⟩
 ·exact h.mono hn b' blk e
theorem wrn_lt {bs:Nat} {m m1:Mem} {n:Nat} (h:MLt m n) {a:Addr} {vs:List Value} (hw:wrn bs m a vs=some m1) (hv:∀ v,v∈vs→VLt n v):MLt m1 n:=by
 unfold wrn at hw
 split at hw
 ·cases hw
 ·split at hw
  ·rename_i b hb
   split at hw
   ·cases hw
    refine h.upd (Nat.le_refl _) (fun _=>(h _ _ hb).1) fun blk e c hc=>?_
    cases e
    simp only[List.mem_append] at hc
    rcases hc with(hc|hc)|hc
    ·exact(h _ _ hb).2 _ (List.mem_of_mem_take hc)
    ·exact hv c hc
    ·exact(h _ _ hb).2 _ (List.mem_of_mem_drop hc)
   ·cases hw
  ·cases hw
theorem wr_lt {bs:Nat} {m m1:Mem} {n:Nat} (h:MLt m n) {a:Addr} {v:Value} (hw:wr bs m a v=some m1) (hv:VLt n v):MLt m1 n:=by
 unfold wr at hw
 split at hw
 ·cases hw
 ·split at hw
  ·rename_i b hb
   split at hw
   ·cases hw
    refine h.upd (Nat.le_refl _) (fun _=>(h _ _ hb).1) fun blk e c hc=>?_
    cases e
    rcases List.mem_or_eq_of_mem_set hc with hc|hc
    ·exact(h _ _ hb).2 _ hc
    ·rw[hc];exact hv
   ·cases hw
  ·cases hw
theorem cells_lt {n:Nat} {v:Value} (h:VLt n v):∀ c,c∈v.cells.toList→VLt n c:=by
 cases v with
 | agg xs =>
   cases h with
   | word h=>cases h
   | agg h=>exact h
 | _=>intro c hc;simp [Value.cells] at hc;rw[hc];exact h
theorem fill_lt {n:Nat}:∀ (ps:List (Nat×List Value)) (l:List Value),(∀ c,c∈l→VLt n c)→(∀ p,p∈ps→∀ c,c∈p.2→VLt n c)→∀ c,c∈fill l ps→VLt n c
 | [],l,h,_,c,hc=>h c hc
 | (i,vs)::ps,l,h,hp,c,hc=>by
   simp only[fill] at hc
   refine fill_lt ps _ ?_ (fun p hpm=>hp p (List.mem_cons_of_mem _ hpm)) c hc
   intro c hc
   simp only[List.mem_append] at hc
   rcases hc with(hc|hc)|hc
   ·exact h c (List.mem_of_mem_take hc)
   ·exact hp _ (List.mem_cons_self ..) c hc
   ·exact h c (List.mem_of_mem_drop hc)
theorem binv_flat {op:BinOp} {x y v:Value} (h:binv op x y=some v):flatW v=true:=by
 unfold binv at h
 split at h
 ·cases op <;> simp only at h <;> (split at h) <;> (try split at h) <;> cases h <;> rfl
 ·cases op <;> simp only at h <;> (try split at h) <;> cases h <;> rfl
 ·cases h
theorem foldv_lt {f:Value→Value→Option Value} (hf:∀ x y z,f x y=some z→flatW z=true) {n:Nat}:∀ (l:List Value) (x z:Value),VLt n x→foldv f x l=some z→VLt n z
 | [],x,z,hx,h=>by simp [foldv] at h;subst h;exact hx
 | y::l,x,z,hx,h=>by
   simp only[foldv] at h
   split at h
   ·rename_i u hu;exact foldv_lt hf l u z (.word (hf _ _ _ hu)) h
   ·cases h
theorem min2v_flat (x y z:Value) (h:min2v x y=some z):flatW z=true:=by
 unfold min2v at h;split at h
 ·split at h <;> cases h;rfl
 ·cases h
theorem max2v_flat (x y z:Value) (h:max2v x y=some z):flatW z=true:=by
 unfold max2v at h;split at h
 ·split at h <;> cases h;rfl
 ·cases h
theorem all_lt {n:Nat} {z:List Value} (h:z.all flatW=true):∀ c,c∈z→VLt n c:=fun c hc=>.word (List.all_eq_true.1 h c hc)
theorem slc_lt {n l c:Nat}:VLt (n+1) (slc n 0 l c):=.slice (by show n<n+1;omega)
theorem slice_lt {n:Nat} {a:Addr} {l c:Nat} (h:VLt n (.slice (some a) l c)) (hs:a.spot=none):a.block<n:=by
 cases h with
 | word h=>cases h
 | slice h=>exact h
 | empty=>cases hs
theorem ptr_lt {n:Nat} {a:Addr} (h:VLt n (.pointer (some a))):a.block<n:=by
 cases h with
 | word h=>cases h
 | ptr h=>exact h
set_option maxHeartbeats 1000000 in
theorem step_lt {bs n n1:Nat} {io:O} {tm:Tm} {m m1:Mem} {v:Value} (hok:io.ok=true) (hs:stepO bs io tm m n=some (v,m1,n1)) (hT:TLt tm n) (hM:MLt m n):n≤n1∧VLt n1 v∧MLt m1 n1:=by
 have keep:∀ {v:Value},VLt n v→n≤n∧VLt n v∧MLt m n:=fun h=>⟨Nat.le_refl _,h,hM⟩
 have mk:∀ {v:Value} {cells:List Value} {sz:Nat},VLt (n+1) v→(∀ c,c∈cells→VLt n c)→n≤n+1∧VLt (n+1) v∧MLt (upd m n (some ⟨cells,true,sz⟩)) (n+1):=by
  intro v cells sz hv hc
  refine⟨by omega,hv,hM.upd (by omega) (fun _=>by omega) fun blk e c hm=>?_⟩
  cases e
  exact(hc c hm).mono (by omega)
 cases io with
 | mv x =>
   simp only[stepO,Option.some.injEq,Prod.mk.injEq] at hs
   obtain⟨rfl,rfl,rfl⟩:=hs
   exact keep (E.lt hT hok)
 | pick c a b =>
   simp only[O.ok,Bool.and_eq_true] at hok
   simp only[stepO] at hs
   split at hs
   ·rename_i t _
    simp only[Option.some.injEq,Prod.mk.injEq] at hs
    obtain⟨rfl,rfl,rfl⟩:=hs
    cases t
    ·exact keep (E.lt hT hok.2)
    ·exact keep (E.lt hT hok.1.2)
   ·cases hs
 | new z =>
   simp only[stepO,Option.some.injEq,Prod.mk.injEq] at hs
   obtain⟨rfl,rfl,rfl⟩:=hs
   exact mk (.ptr (by show n<n+1;omega)) (all_lt hok)
 | box x =>
   simp only[stepO] at hs
   split at hs
   ·cases hs
   ·simp only[Option.some.injEq,Prod.mk.injEq] at hs
    obtain⟨rfl,rfl,rfl⟩:=hs
    exact mk (.ptr (by show n<n+1;omega)) (cells_lt (E.lt hT hok))
 | ld x =>
   simp only[stepO] at hs
   repeat' (split at hs)
   all_goals first
    | (cases hs;done)
    | (simp only[Option.some.injEq,Prod.mk.injEq] at hs;obtain⟨rfl,rfl,rfl⟩:=hs;exact keep (rd_lt hM (by assumption)))
 | ldn k x =>
   simp only[stepO] at hs
   repeat' (split at hs)
   all_goals first
    | (cases hs;done)
    | (simp only[Option.some.injEq,Prod.mk.injEq] at hs;obtain⟨rfl,rfl,rfl⟩:=hs;exact keep (.agg fun c hc=>rdn_lt hM (by assumption) c (by simpa using hc)))
 | st x y =>
   simp only[O.ok,Bool.and_eq_true] at hok
   simp only[stepO] at hs
   repeat' (split at hs)
   all_goals first
    | (cases hs;done)
    | (simp only[Option.some.injEq,Prod.mk.injEq] at hs;obtain⟨rfl,rfl,rfl⟩:=hs;exact⟨Nat.le_refl _,.junk,wr_lt hM (by assumption) (E.lt hT hok.2)⟩)
 | stn k x y =>
   simp only[O.ok,Bool.and_eq_true] at hok
   simp only[stepO] at hs
   split at hs
   ·rename_i a vs h1 h2
    split at hs
    ·split at hs
     ·rename_i m2 hw
      simp only[Option.some.injEq,Prod.mk.injEq] at hs
      obtain⟨rfl,rfl,rfl⟩:=hs
      refine⟨Nat.le_refl _,.junk,wrn_lt hM hw fun c hc=>?_⟩
      have:=E.lt hT hok.2
      rw[h2] at this
      exact cells_lt this c hc
     ·cases hs
    ·cases hs
   ·cases hs
 | fa off x =>
   simp only[stepO] at hs
   split at hs
   ·rename_i a h1
    split at hs
    ·cases hs
    ·simp only[Option.some.injEq,Prod.mk.injEq] at hs
     obtain⟨rfl,rfl,rfl⟩:=hs
     have:=E.lt hT hok
     rw[h1] at this
     have:=ptr_lt this
     exact keep (.ptr (by show a.block<n;exact this))
   ·cases hs
 | ia sz x i =>
   simp only[O.ok,Bool.and_eq_true] at hok
   simp only[stepO] at hs
   split at hs
   ·rename_i a l c k j h1 h2
    split at hs
    ·cases hs
    ·rename_i hsp
     split at hs
     ·simp only[Option.some.injEq,Prod.mk.injEq] at hs
      obtain⟨rfl,rfl,rfl⟩:=hs
      have:=E.lt hT hok.1
      rw[h1] at this
      have:=slice_lt this (by simpa using hsp)
      exact keep (.ptr (by show a.block<n;exact this))
     ·cases hs
   ·cases hs
 | bin op x y =>
   simp only[stepO] at hs
   split at hs
   ·rename_i u hu
    simp only[Option.some.injEq,Prod.mk.injEq] at hs
    obtain⟨rfl,rfl,rfl⟩:=hs
    exact keep (.word (binv_flat hu))
   ·cases hs
 | mk sz by_ z l c =>
   simp only[O.ok,Bool.and_eq_true] at hok
   simp only[stepO] at hs
   split at hs
   ·split at hs
    ·simp only[Option.some.injEq,Prod.mk.injEq] at hs
     obtain⟨rfl,rfl,rfl⟩:=hs
     refine mk slc_lt fun c hc=>?_
     simp only[List.mem_flatten,List.mem_replicate] at hc
     obtain⟨l,⟨_,rfl⟩,hl⟩:=hc
     exact all_lt hok.1.1 c hl
    ·cases hs
   ·cases hs
 | bs sz k z ps =>
   simp only[O.ok,Bool.and_eq_true] at hok
   simp only[stepO] at hs
   split at hs
   ·simp only[Option.some.injEq,Prod.mk.injEq] at hs
    obtain⟨rfl,rfl,rfl⟩:=hs
    refine mk slc_lt (fill_lt _ _ (fun c hc=>?_) fun p hp c hc=>?_)
    ·simp only[List.mem_flatten,List.mem_replicate] at hc
     obtain⟨l,⟨_,rfl⟩,hl⟩:=hc
     exact all_lt hok.1 c hl
    ·simp only[List.mem_map] at hp
     obtain⟨q,hq,rfl⟩:=hp
     exact cells_lt (E.lt hT (List.all_eq_true.1 hok.2 q hq)) c hc
   ·cases hs
 | bd z ps =>
   simp only[O.ok,Bool.and_eq_true] at hok
   simp only[stepO] at hs
   split at hs
   ·simp only[Option.some.injEq,Prod.mk.injEq] at hs
    obtain⟨rfl,rfl,rfl⟩:=hs
    refine keep (.agg fun c hc=>fill_lt _ _ (all_lt hok.1) (fun p hp c hc=>?_) c (by simpa using hc))
    simp only[List.mem_map] at hp
    obtain⟨q,hq,rfl⟩:=hp
    exact cells_lt (E.lt hT (List.all_eq_true.1 hok.2 q hq)) c hc
   ·cases hs
 | fld off k x =>
   simp only[stepO] at hs
   split at hs
   ·rename_i cs h1
    have hx:=E.lt hT hok
    rw[h1] at hx
    have hc:=cells_lt hx
    cases k with
    | none =>
      simp only at hs
      split at hs
      ·rename_i u hu
       simp only[Option.some.injEq,Prod.mk.injEq] at hs
       obtain⟨rfl,rfl,rfl⟩:=hs
       exact keep (hc _ (Array.mem_toList_iff.2 (Array.mem_of_getElem? hu)))
      ·cases hs
    | some k =>
      simp only[Option.some.injEq,Prod.mk.injEq] at hs
      obtain⟨rfl,rfl,rfl⟩:=hs
      refine keep (.agg fun c hcm=>hc c ?_)
      rw[Array.toList_extract,List.extract_eq_take_drop] at hcm
      exact List.mem_of_mem_drop (List.mem_of_mem_take hcm)
   ·cases hs
 | ext i x =>
   simp only[stepO] at hs
   split at hs
   ·rename_i vs h1
    split at hs
    ·rename_i u hu
     simp only[Option.some.injEq,Prod.mk.injEq] at hs
     obtain⟨rfl,rfl,rfl⟩:=hs
     have hx:=E.lt hT hok
     rw[h1] at hx
     cases hx with
     | word h=>cases h
     | tuple h=>exact keep (h _ (Array.mem_toList_iff.2 (Array.mem_of_getElem? hu)))
    ·cases hs
   ·cases hs
 | fn f es =>
   simp only[stepO,Option.some.injEq,Prod.mk.injEq] at hs
   obtain⟨rfl,rfl,rfl⟩:=hs
   refine keep (.func (fun x hx=>by simp at hx) fun y hy=>?_)
   simp only[List.mem_map] at hy
   obtain⟨e,he,rfl⟩:=hy
   exact E.lt hT (List.all_eq_true.1 hok e he)
 | app sz by_ s x =>
   simp only[O.ok,Bool.and_eq_true] at hok
   simp only[stepO] at hs
   split at hs
   ·rename_i base len cap xb xl xc h1 h2
    have hsl:=E.lt hT hok.1
    split at hs
    ·split at hs
     ·simp only[Option.some.injEq,Prod.mk.injEq] at hs
      obtain⟨rfl,rfl,rfl⟩:=hs
      rw[h1] at hsl
      exact keep hsl
     ·split at hs
      ·cases hs
      ·split at hs
       ·cases hs
       ·rename_i new hnew
        split at hs
        ·split at hs
         ·split at hs
          ·simp only[Option.some.injEq,Prod.mk.injEq] at hs
           obtain⟨rfl,rfl,rfl⟩:=hs
           exact mk slc_lt (rdn_lt hM hnew)
          ·cases hs
         ·split at hs
          ·cases hs
          ·split at hs
           ·cases hs
           ·rename_i blk hblk
            split at hs
            ·simp only[Option.some.injEq,Prod.mk.injEq] at hs
             obtain⟨rfl,rfl,rfl⟩:=hs
             have hM1:∀ b0,MLt (upd m b0 none) n:=fun b0=>hM.upd (Nat.le_refl _) (fun h=>by cases h) (fun blk e=>by cases e)
             refine⟨by omega,slc_lt,(hM1 _).upd (by omega) (fun _=>by omega) fun b e c hc=>?_⟩
             cases e
             simp only[List.mem_append] at hc
             rcases hc with hc|hc
             ·exact((hM _ _ hblk).2 _ (List.mem_of_mem_drop (List.mem_of_mem_take hc))).mono (by omega)
             ·exact(rdn_lt hM hnew c hc).mono (by omega)
            ·cases hs
        ·cases hs
    ·cases hs
   ·cases hs
 | sl sz x lo hi mx =>
   simp only[O.ok,Bool.and_eq_true] at hok
   simp only[stepO] at hs
   split at hs
   case h_2=>cases hs
   rename_i ad len cap h1
   have hx:=E.lt hT hok.1.1.1
   rw[h1] at hx
   split at hs
   ·cases hs
   split at hs
   ·cases hs
   split at hs
   ·cases hs
   split at hs
   case isFalse=>cases hs
   split at hs
   ·simp only[Option.some.injEq,Prod.mk.injEq] at hs
    obtain⟨rfl,rfl,rfl⟩:=hs
    exact keep (.word rfl)
   ·split at hs
    ·simp only[Option.some.injEq,Prod.mk.injEq] at hs
     obtain⟨rfl,rfl,rfl⟩:=hs
     exact keep .empty
    ·split at hs
     ·cases hs
     ·rename_i hsp
      split at hs
      ·cases hs
      ·split at hs
       ·simp only[Option.some.injEq,Prod.mk.injEq] at hs
        obtain⟨rfl,rfl,rfl⟩:=hs
        have:=slice_lt hx (by simpa using hsp)
        refine keep (.slice ?_)
        split <;> exact this
       ·cases hs
 | nilc x =>
   simp only[stepO] at hs
   split at hs
   ·rename_i a h1
    simp only[Option.some.injEq,Prod.mk.injEq] at hs
    obtain⟨rfl,rfl,rfl⟩:=hs
    have hx:=E.lt hT hok
    rw[h1] at hx
    exact keep hx
   ·rename_i f a b h1
    simp only[Option.some.injEq,Prod.mk.injEq] at hs
    obtain⟨rfl,rfl,rfl⟩:=hs
    have hx:=E.lt hT hok
    rw[h1] at hx
    exact keep hx
   ·cases hs
 | mn xs =>
   simp only[stepO] at hs
   split at hs
   ·cases hs
   ·rename_i x l h1
    split at hs
    ·rename_i u hu
     simp only[Option.some.injEq,Prod.mk.injEq] at hs
     obtain⟨rfl,rfl,rfl⟩:=hs
     have:x∈xs.map (·.ev tm):=by rw[h1];exact List.mem_cons_self ..
     simp only[List.mem_map] at this
     obtain⟨e,he,rfl⟩:=this
     exact keep (foldv_lt min2v_flat _ _ _ (E.lt hT (List.all_eq_true.1 hok e he)) hu)
    ·cases hs
 | mx xs =>
   simp only[stepO] at hs
   split at hs
   ·cases hs
   ·rename_i x l h1
    split at hs
    ·rename_i u hu
     simp only[Option.some.injEq,Prod.mk.injEq] at hs
     obtain⟨rfl,rfl,rfl⟩:=hs
     have:x∈xs.map (·.ev tm):=by rw[h1];exact List.mem_cons_self ..
     simp only[List.mem_map] at this
     obtain⟨e,he,rfl⟩:=this
     exact keep (foldv_lt max2v_flat _ _ _ (E.lt hT (List.all_eq_true.1 hok e he)) hu)
    ·cases hs
 | clr sz z x =>
   simp only[O.ok,Bool.and_eq_true] at hok
   simp only[stepO] at hs
   repeat' (split at hs)
   all_goals first
    | (cases hs;done)
    | (simp only[Option.some.injEq,Prod.mk.injEq] at hs;obtain⟨rfl,rfl,rfl⟩:=hs;exact keep .junk)
    | (simp only[Option.some.injEq,Prod.mk.injEq] at hs;obtain⟨rfl,rfl,rfl⟩:=hs;exact⟨Nat.le_refl _,.junk,wrn_lt hM (by assumption) (fun c hc=>by
        rw[List.mem_flatten] at hc
        obtain⟨l,hl1,hl2⟩:=hc
        rw[List.mem_replicate] at hl1
        rw[hl1.2] at hl2
        exact all_lt hok.2 c hl2)⟩)
 | _ =>
   simp only[stepO] at hs
   repeat' (split at hs)
   all_goals first
    | (cases hs;done)
    | (simp only[Option.some.injEq,Prod.mk.injEq] at hs;obtain⟨rfl,rfl,rfl⟩:=hs;exact keep (.word rfl))
def C.ok:C→Bool
 | .rg l=>l.all fun o=>o.o.ok
 | .seq a b=>a.ok && b.ok
 | .cond c a b=>c.ok && a.ok && b.ok
 | .block _ c=>c.ok
 | .loop c=>c.ok
 | _=>true
def Task.okT (G:Prg):Task→Bool
 | .code c _=>c.ok
 | .ops l _=>l.all fun o=>o.o.ok
 | .opsH _ _ l _=>l.all fun o=>o.o.ok
 | .call _ _=>true
def Task.lt (n:Nat):Task→Prop
 | .code _ tm=>TLt tm n
 | .ops _ tm=>TLt tm n
 | .opsH h _ _ tm=>TLt tm n∧MLt h n
 | .call _ args=>∀ x,x∈args→VLt n x
def Res.lt (n:Nat):Res→Prop
 | .exit _ tm=>TLt tm n
 | .ret v=>VLt n v
theorem callee_lt {n:Nat} {io:O} {tm:Tm} {f:Nat} {args:List Value} (hok:io.ok=true) (hT:TLt tm n) (h:io.callee tm=some (f,args)):∀ x,x∈args→VLt n x:=by
 cases io with
 | call g es =>
   simp only[O.callee,Option.some.injEq,Prod.mk.injEq] at h
   obtain⟨rfl,rfl⟩:=h
   intro x hx
   simp only[List.mem_map] at hx
   obtain⟨e,he,rfl⟩:=hx
   exact E.lt hT (List.all_eq_true.1 hok e he)
 | calli f es =>
   simp only[O.ok,Bool.and_eq_true] at hok
   simp only[O.callee] at h
   split at h
   ·rename_i g a b hg
    simp only[Option.some.injEq,Prod.mk.injEq] at h
    obtain⟨rfl,rfl⟩:=h
    have hf:=E.lt hT hok.1
    rw[hg] at hf
    cases hf with
    | word h=>cases h
    | func h1 h2 =>
      intro x hx
      simp only[List.mem_append,List.mem_map] at hx
      rcases hx with(hx|⟨e,he,rfl⟩)|hx
      ·exact h1 x hx
      ·exact E.lt hT (List.all_eq_true.1 hok.2 e he)
      ·exact h2 x hx
   ·cases h
 | _=>cases h
theorem retv_lt {n:Nat} {res:List RV} {tm:Tm} {m:Mem} {v:Value} (hT:TLt tm n) (hM:MLt m n) (h:retv res tm m=some v):VLt n v:=by
 have one:∀ r u,retv1 tm m r=some u→VLt n u:=by
  intro r u hu
  cases r with
  | tmp t=>simp [retv1] at hu;subst hu;exact hT t
  | cell t =>
    simp only[retv1] at hu
    split at hu
    ·exact rd_lt hM hu
    ·cases hu
  | celln t k =>
    simp only[retv1] at hu
    split at hu
    ·split at hu
     ·rename_i vs hvs
      cases hu
      exact .agg fun c hc=>rdn_lt hM hvs c (by simpa using hc)
     ·cases hu
    ·cases hu
 have all:∀ res vs,retvs tm m res=some vs→∀ u,u∈vs→VLt n u:=by
  intro res
  induction res with
  | nil=>intro vs hv u hu;simp [retvs] at hv;subst hv;simp at hu
  | cons r l ih =>
    intro vs hv u hu
    simp only[retvs] at hv
    split at hv
    ·rename_i x xs h1 h2
     cases hv
     simp only[List.mem_cons] at hu
     rcases hu with rfl|hu
     ·exact one _ _ h1
     ·exact ih _ h2 _ hu
    ·cases hv
 unfold retv at h
 split at h
 ·rename_i u hu;cases h;exact all _ _ hu _ (List.mem_cons_self ..)
 ·rename_i vs _ hvs;cases h;exact .tuple fun c hc=>all _ _ hvs c (by simpa using hc)
 ·cases h
theorem nov_lt {n:Nat}:VLt n nov:=.tuple fun x hx=>by simp at hx
def Own (m:Mem) (b:Nat):Prop:=∃ x,m b=some x∧x.own=true
theorem mrg_none {h m:Mem} {b:Nat} (e:h b=none):mrg h m b=m b:=by simp only[mrg,e]
theorem mrg_some {h m:Mem} {b:Nat} {x:Blk} (e:h b=some x):mrg h m b=some x:=by simp only[mrg,e]
theorem mrg_inv {h m:Mem} {b:Nat} {x:Blk} (e:mrg h m b=some x):h b=some x∨(h b=none∧m b=some x):=by
 unfold mrg at e
 split at e
 ·rename_i y hy;cases e;exact .inl hy
 ·rename_i hy;exact .inr ⟨hy,e⟩
theorem MLt.mrg {h m:Mem} {n:Nat} (hh:MLt h n) (hm:MLt m n):MLt (AL.mrg h m) n:=by
 intro b blk e
 rcases mrg_inv e with e|⟨_,e⟩
 ·exact hh b blk e
 ·exact hm b blk e
theorem MLt.unmrg {h m:Mem} {n:Nat} (hd:∀ b x,h b=some x→m b=none) (hm:MLt (AL.mrg h m) n):MLt h n∧MLt m n:=by
 refine⟨fun b blk e=>hm b blk (mrg_some e),fun b blk e=>?_⟩
 cases e1:h b with
 | some x=>rw[hd b x e1] at e;cases e
 | none=>exact hm b blk (by rw[mrg_none e1];exact e)
theorem stepA_lt {bs n n1:Nat} {io:O} {tm:Tm} {m m1:Mem} {v:Value} (hs:stepA bs io tm m n=some (v,m1,n1)) (hM:MLt m n):n≤n1∧VLt n1 v∧MLt m1 n1:=by
 obtain⟨sz,x,lo,hi,a,len,cap,h,l,b,_,_,_,_,_,_,_,_,hb,_,_,_,_,rfl,rfl,rfl⟩:=stepA_inv hs
 refine⟨by omega,slc_lt,?_⟩
 refine(hM.upd (n1:=n) (Nat.le_refl _) (fun h=>by cases h) (fun _ e=>by cases e)).upd (by omega) (fun _=>by omega) fun blk e c hc=>?_
 cases e
 exact((hM _ _ hb).2 c (List.mem_of_mem_drop (List.mem_of_mem_take hc))).mono (by omega)
theorem HvR.lt {o:O} {tm:Tm} {n:Nat} {h m mh mh' h2 m2:Mem} {X:Xs} {T:List Nat} (hv:HvR o tm n h X T m mh mh' h2 m2) (hh:MLt h n) (hm:MLt m n):MLt mh n:=fun b x e=>by
 rcases hv.sub b x e with⟨_,e1⟩|e1
 ·exact hh b x e1
 ·exact hm b x e1
theorem HvR.lt2 {o:O} {tm:Tm} {n n1:Nat} {h m mh mh' h2 m2:Mem} {X:Xs} {T:List Nat} (hv:HvR o tm n h X T m mh mh' h2 m2) (hn:n≤n1) (hh:MLt h n) (hm:MLt m n) (hx:MLt mh' n1):MLt h2 n1∧MLt m2 n1:=by
 refine⟨fun b x e=>?_,fun b x e=>?_⟩
 ·rcases hv.outH b x e with⟨_,_,e1⟩|⟨_,e1⟩
  ·exact(hh.mono hn) b x e1
  ·exact hx b x e1
 ·rcases hv.outM b x e with⟨_,e1⟩|⟨_,e1⟩
  ·exact(hm.mono hn) b x e1
  ·exact hx b x e1
theorem Big.lt {G bs T m n r m1 n1} (hG:∀ f fn,G f=some fn→fn.body.ok=true) (h:Big G bs T m n r m1 n1):T.okT G=true→T.lt n→MLt m n→n≤n1∧r.lt n1∧MLt m1 n1:=by
 induction h with
 | skip=>intro _ hT hM;exact⟨Nat.le_refl _,hT,hM⟩
 | ret=>intro _ hT hM;exact⟨Nat.le_refl _,hT,hM⟩
 | exit=>intro _ hT hM;exact⟨Nat.le_refl _,hT,hM⟩
 | seqN _ _ ih1 ih2 =>
   intro ho hT hM
   simp only[Task.okT,C.ok,Bool.and_eq_true] at ho
   obtain⟨h1,h2,h3⟩:=ih1 ho.1 hT hM
   obtain⟨h4,h5,h6⟩:=ih2 ho.2 h2 h3
   exact⟨by omega,h5,h6⟩
 | seqE _ _ ih =>
   intro ho hT hM
   simp only[Task.okT,C.ok,Bool.and_eq_true] at ho
   exact ih ho.1 hT hM
 | @cond bs c a b tm m n t r m1 n1 _ _ ih =>
   intro ho hT hM
   simp only[Task.okT,C.ok,Bool.and_eq_true] at ho
   refine ih ?_ hT hM
   cases t
   ·exact ho.2
   ·exact ho.1.2
 | block _ ih=>intro ho hT hM;exact ih ho hT hM
 | loopN _ _ ih1 ih2 =>
   intro ho hT hM
   obtain⟨h1,h2,h3⟩:=ih1 ho hT hM
   obtain⟨h4,h5,h6⟩:=ih2 ho h2 h3
   exact⟨by omega,h5,h6⟩
 | loopE _ _ ih=>intro ho hT hM;exact ih ho hT hM
 | rg _ ih=>intro ho hT hM;exact ih ho hT hM
 | opsNil=>intro _ hT hM;exact⟨Nat.le_refl _,hT,hM⟩
 | opsSkip _ _ _ _ ih =>
   intro ho hT hM
   simp only[Task.okT,List.all_cons,Bool.and_eq_true] at ho
   exact ih ho.2 (TLt.put hT _ nov_lt) hM
 | opsNone _ _ _ ih =>
   intro ho hT hM
   simp only[Task.okT,List.all_cons,Bool.and_eq_true] at ho
   exact ih ho.2 (TLt.put hT _ nov_lt) hM
 | opsPure _ hs _ ih =>
   intro ho hT hM
   simp only[Task.okT,List.all_cons,Bool.and_eq_true] at ho
   obtain⟨h1,h2,h3⟩:=step_lt ho.1 hs hT hM
   obtain⟨h4,h5,h6⟩:=ih ho.2 (TLt.put (hT.mono h1) _ h2) h3
   exact⟨by omega,h5,h6⟩
 | opsAlt _ _ hs _ ih =>
   intro ho hT hM
   simp only[Task.okT,List.all_cons,Bool.and_eq_true] at ho
   obtain⟨h1,h2,h3⟩:=stepA_lt hs hM
   obtain⟨h4,h5,h6⟩:=ih ho.2 (TLt.put (hT.mono h1) _ h2) h3
   exact⟨by omega,h5,h6⟩
 | opsCall _ hc _ _ ih1 ih2 =>
   intro ho hT hM
   simp only[Task.okT,List.all_cons,Bool.and_eq_true] at ho
   obtain⟨h1,h2,h3⟩:=ih1 rfl (callee_lt ho.1 hT hc) hM
   obtain⟨h4,h5,h6⟩:=ih2 ho.2 (TLt.put (hT.mono h1) _ h2) h3
   exact⟨by omega,h5,h6⟩
 | rgH hd _ ih=>intro ho hT hM;obtain⟨h1,h2⟩:=hM.unmrg hd;exact ih ho ⟨hT,h1⟩ h2
 | opsPureH _ _ hs hd _ ih =>
   intro ho hT hM
   simp only[Task.okT,List.all_cons,Bool.and_eq_true] at ho
   obtain⟨h1,h2,h3⟩:=step_lt ho.1 hs hT hM
   obtain⟨h6,h7⟩:=h3.unmrg hd
   obtain⟨h4,h5,h6⟩:=ih ho.2 ⟨TLt.put (hT.mono h1) _ h2,h6⟩ h7
   exact⟨by omega,h5,h6⟩
 | @opsNewH bs o l tm m n v blk r m2 n2 _ _ hs _ ih =>
   intro ho hT hM
   simp only[Task.okT,List.all_cons,Bool.and_eq_true] at ho
   obtain⟨h1,h2,h3⟩:=step_lt ho.1 hs hT hM
   have hh:MLt (upd (fun _=>none) n (some blk)) (n+1):=by
    intro b x e
    simp only[upd] at e
    split at e
    ·rename_i hb;subst hb;cases e;exact h3 b _ (by simp [upd])
    ·cases e
   obtain⟨h4,h5,h6⟩:=ih ho.2 ⟨TLt.put (hT.mono h1) _ h2,hh⟩ (hM.mono h1)
   exact⟨by omega,h5,h6⟩
 | hNil=>intro _ hT hM;exact⟨Nat.le_refl _,hT.1,hT.2.mrg hM⟩
 | hBar _ _ ih=>intro ho hT hM;exact ih ho hT.1 (hT.2.mrg hM)
 | hSkip _ _ _ ih =>
   intro ho hT hM
   simp only[Task.okT,List.all_cons,Bool.and_eq_true] at ho
   exact ih ho.2 ⟨TLt.put hT.1 _ nov_lt,hT.2⟩ hM
 | hPure _ _ hs _ ih =>
   intro ho hT hM
   simp only[Task.okT,List.all_cons,Bool.and_eq_true] at ho
   obtain⟨h1,h2,h3⟩:=step_lt ho.1 hs hT.1 hM
   obtain⟨h4,h5,h6⟩:=ih ho.2 ⟨TLt.put (hT.1.mono h1) _ h2,hT.2.mono h1⟩ h3
   exact⟨by omega,h5,h6⟩
 | hCall _ _ hc _ _ ih1 ih2 =>
   intro ho hT hM
   simp only[Task.okT,List.all_cons,Bool.and_eq_true] at ho
   obtain⟨h1,h2,h3⟩:=ih1 rfl (callee_lt ho.1 hT.1 hc) hM
   obtain⟨h4,h5,h6⟩:=ih2 ho.2 ⟨TLt.put (hT.1.mono h1) _ h2,hT.2.mono h1⟩ h3
   exact⟨by omega,h5,h6⟩
 | @hNew bs h X o l tm m n v blk r m2 n2 _ _ hs _ ih =>
   intro ho hT hM
   simp only[Task.okT,List.all_cons,Bool.and_eq_true] at ho
   obtain⟨h1,h2,h3⟩:=step_lt ho.1 hs hT.1 hM
   have hh:MLt (upd h n (some blk)) (n+1):=by
    intro b x e
    simp only[upd] at e
    split at e
    ·rename_i hb;subst hb;cases e;exact h3 b _ (by simp [upd])
    ·exact(hT.2.mono h1) b x e
   obtain⟨h4,h5,h6⟩:=ih ho.2 ⟨TLt.put (hT.1.mono h1) _ h2,hh⟩ (hM.mono h1)
   exact⟨by omega,h5,h6⟩
 | hHvO _ _ hs hv _ ih =>
   intro ho hT hM
   simp only[Task.okT,List.all_cons,Bool.and_eq_true] at ho
   have hMh:=hv.lt hT.2 hM
   obtain⟨h1,h2,h3⟩:=step_lt ho.1 hs hT.1 hMh
   obtain⟨h7,h8⟩:=hv.lt2 h1 hT.2 hM h3
   obtain⟨h4,h5,h6⟩:=ih ho.2 ⟨TLt.put (hT.1.mono h1) _ h2,h7⟩ h8
   exact⟨by omega,h5,h6⟩
 | hHvC _ _ hc _ hv _ ih1 ih =>
   intro ho hT hM
   simp only[Task.okT,List.all_cons,Bool.and_eq_true] at ho
   have hMh:=hv.lt hT.2 hM
   obtain⟨h1,h2,h3⟩:=ih1 rfl (callee_lt ho.1 hT.1 hc) hMh
   obtain⟨h7,h8⟩:=hv.lt2 h1 hT.2 hM h3
   obtain⟨h4,h5,h6⟩:=ih ho.2 ⟨TLt.put (hT.1.mono h1) _ h2,h7⟩ h8
   exact⟨by omega,h5,h6⟩
 | hSide _ _ _ hb _ _ _ hs _ ih =>
   intro ho hT hM
   simp only[Task.okT,List.all_cons,Bool.and_eq_true] at ho
   obtain⟨h1,h2,h3⟩:=step_lt ho.1 (hs _ _ hb) hT.1 hT.2
   exact ih ho.2 ⟨TLt.put hT.1 _ h2,h3⟩ hM
 | @call bs f args fn m n e tm1 m1 n1 v hf _ _ hr ih =>
   intro _ hT hM
   have h0:TLt (tm0 args) n:=by
    intro t
    simp only[tm0,List.getD]
    cases ha:args[t]? with
    | none=>exact .junk
    | some x=>exact hT x (List.mem_of_getElem? ha)
   obtain⟨h1,h2,h3⟩:=ih (hG _ _ hf) h0 hM
   exact⟨h1,retv_lt h2 h3 hr,h3⟩
 | callS _ hv hs ih=>intro _ hT hM;exact⟨Nat.le_refl _,.flat hv,hM⟩
 | callN hv=>intro _ hT hM;exact⟨Nat.le_refl _,.flat (nat_flat hv),hM⟩
 | callJ hv=>intro _ hT hM;obtain⟨_,_,_,_,_,_,_,_,_,_,_,_,_,rfl⟩:=natJ_inv hv;exact⟨Nat.le_refl _,.flat rfl,hM⟩
 | drop _ hs ih =>
   intro ho hT hM
   obtain⟨h1,h2,h3⟩:=ih ho hT hM
   exact⟨h1,h2,h3.sub hs⟩
 | rst _ hs h ih =>
   intro ho hT hM
   refine⟨Nat.le_refl _,fun t=>?_,hM⟩
   rcases(h t).2 with h1|⟨h1,h2|h2⟩
   ·rw[h1];exact .junk
   ·rw[h1,h2];exact hT t
   ·rw[h1];exact .flat h2
 | jk _ h ih =>
   intro ho hT hM
   obtain⟨h1,h2,h3⟩:=ih ho hT hM
   refine⟨h1,fun t=>?_,h3⟩
   rcases(h t).2 with h4|h4
   ·rw[h4];exact .junk
   ·rw[h4];exact h2 t
 | wk _ h ih =>
   intro ho hT hM
   refine ih ho (fun t=>?_) hM
   rcases(h t).2 with h4|h4
   ·rw[h4];exact .junk
   ·rw[h4];exact hT t
end Go.Proofs.YtoppcdecolponaaGreat.AL
namespace Go.Proofs.YtoppcdecolponaaGreat.AL
open Go
set_option linter.unusedVariables false
set_option linter.unusedSimpArgs false
theorem upd_keep {m:Mem} {b0 b:Nat} {x:Option Blk} {blk:Blk} (h:b≠b0) (e:upd m b0 x b=some blk):m b=some blk:=by
 simp only[upd,if_neg h] at e;exact e
theorem wrn_keep {bs:Nat} {m m1:Mem} {a:Addr} {vs:List Value} (hw:wrn bs m a vs=some m1) {b:Nat} {blk:Blk} (hb:b<bs) (e:m1 b=some blk):m b=some blk:=by
 unfold wrn at hw
 split at hw
 ·cases hw
 ·split at hw
  ·split at hw
   ·rename_i h;cases hw;exact upd_keep (by omega) e
   ·cases hw
  ·cases hw
theorem wr_keep {bs:Nat} {m m1:Mem} {a:Addr} {v:Value} (hw:wr bs m a v=some m1) {b:Nat} {blk:Blk} (hb:b<bs) (e:m1 b=some blk):m b=some blk:=by
 unfold wr at hw
 split at hw
 ·cases hw
 ·split at hw
  ·split at hw
   ·rename_i h;cases hw;exact upd_keep (by omega) e
   ·cases hw
  ·cases hw
theorem step_keep {bs n n1:Nat} {io:O} {tm:Tm} {m m1:Mem} {v:Value} (hs:stepO bs io tm m n=some (v,m1,n1)):n≤n1∧∀ b blk,b<bs→b<n→m1 b=some blk→m b=some blk:=by
 have h1:∀ x:Option Blk,n≤n+1∧∀ b blk,b<bs→b<n→upd m n x b=some blk→m b=some blk:=fun x=>⟨by omega,fun b blk _ hb e=>upd_keep (by omega) e⟩
 have h2:n≤n∧∀ b blk,b<bs→b<n→m b=some blk→m b=some blk:=⟨Nat.le_refl _,fun _ _ _ _ e=>e⟩
 have h3:∀ (b0:Nat) (x:Option Blk),bs≤b0→n≤n+1∧∀ b blk,b<bs→b<n→upd (upd m b0 none) n x b=some blk→m b=some blk:=
  fun b0 x h0=>⟨by omega,fun b blk hb hn e=>upd_keep (by omega) (upd_keep (by omega) e)⟩
 cases io with
 | app sz by_ s x =>
   simp only[stepO] at hs
   split at hs
   ·split at hs
    ·split at hs
     ·simp only[Option.some.injEq,Prod.mk.injEq] at hs;obtain⟨_,rfl,rfl⟩:=hs;exact h2
     ·split at hs
      ·cases hs
      ·split at hs
       ·cases hs
       ·split at hs
        ·split at hs
         ·split at hs
          ·simp only[Option.some.injEq,Prod.mk.injEq] at hs;obtain⟨_,rfl,rfl⟩:=hs;exact h1 _
          ·cases hs
         ·split at hs
          ·cases hs
          ·split at hs
           ·cases hs
           ·split at hs
            ·rename_i hc
             simp only[Option.some.injEq,Prod.mk.injEq] at hs;obtain⟨_,rfl,rfl⟩:=hs;exact h3 _ _ hc.1
            ·cases hs
        ·cases hs
    ·cases hs
   ·cases hs
 | _ =>
   simp only[stepO] at hs
   repeat' (split at hs)
   all_goals first
    | (cases hs;done)
    | (simp only[Option.some.injEq,Prod.mk.injEq] at hs;obtain⟨_,rfl,rfl⟩:=hs;first|exact h1 _|exact h2|exact⟨Nat.le_refl _,fun b blk hb _ e=>wr_keep (by assumption) hb e⟩|exact⟨Nat.le_refl _,fun b blk hb _ e=>wrn_keep (by assumption) hb e⟩)
theorem stepA_keep {bs n n1:Nat} {io:O} {tm:Tm} {m m1:Mem} {v:Value} (hs:stepA bs io tm m n=some (v,m1,n1)):n≤n1∧∀ b blk,b<bs→b<n→m1 b=some blk→m b=some blk:=by
 obtain⟨sz,x,lo,hi,a,len,cap,h,l,b,_,_,_,_,_,_,_,_,hb,hbs,_,_,_,rfl,rfl,rfl⟩:=stepA_inv hs
 exact⟨by omega,fun b' blk h1 h2 e=>upd_keep (by omega) (upd_keep (by omega) e)⟩
def Task.mem (T:Task) (m:Mem):Mem:=match T with
 | .opsH h _ _ _=>mrg h m
 | _=>m
theorem mrg_keep {h m m1:Mem} {b:Nat} {blk:Blk} (hk:m1 b=some blk→m b=some blk) (e:mrg h m1 b=some blk):mrg h m b=some blk:=by
 rcases mrg_inv e with e|⟨e0,e⟩
 ·exact mrg_some e
 ·rw[mrg_none e0];exact hk e
theorem HvR.back {o:O} {tm:Tm} {n:Nat} {h m mh mh' h2 m2:Mem} {X:Xs} {T:List Nat} (hv:HvR o tm n h X T m mh mh' h2 m2) {b:Nat} {x:Blk} (hb:b<n) (e:mrg h2 m2 b=some x):mrg h m b=some x∨(b∈T∧mh' b=some x):=by
 rcases mrg_inv e with e1|⟨e0,e1⟩
 ·rcases hv.outH b x e1 with⟨_,_,e2⟩|⟨e2|e2,e3⟩
  ·exact .inl (mrg_some e2)
  ·exact .inr ⟨e2,e3⟩
  ·omega
 ·rcases hv.outM b x e1 with⟨_,e2⟩|⟨e2,_⟩
  ·refine .inl ?_
   cases e3:h b with
   | none=>rw[mrg_none e3];exact e2
   | some y =>
     by_cases hT:b∈T
     ·have:=(hv.tgt b hT).2.1;rw[this] at e2;cases e2
     ·have:=hv.stay b y e3 hT;rw[this] at e0;cases e0
  ·omega
theorem HvR.row {o:O} {tm:Tm} {n:Nat} {h m mh mh' h2 m2:Mem} {X:Xs} {T:List Nat} (hv:HvR o tm n h X T m mh mh' h2 m2) {b:Nat} {x:Blk} (hb:b∈T) (e:mh b=some x):mrg h m b=some x:=by
 obtain⟨_,_,⟨y,h1,h2⟩,_⟩:=hv.tgt b hb
 rw[e] at h2;cases h2;exact mrg_some h1
theorem HvR.nil {o:O} {tm:Tm} {n:Nat} {h m mh mh' h2 m2:Mem} {X:Xs} {T:List Nat} (hv:HvR o tm n h X T m mh mh' h2 m2) {b:Nat} (hb:b<n) (e:mrg h m b=none):mrg h2 m2 b=none:=by
 obtain⟨e0,e1⟩:=(show h b=none∧m b=none from by
  cases e1:h b with
  | some x=>rw[mrg_some e1] at e;cases e
  | none=>exact⟨rfl,by rw[mrg_none e1] at e;exact e⟩)
 cases e2:mrg h2 m2 b with
 | none=>rfl
 | some x =>
   rcases hv.back hb e2 with e3|⟨e3,_⟩
   ·rw[e] at e3;cases e3
   ·obtain⟨_,_,⟨y,h1,_⟩,_⟩:=hv.tgt b e3
    rw[e0] at h1;cases h1
theorem HvR.ownB {o:O} {tm:Tm} {n:Nat} {h m mh mh' h2 m2:Mem} {X:Xs} {T:List Nat} (hv:HvR o tm n h X T m mh mh' h2 m2) (ho:∀ b,b<n→Own mh' b→Own mh b):∀ b,b<n→Own (mrg h2 m2) b→Own (mrg h m) b:=by
 rintro b hb ⟨x,e,hx⟩
 rcases hv.back hb e with e1|⟨e1,e2⟩
 ·exact⟨x,e1,hx⟩
 ·obtain⟨y,e3,hy⟩:=ho b hb ⟨x,e2,hx⟩
  exact⟨y,hv.row e1 e3,hy⟩
theorem Big.keep' {G bs T m n r m1 n1} (h:Big G bs T m n r m1 n1):n≤n1∧∀ b blk,b<bs→b<n→m1 b=some blk→T.mem m b=some blk:=by
 have refl:∀ (m:Mem) (n bs:Nat),n≤n∧∀ b blk,b<bs→b<n→m b=some blk→m b=some blk:=fun m n bs=>⟨Nat.le_refl _,fun _ _ _ _ e=>e⟩
 have trans:∀ {m m1 m2:Mem} {n n1 n2 bs:Nat},(n≤n1∧∀ b blk,b<bs→b<n→m1 b=some blk→m b=some blk)→(n1≤n2∧∀ b blk,b<bs→b<n1→m2 b=some blk→m1 b=some blk) →
  n≤n2∧∀ b blk,b<bs→b<n→m2 b=some blk→m b=some blk:=
  fun h k=>⟨by omega,fun b blk hb hn e=>h.2 b blk hb hn (k.2 b blk hb (by omega) e)⟩
 have weak:∀ {m m1:Mem} {n n1 bs:Nat} {q:Bool},(n≤n1∧∀ b blk,b<(if q=true then n else bs)→b<n→m1 b=some blk→m b=some blk)→n≤n1∧∀ b blk,b<bs→b<n→m1 b=some blk→m b=some blk:=by
  intro m m1 n n1 bs q h
  refine⟨h.1,fun b blk hb hn e=>h.2 b blk ?_ hn e⟩
  split <;> omega
 induction h with
 | skip=>exact refl _ _ _
 | ret=>exact refl _ _ _
 | exit=>exact refl _ _ _
 | seqN _ _ ih1 ih2=>exact trans ih1 ih2
 | seqE _ _ ih=>exact ih
 | cond _ _ ih=>exact ih
 | block _ ih=>exact ih
 | loopN _ _ ih1 ih2=>exact trans ih1 ih2
 | loopE _ _ ih=>exact ih
 | rg _ ih=>exact ih
 | opsNil=>exact refl _ _ _
 | opsSkip _ _ _ _ ih=>exact ih
 | opsNone _ _ _ ih=>exact ih
 | opsPure _ hs _ ih=>exact trans (weak (step_keep hs)) ih
 | opsAlt _ _ hs _ ih=>exact trans (stepA_keep hs) ih
 | opsCall _ _ _ _ ih1 ih2=>exact trans (weak ih1) ih2
 | rgH _ _ ih=>exact ih
 | opsPureH _ hq hs _ _ ih =>
   refine trans (weak (q:=false) (step_keep hs)) ih
 | @opsNewH bs o l tm m n v blk r m2 n2 _ _ _ _ ih =>
   refine⟨by omega,fun b x hb hn e=>?_⟩
   have:=ih.2 b x hb (by omega) e
   simp only[Task.mem,mrg,upd,if_neg (by omega:b≠n)] at this
   exact this
 | hNil=>exact refl _ _ _
 | hBar _ _ ih=>exact ih
 | hSkip _ _ _ ih=>exact ih
 | hPure _ _ hs _ ih =>
   have h1:=step_keep hs
   exact⟨by omega,fun b blk hb hn e=>mrg_keep (h1.2 b blk hn hn) (ih.2 b blk hb (by omega) e)⟩
 | hCall _ _ _ _ _ ih1 ih =>
   exact⟨by omega,fun b blk hb hn e=>mrg_keep (ih1.2 b blk hn hn) (ih.2 b blk hb (by omega) e)⟩
 | @hNew bs h X o l tm m n v blk r m2 n2 _ _ _ _ ih =>
   refine⟨by omega,fun b x hb hn e=>?_⟩
   have:=ih.2 b x hb (by omega) e
   simp only[Task.mem,mrg,upd,if_neg (by omega:b≠n)] at this
   exact this
 | hHvO _ _ hs hv _ ih =>
   have h1:=step_keep hs
   refine⟨by omega,fun b x hb hn e=>?_⟩
   rcases hv.back hn (ih.2 b x hb (by omega) e) with e1|⟨e1,e2⟩
   ·exact e1
   ·exact hv.row e1 (h1.2 b x hb hn e2)
 | hHvC _ _ _ _ hv _ h1 ih =>
   refine⟨by omega,fun b x hb hn e=>?_⟩
   rcases hv.back hn (ih.2 b x hb (by omega) e) with e1|⟨e1,e2⟩
   ·exact e1
   ·exact hv.row e1 (h1.2 b x hb hn e2)
 | @hSide bs h X o l tm m n b0 blk blk1 s a v r m2 n2 _ _ _ hb0 hbs _ _ _ _ ih =>
   refine⟨ih.1,fun b x hb hn e=>?_⟩
   have:=ih.2 b x hb hn e
   simp only[Task.mem,mrg,upd,if_neg (by omega:b≠b0)] at this
   exact this
 | call _ _ _ _ ih=>exact ih
 | callS _ _ _ _=>exact refl _ _ _
 | callN _=>exact refl _ _ _
 | callJ _=>exact refl _ _ _
 | drop _ hs ih=>exact⟨ih.1,fun b blk hb hn e=>ih.2 b blk hb hn (hs _ _ e)⟩
 | rst _ _ _ _=>exact refl _ _ _
 | jk _ _ ih=>exact ih
 | wk _ _ ih=>exact ih
theorem Big.keep {G bs T m n r m1 n1} (h:Big G bs T m n r m1 n1) (hT:∀ h1 X l tm,T≠.opsH h1 X l tm:=by intros;intro e;cases e):n≤n1∧∀ b blk,b<bs→b<n→m1 b=some blk→m b=some blk:=by
 have:=h.keep'
 cases T with
 | opsH h1 X l tm=>exact absurd rfl (hT h1 X l tm)
 | _=>exact this
theorem upd_none {m:Mem} {b0 b:Nat} {x:Option Blk} (h:b≠b0) (e:m b=none):upd m b0 x b=none:=by
 simp only[upd,if_neg h];exact e
theorem wrn_dom {bs:Nat} {m m1:Mem} {a:Addr} {vs:List Value} (hw:wrn bs m a vs=some m1) {b:Nat} (e:m b=none):m1 b=none:=by
 unfold wrn at hw
 split at hw
 ·cases hw
 ·split at hw
  ·rename_i hm
   split at hw
   ·cases hw;exact upd_none (fun h=>by subst h;rw[hm] at e;cases e) e
   ·cases hw
  ·cases hw
theorem wr_dom {bs:Nat} {m m1:Mem} {a:Addr} {v:Value} (hw:wr bs m a v=some m1) {b:Nat} (e:m b=none):m1 b=none:=by
 unfold wr at hw
 split at hw
 ·cases hw
 ·split at hw
  ·rename_i hm
   split at hw
   ·cases hw;exact upd_none (fun h=>by subst h;rw[hm] at e;cases e) e
   ·cases hw
  ·cases hw
theorem step_dom {bs n n1:Nat} {io:O} {tm:Tm} {m m1:Mem} {v:Value} (hs:stepO bs io tm m n=some (v,m1,n1)):∀ b,b<n→m b=none→m1 b=none:=by
 have h1:∀ x:Option Blk,∀ b,b<n→m b=none→upd m n x b=none:=fun x b hb e=>upd_none (by omega) e
 have h3:∀ (b0:Nat) (x:Option Blk),∀ b,b<n→m b=none→upd (upd m b0 none) n x b=none:=fun b0 x b hb e=>upd_none (by omega) (by
  by_cases h:b=b0
  ·simp [upd,h]
  ·exact upd_none h e)
 cases io <;> simp only[stepO] at hs <;> (repeat' split at hs) <;>
  first
   | (cases hs;done)
   | (simp only[Option.some.injEq,Prod.mk.injEq] at hs;obtain⟨_,rfl,rfl⟩:=hs
      first
       | exact h1 _
       | exact fun b _ e=>e
       | exact fun b _ e=>wr_dom (by assumption) e
       | exact fun b _ e=>wrn_dom (by assumption) e
       | exact h3 _ _)
theorem stepA_dom {bs n n1:Nat} {io:O} {tm:Tm} {m m1:Mem} {v:Value} (hs:stepA bs io tm m n=some (v,m1,n1)):∀ b,b<n→m b=none→m1 b=none:=by
 obtain⟨sz,x,lo,hi,a,len,cap,h,l,b,_,_,_,_,_,_,_,_,hb,hbs,_,_,_,rfl,rfl,rfl⟩:=stepA_inv hs
 exact fun b' h1 e=>upd_none (by omega) (by
  by_cases h:b'=a.block
  ·simp [upd,h]
  ·exact upd_none h e)
theorem mrg_none_inv {h m:Mem} {b:Nat} (e:mrg h m b=none):h b=none∧m b=none:=by
 cases e1:h b with
 | some x=>rw[mrg_some e1] at e;cases e
 | none=>exact⟨rfl,by rw[mrg_none e1] at e;exact e⟩
theorem mrg_none_of {h m:Mem} {b:Nat} (e1:h b=none) (e:m b=none):mrg h m b=none:=by rw[mrg_none e1];exact e
theorem Big.dom {G bs T m n r m1 n1} (h:Big G bs T m n r m1 n1):∀ b,b<n→T.mem m b=none→m1 b=none:=by
 induction h with
 | skip=>exact fun b _ e=>e
 | ret=>exact fun b _ e=>e
 | exit=>exact fun b _ e=>e
 | seqN h1 _ ih1 ih2=>exact fun b hb e=>ih2 b (by have:=h1.keep'.1;omega) (ih1 b hb e)
 | seqE _ _ ih=>exact ih
 | cond _ _ ih=>exact ih
 | block _ ih=>exact ih
 | loopN h1 _ ih1 ih2=>exact fun b hb e=>ih2 b (by have:=h1.keep'.1;omega) (ih1 b hb e)
 | loopE _ _ ih=>exact ih
 | rg _ ih=>exact ih
 | opsNil=>exact fun b _ e=>e
 | opsSkip _ _ _ _ ih=>exact ih
 | opsNone _ _ _ ih=>exact ih
 | opsPure _ hs _ ih=>exact fun b hb e=>ih b (by have:=(step_keep hs).1;omega) (step_dom hs b hb e)
 | opsAlt _ _ hs _ ih=>exact fun b hb e=>ih b (by have:=(stepA_keep hs).1;omega) (stepA_dom hs b hb e)
 | opsCall _ _ h1 _ ih1 ih2=>exact fun b hb e=>ih2 b (by have:=h1.keep'.1;omega) (ih1 b hb e)
 | rgH _ _ ih=>exact ih
 | opsPureH _ hq hs _ _ ih=>exact fun b hb e=>ih b (by have:=(step_keep hs).1;omega) (step_dom hs b hb e)
 | opsNewH _ _ _ _ ih=>exact fun b hb e=>ih b (by omega) (mrg_none_of (upd_none (by omega) rfl) e)
 | hNil=>exact fun b _ e=>e
 | hBar _ _ ih=>exact ih
 | hSkip _ _ _ ih=>exact ih
 | hPure _ _ hs _ ih=>exact fun b hb e=>ih b (by have:=(step_keep hs).1;omega) (mrg_none_of (mrg_none_inv e).1 (step_dom hs b hb (mrg_none_inv e).2))
 | hCall _ _ _ h1 _ ih1 ih2=>exact fun b hb e=>ih2 b (by have:=h1.keep'.1;omega) (mrg_none_of (mrg_none_inv e).1 (ih1 b hb (mrg_none_inv e).2))
 | hNew _ _ _ _ ih=>exact fun b hb e=>ih b (by omega) (mrg_none_of (upd_none (by omega) (mrg_none_inv e).1) (mrg_none_inv e).2)
 | hHvO _ _ hs hv _ ih=>exact fun b hb e=>ih b (by have:=(step_keep hs).1;omega) (hv.nil hb e)
 | hHvC _ _ _ h1 hv _ _ ih=>exact fun b hb e=>ih b (by have:=h1.keep'.1;omega) (hv.nil hb e)
 | @hSide bs h X o l tm m n b0 blk blk1 s a v r m2 n2 _ _ _ hb0 hbs _ _ _ _ ih =>
   exact fun b hb e=>ih b hb (mrg_none_of (upd_none (fun h=>by subst h;rw[(mrg_none_inv e).1] at hb0;cases hb0) (mrg_none_inv e).1) (mrg_none_inv e).2)
 | call _ _ _ _ ih=>exact ih
 | callS _ _ _ _=>exact fun b _ e=>e
 | callN _=>exact fun b _ e=>e
 | callJ _=>exact fun b _ e=>e
 | @drop bs T m n r m1 n1 m2 _ hs ih =>
   intro b hb e
   cases e1:m2 b with
   | none=>rfl
   | some x=>rw[←hs b x e1,ih b hb e]
 | rst _ _ _ _=>exact fun b _ e=>e
 | jk _ _ ih=>exact ih
 | wk _ _ ih=>exact ih
theorem own_ne {m:Mem} {b0 b:Nat} {x:Option Blk} (h:b≠b0) (e:Own (upd m b0 x) b):Own m b:=by
 obtain⟨y,h1,h2⟩:=e
 exact⟨y,by simpa only[upd,if_neg h] using h1,h2⟩
theorem wrn_own {bs:Nat} {m m1:Mem} {a:Addr} {vs:List Value} (hw:wrn bs m a vs=some m1) {b:Nat} (e:Own m1 b):Own m b:=by
 unfold wrn at hw
 split at hw
 ·cases hw
 ·split at hw
  ·rename_i hm
   split at hw
   ·rename_i hc
    cases hw
    by_cases h:b=a.block
    ·subst h;exact⟨_,hm,hc.2.1⟩
    ·exact own_ne h e
   ·cases hw
  ·cases hw
theorem wr_own {bs:Nat} {m m1:Mem} {a:Addr} {v:Value} (hw:wr bs m a v=some m1) {b:Nat} (e:Own m1 b):Own m b:=by
 unfold wr at hw
 split at hw
 ·cases hw
 ·split at hw
  ·rename_i hm
   split at hw
   ·rename_i hc
    cases hw
    by_cases h:b=a.block
    ·subst h;exact⟨_,hm,hc.2.1⟩
    ·exact own_ne h e
   ·cases hw
  ·cases hw
theorem step_own {bs n n1:Nat} {io:O} {tm:Tm} {m m1:Mem} {v:Value} (hs:stepO bs io tm m n=some (v,m1,n1)):∀ b,b<n→Own m1 b→Own m b:=by
 have h1:∀ x:Option Blk,∀ b,b<n→Own (upd m n x) b→Own m b:=fun x b hb e=>own_ne (by omega) e
 have h3:∀ (b0:Nat) (x:Option Blk),∀ b,b<n→Own (upd (upd m b0 none) n x) b→Own m b:=fun b0 x b hb e=>by
  have e1:=own_ne (by omega) e
  by_cases h:b=b0
  ·obtain⟨y,h2,_⟩:=e1;simp [upd,h] at h2
  ·exact own_ne h e1
 cases io <;> simp only[stepO] at hs <;> (repeat' split at hs) <;>
  first
   | (cases hs;done)
   | (simp only[Option.some.injEq,Prod.mk.injEq] at hs;obtain⟨_,rfl,rfl⟩:=hs
      first
       | exact h1 _
       | exact fun b _ e=>e
       | exact fun b _ e=>wr_own (by assumption) e
       | exact fun b _ e=>wrn_own (by assumption) e
       | exact h3 _ _)
theorem stepA_own {bs n n1:Nat} {io:O} {tm:Tm} {m m1:Mem} {v:Value} (hs:stepA bs io tm m n=some (v,m1,n1)):∀ b,b<n→Own m1 b→Own m b:=by
 obtain⟨sz,x,lo,hi,a,len,cap,h,l,b,_,_,_,_,_,_,_,_,hb,hbs,_,_,_,rfl,rfl,rfl⟩:=stepA_inv hs
 intro b' h1 e
 have e1:=own_ne (by omega) e
 by_cases h:b'=a.block
 ·obtain⟨y,h2,_⟩:=e1;simp [upd,h] at h2
 ·exact own_ne h e1
theorem own_mrg {h m m1:Mem} {b:Nat} (hk:Own m1 b→Own m b) (e:Own (mrg h m1) b):Own (mrg h m) b:=by
 obtain⟨x,h1,h2⟩:=e
 rcases mrg_inv h1 with h3|⟨h0,h3⟩
 ·exact⟨x,mrg_some h3,h2⟩
 ·obtain⟨y,h4,h5⟩:=hk ⟨x,h3,h2⟩
  exact⟨y,by rw[mrg_none h0];exact h4,h5⟩
theorem own_mrgU {h m:Mem} {n b:Nat} {x:Option Blk} (hb:b≠n) (e:Own (mrg (upd h n x) m) b):Own (mrg h m) b:=by
 obtain⟨y,h1,h2⟩:=e
 exact⟨y,by simpa only[mrg,upd,if_neg hb] using h1,h2⟩
theorem Big.own {G bs T m n r m1 n1} (h:Big G bs T m n r m1 n1):∀ b,b<n→Own m1 b→Own (T.mem m) b:=by
 induction h with
 | skip=>exact fun b _ e=>e
 | ret=>exact fun b _ e=>e
 | exit=>exact fun b _ e=>e
 | seqN h1 _ ih1 ih2=>exact fun b hb e=>ih1 b hb (ih2 b (by have:=h1.keep'.1;omega) e)
 | seqE _ _ ih=>exact ih
 | cond _ _ ih=>exact ih
 | block _ ih=>exact ih
 | loopN h1 _ ih1 ih2=>exact fun b hb e=>ih1 b hb (ih2 b (by have:=h1.keep'.1;omega) e)
 | loopE _ _ ih=>exact ih
 | rg _ ih=>exact ih
 | opsNil=>exact fun b _ e=>e
 | opsSkip _ _ _ _ ih=>exact ih
 | opsNone _ _ _ ih=>exact ih
 | opsPure _ hs _ ih=>exact fun b hb e=>step_own hs b hb (ih b (by have:=(step_keep hs).1;omega) e)
 | opsAlt _ _ hs _ ih=>exact fun b hb e=>stepA_own hs b hb (ih b (by have:=(stepA_keep hs).1;omega) e)
 | opsCall _ _ h1 _ ih1 ih2=>exact fun b hb e=>ih1 b hb (ih2 b (by have:=h1.keep'.1;omega) e)
 | rgH _ _ ih=>exact ih
 | opsPureH _ hq hs _ _ ih=>exact fun b hb e=>step_own hs b hb (ih b (by have:=(step_keep hs).1;omega) e)
 | opsNewH _ _ _ _ ih=>exact fun b hb e=>own_mrgU (h:=fun _=>none) (by omega) (ih b (by omega) e)
 | hNil=>exact fun b _ e=>e
 | hBar _ _ ih=>exact ih
 | hSkip _ _ _ ih=>exact ih
 | hPure _ _ hs _ ih=>exact fun b hb e=>own_mrg (step_own hs b hb) (ih b (by have:=(step_keep hs).1;omega) e)
 | hCall _ _ _ h1 _ ih1 ih2=>exact fun b hb e=>own_mrg (ih1 b hb) (ih2 b (by have:=h1.keep'.1;omega) e)
 | hNew _ _ _ _ ih=>exact fun b hb e=>own_mrgU (by omega) (ih b (by omega) e)
 | hHvO _ _ hs hv _ ih=>exact fun b hb e=>hv.ownB (step_own hs) b hb (ih b (by have:=(step_keep hs).1;omega) e)
 | hHvC _ _ _ h1 hv _ ih1 ih=>exact fun b hb e=>hv.ownB ih1 b hb (ih b (by have:=h1.keep'.1;omega) e)
 | @hSide bs h X o l tm m n b0 blk blk1 s a v r m2 n2 _ _ _ hb0 hbs _ _ hst _ ih =>
   intro b hb e
   have e1:=ih b hb e
   by_cases hbb:b=b0
   ·subst hbb
    obtain⟨x,h1,h2⟩:=e1
    have h3:=step_own (hst h (b+1) hb0) b (by omega) ⟨x,by simpa only[Task.mem,mrg,upd,if_true] using h1,h2⟩
    obtain⟨y,h4,h5⟩:=h3
    exact⟨y,mrg_some h4,h5⟩
   ·exact own_mrgU hbb e1
 | call _ _ _ _ ih=>exact ih
 | callS _ _ _ _=>exact fun b _ e=>e
 | callN _=>exact fun b _ e=>e
 | callJ _=>exact fun b _ e=>e
 | drop _ hs ih=>exact fun b hb e=>ih b hb (let ⟨x,h1,h2⟩:=e;⟨x,hs b x h1,h2⟩)
 | rst _ _ _ _=>exact fun b _ e=>e
 | jk _ _ ih=>exact ih
 | wk _ _ ih=>exact ih
section
variable {tm tm' : Tm}
theorem E.congr {e:E} (h:∀ t,t∈e.slots→tm t=tm' t):e.ev tm=e.ev tm':=by
 cases e with
 | t i=>exact h i (by simp [E.slots])
 | k v=>rfl
theorem bnd_congr {e:Option E} (h:∀ t,t∈oslots e→tm t=tm' t) (d m:Nat):bnd tm e d m=bnd tm' e d m:=by
 cases e with
 | none=>rfl
 | some e=>simp only[bnd,E.congr (e:=e) h]
theorem es_congr {es:List E} (h:∀ t,t∈es.flatMap E.slots→tm t=tm' t):es.map (·.ev tm)=es.map (·.ev tm'):=by
 apply List.map_congr_left
 intro e he
 exact E.congr fun t ht=>h t (List.mem_flatMap.2 ⟨e,he,ht⟩)
theorem step_congr {bs n:Nat} {m:Mem} {io:O} (h:∀ t,t∈io.slots→tm t=tm' t):stepO bs io tm m n=stepO bs io tm' m n:=by
 cases io with
 | pick c a b =>
   simp only[O.slots,List.mem_append] at h
   simp only[stepO,E.congr (e:=c) fun t ht=>h t (.inl (.inl ht)),E.congr (e:=a) fun t ht=>h t (.inl (.inr ht)),E.congr (e:=b) fun t ht=>h t (.inr ht)]
 | st x v =>
   simp only[O.slots,List.mem_append] at h
   simp only[stepO,E.congr (e:=x) fun t ht=>h t (.inl ht),E.congr (e:=v) fun t ht=>h t (.inr ht)]
 | stn k x v =>
   simp only[O.slots,List.mem_append] at h
   simp only[stepO,E.congr (e:=x) fun t ht=>h t (.inl ht),E.congr (e:=v) fun t ht=>h t (.inr ht)]
 | ia k x v =>
   simp only[O.slots,List.mem_append] at h
   simp only[stepO,E.congr (e:=x) fun t ht=>h t (.inl ht),E.congr (e:=v) fun t ht=>h t (.inr ht)]
 | bin k x v =>
   simp only[O.slots,List.mem_append] at h
   simp only[stepO,E.congr (e:=x) fun t ht=>h t (.inl ht),E.congr (e:=v) fun t ht=>h t (.inr ht)]
 | eqb k x v =>
   simp only[O.slots,List.mem_append] at h
   simp only[stepO,E.congr (e:=x) fun t ht=>h t (.inl ht),E.congr (e:=v) fun t ht=>h t (.inr ht)]
 | eqs k ks x v =>
   simp only[O.slots,List.mem_append] at h
   simp only[stepO,E.congr (e:=x) fun t ht=>h t (.inl ht),E.congr (e:=v) fun t ht=>h t (.inr ht)]
 | app k b x v =>
   simp only[O.slots,List.mem_append] at h
   simp only[stepO,E.congr (e:=x) fun t ht=>h t (.inl ht),E.congr (e:=v) fun t ht=>h t (.inr ht)]
 | ix x v =>
   simp only[O.slots,List.mem_append] at h
   simp only[stepO,E.congr (e:=x) fun t ht=>h t (.inl ht),E.congr (e:=v) fun t ht=>h t (.inr ht)]
 | mk s b z x v =>
   simp only[O.slots,List.mem_append] at h
   simp only[stepO,E.congr (e:=x) fun t ht=>h t (.inl ht),E.congr (e:=v) fun t ht=>h t (.inr ht)]
 | bs s k z ps =>
   have e:∀ p,p∈ps→p.2.ev tm=p.2.ev tm':=fun p hp=>E.congr fun t ht=>h t (List.mem_flatMap.2 ⟨p,hp,ht⟩)
   have e1:ps.map (fun p=>(p.1 * s,(p.2.ev tm).cells.toList))=ps.map (fun p=>(p.1 * s,(p.2.ev tm').cells.toList)):=List.map_congr_left fun p hp=>by rw[e p hp]
   have e2:ps.all (fun p=>!isJunk (p.2.ev tm))=ps.all (fun p=>!isJunk (p.2.ev tm')):=by
    rw[Bool.eq_iff_iff,List.all_eq_true,List.all_eq_true]
    exact⟨fun h p hp=>by rw[←e p hp];exact h p hp,fun h p hp=>by rw[e p hp];exact h p hp⟩
   simp only[stepO,e1,e2]
 | bd z ps =>
   have e:∀ p,p∈ps→p.2.2.ev tm=p.2.2.ev tm':=fun p hp=>E.congr fun t ht=>h t (List.mem_flatMap.2 ⟨p,hp,ht⟩)
   have e1:ps.map (fun p=>(p.1,(p.2.2.ev tm).cells.toList))=ps.map (fun p=>(p.1,(p.2.2.ev tm').cells.toList)):=List.map_congr_left fun p hp=>by rw[e p hp]
   have e2:ps.all (fun p=>!isJunk (p.2.2.ev tm) && (p.2.2.ev tm).cells.size == p.2.1 && decide (p.1+p.2.1≤z.length))=ps.all (fun p=>!isJunk (p.2.2.ev tm') && (p.2.2.ev tm').cells.size == p.2.1 && decide (p.1+p.2.1≤z.length)):=by
    rw[Bool.eq_iff_iff,List.all_eq_true,List.all_eq_true]
    exact⟨fun h p hp=>by rw[←e p hp];exact h p hp,fun h p hp=>by rw[e p hp];exact h p hp⟩
   simp only[stepO,e1,e2]
 | fn f es=>simp only[stepO,es_congr (es:=es) h]
 | mn es=>simp only[stepO,es_congr (es:=es) h]
 | mx es=>simp only[stepO,es_congr (es:=es) h]
 | sl k x a b c =>
   simp only[O.slots,List.mem_append] at h
   simp only[stepO,E.congr (e:=x) fun t ht=>h t (.inl (.inl (.inl ht))),bnd_congr (e:=a) fun t ht=>h t (.inl (.inl (.inr ht))),bnd_congr (e:=b) fun t ht=>h t (.inl (.inr ht)),bnd_congr (e:=c) fun t ht=>h t (.inr ht)]
 | sls x a b =>
   simp only[O.slots,List.mem_append] at h
   simp only[stepO,E.congr (e:=x) fun t ht=>h t (.inl (.inl ht)),bnd_congr (e:=a) fun t ht=>h t (.inl (.inr ht)),bnd_congr (e:=b) fun t ht=>h t (.inr ht)]
 | new z=>rfl
 | call f es=>rfl
 | calli f es=>rfl
 | cpy k x v=>rfl
 | mv x=>simp only[stepO,E.congr (e:=x) h]
 | box x=>simp only[stepO,E.congr (e:=x) h]
 | ld x=>simp only[stepO,E.congr (e:=x) h]
 | ldn k x=>simp only[stepO,E.congr (e:=x) h]
 | fa k x=>simp only[stepO,E.congr (e:=x) h]
 | eqnil k x=>simp only[stepO,E.congr (e:=x) h]
 | not x=>simp only[stepO,E.congr (e:=x) h]
 | neg x=>simp only[stepO,E.congr (e:=x) h]
 | len x=>simp only[stepO,E.congr (e:=x) h]
 | lens x=>simp only[stepO,E.congr (e:=x) h]
 | cap x=>rfl
 | fld o k x=>simp only[stepO,E.congr (e:=x) h]
 | ext i x=>simp only[stepO,E.congr (e:=x) h]
 | cvi k x=>simp only[stepO,E.congr (e:=x) h]
 | cvsb x=>rfl
 | cvbs x=>simp only[stepO,E.congr (e:=x) h]
 | nilc x=>simp only[stepO,E.congr (e:=x) h]
 | clr s z x=>simp only[stepO,E.congr (e:=x) h]
theorem stepA_congr {bs n:Nat} {m:Mem} {io:O} (h:∀ t,t∈io.slots→tm t=tm' t):stepA bs io tm m n=stepA bs io tm' m n:=by
 cases io with
 | sl k x a b c =>
   cases c with
   | none =>
     simp only[O.slots,List.mem_append] at h
     simp only[stepA,E.congr (e:=x) fun t ht=>h t (.inl (.inl (.inl ht))),bnd_congr (e:=a) fun t ht=>h t (.inl (.inl (.inr ht))),bnd_congr (e:=b) fun t ht=>h t (.inl (.inr ht))]
   | some c=>rfl
 | _=>rfl
theorem callee_congr {io:O} (h:∀ t,t∈io.slots→tm t=tm' t):io.callee tm=io.callee tm':=by
 cases io with
 | call f es=>simp only[O.callee,es_congr (es:=es) h]
 | calli f es =>
   simp only[O.slots,List.mem_append] at h
   simp only[O.callee,E.congr (e:=f) fun t ht=>h t (.inl ht),es_congr (es:=es) fun t ht=>h t (.inr ht)]
 | _=>rfl
end
end Go.Proofs.YtoppcdecolponaaGreat.AL
namespace Go.Proofs.YtoppcdecolponaaGreat.AL
open Go
set_option linter.unusedVariables false
def notFn:Value→Bool
 | .func _ _ _=>false
 | _=>true
section
variable (P : Program) (no : Nat → Option Nat)
def cE:Operand→Option E
 | .tmp t=>some (.t t)
 | .const v=>if flat v && notFn v then some (.k v) else none
 | .global _=>none
 | .func f=>(no f).map fun g=>.k (.func (.func g) #[] #[])
def cEs (xs:Array Operand):Option (List E):=xs.toList.mapM (cE no)
def aggT (t:TypeId):Option Bool:=
 match P.underlying t with
 | some (.struct _)=>some true
 | some (.array _ _)=>some true
 | some _=>some false
 | none=>none
def flats (vs:List Value):Bool:=vs.all flatW
def zeroOf (t:TypeId):Option (List Value):=do
 let i ←P.info? t
 let z ←i.zero
 if flats z.cells.toList && z.cells.size == i.size then some z.cells.toList else none
def sizeT (t:TypeId):Option Nat:=(P.info? t).map (·.size)
def fieldT (s:TypeId) (f:Nat):Option Field:=
 match P.underlying s with
 | some (.struct fs)=>fs[f]?
 | _=>none
def elemT (t:TypeId):Option TypeId:=
 match P.underlying t with
 | some (.slice e)=>some e
 | _=>none
def basicK (t:TypeId):Option BK:=
 match P.underlying t with
 | some .bool=>some .b
 | some (.int _)=>some .i
 | some .string=>some .s
 | _=>none
def plainStruct (t:TypeId):Option (List BK):=
 match P.underlying t with
 | some (.struct fs) =>
   if (fs.toList.zipIdx.all fun (f, i) => f.offset == i && f.name != "_") && !P.stoodInHeld t && !P.eqGuardType P.depth t then
    fs.toList.mapM fun f=>basicK P f.type
   else none
 | _=>none
def nilSlice:Operand→Bool
 | .const (.slice none 0 0)=>true
 | _=>false
def cO:Op→Option O
 | .move x|.assign x=>(cE no x).map .mv
 | .pick c a b=>do some (.pick (←cE no c) (←cE no a) (←cE no b))
 | .alloc t=>(zeroOf P t).map .new
 | .box t x=>(cE no x).map .box
 | .load t x=>do
   if ←aggT P t then some (.ldn (←sizeT P t) (←cE no x)) else some (.ld (←cE no x))
 | .store t a x=>do
   if ←aggT P t then some (.stn (←sizeT P t) (←cE no a) (←cE no x))
   else if(←sizeT P t) == 1 then some (.st (←cE no a) (←cE no x)) else none
 | .nilCheck x=>(cE no x).map .nilc
 | .binOp op t x y _ =>
   match P.underlying t with
   | some (.int _)=>do some (.bin op (←cE no x) (←cE no y))
   | some .string=>do some (.bin op (←cE no x) (←cE no y))
   | some .bool=>do
     match op with
     | .eql=>some (.eqb false (←cE no x) (←cE no y))
     | .neq=>some (.eqb true (←cE no x) (←cE no y))
     | _=>none
   | some (.struct _)=>do
     let ks ←plainStruct P t
     match op with
     | .eql=>some (.eqs false ks (←cE no x) (←cE no y))
     | .neq=>some (.eqs true ks (←cE no x) (←cE no y))
     | _=>none
   | some (.slice _)=>do
     if nilSlice y then
      match op with
      | .eql=>some (.eqnil false (←cE no x))
      | .neq=>some (.eqnil true (←cE no x))
      | _=>none
     else none
   | _=>none
 | .unOp .not _ x=>(cE no x).map .not
 | .unOp .neg _ x=>(cE no x).map .neg
 | .convert src dst x =>
   match P.underlying src,P.underlying dst with
   | some (.int _),some (.int k)=>(cE no x).map (.cvi k)
   | some .string,some .string=>none
   | some .string,some (.slice _)=>(cE no x).map .cvsb
   | some (.slice e),some .string=>match P.underlying e with
     | some (.int .u8)=>(cE no x).map .cvbs
     | _=>none
   | _,_=>none
 | .makeFunc (.func f) first captured=>do
   if first.size == 0 then some (.fn (←no f) (←cEs no captured)) else none
 | .makeSlice t l c=>do
   let e ←elemT P t
   let i ←P.info? e
   some (.mk i.size i.bytes (←zeroOf P e) (←cE no l) (←cE no c))
 | .buildSlice t len parts=>do
   let e ←elemT P t
   let z ←zeroOf P e
   if len * z.length≤2 ^ 24 && z.length != 0 then
    some (.bs z.length len z (←parts.toList.mapM fun p=>do some (p.1,←cE no p.2)))
   else none
 | .build t parts =>
   match P.underlying t with
   | some (.struct fs) =>
     if fs.toList.all (fun f=>(sizeT P f.type).isSome) then do
      some (.bd (←zeroOf P t) (←parts.toList.mapM fun p=>do
       let f ←fs[p.1]?
       some (f.offset,←sizeT P f.type,←cE no p.2)))
     else none
   | _=>none
 | .slice t x lo hi mx=>do
   let x ←cE no x
   let lo ←lo.elim (some none) fun y=>(cE no y).map some
   let hi ←hi.elim (some none) fun y=>(cE no y).map some
   let mx ←mx.elim (some none) fun y=>(cE no y).map some
   match P.underlying t with
   | some .string=>if mx.isNone then some (.sls x lo hi) else none
   | some (.slice e)=>some (.sl (←sizeT P e) x lo hi mx)
   | _=>none
 | .fieldAddr s x f=>do
   let fd ←fieldT P s f
   if(←sizeT P fd.type) == 0 then none else some (.fa fd.offset (←cE no x))
 | .field s x f=>do
   let fd ←fieldT P s f
   let k ←if ←aggT P fd.type then(sizeT P fd.type).map some else some none
   some (.fld fd.offset k (←cE no x))
 | .indexAddr t x i=>do
   let e ←elemT P t
   some (.ia (←sizeT P e) (←cE no x) (←cE no i))
 | .index t x i =>
   match P.underlying t with
   | some .string=>do some (.ix (←cE no x) (←cE no i))
   | _=>none
 | .extract x i=>(cE no x).map (.ext i)
 | .call { callee:=.value (.func f),args,.. }=>do some (.call (←no f) (←cEs no args))
 | .call { callee:=.value (.tmp t),args,.. }=>do some (.calli (.t t) (←cEs no args))
 | .call { callee:=.builtin b,args,argTypes }=>do
   match b,←cEs no args with
   | .len,[x]=>match (argTypes[0]?).bind P.underlying with
     | some .string=>some (.lens x)
     | some (.slice _)=>some (.len x)
     | _=>none
   | .cap,[x]=>match (argTypes[0]?).bind P.underlying with
     | some (.slice _)=>some (.cap x)
     | _=>none
   | .min,xs=>some (.mn xs)
   | .max,xs=>some (.mx xs)
   | .append,[s,x]=>match (argTypes[0]?).bind P.underlying,(argTypes[1]?).bind P.underlying with
     | some (.slice e),some (.slice _)=>do
       let i ←P.info? e
       if i.bytes == 0 || i.size == 0 || i.bytes > 1048576 || (zeroOf P e).isNone then none else some (.app i.size i.bytes s x)
     | _,_=>none
   | .clear,[x]=>match (argTypes[0]?).bind P.underlying with
     | some (.slice e)=>do
       let z ←zeroOf P e
       some (.clr z.length z x)
     | _=>none
   | .copy,[d,s]=>match (argTypes[0]?).bind P.underlying,(argTypes[1]?).bind P.underlying with
     | some (.slice e),some (.slice _)=>do some (.cpy (←sizeT P e) d s)
     | _,_=>none
   | _,_=>none
 | _=>none
def edgesOk (ops:Array Oper):Bool:=ops.toList.zipIdx.all fun (o,i)=>o.after.all fun e=>e.on<i || !Region.binds .any e
def IOp.names (o:IOp):List Nat:=o.d.toList++o.o.slots++(match o.g with|some (g,_)=>[g]|none=>[])
def slotsOk (l:List IOp) (b:Array Nat):Bool:=
 l.zipIdx.all fun (y,j)=>l.zipIdx.all fun (x,i)=>!(i<j) || (b.getD j 0).testBit i ||
  ((match x.d with|some d=>!y.names.contains d|none=>true) && (match y.d with|some d=>!x.names.contains d|none=>true))
def callsOk (l:List IOp) (b:Array Nat):Bool:=
 l.zipIdx.all fun (y,j)=>l.zipIdx.all fun (x,i)=>!(i<j) || !(x.o.isCall && y.o.isCall) || (b.getD j 0).testBit i
def lightOp (o:Oper):Bool:=o.guard.isNone && (match o.op with
 | .move _|.assign _|.extract _ _=>true
 | _=>false)
def O.lgt:O→Bool
 | .mv _|.ext _ _=>true
 | _=>false
def barrier (ops:Array Oper) (b:Array Nat) (j:Nat):Bool:=
 ops.toList.zipIdx.all fun (o,i)=>(i == j || (if i<j then(b.getD j 0).testBit i else(b.getD i 0).testBit j)) || (lightOp o && !(match ops[j]? with
  | some p=>lightOp p
  | none=>true))
def cG (ops:Array Oper) (g:Option (Nat×Bool)):Option (Option (Nat×Bool)):=
 match g with
 | none=>some none
 | some (j,b)=>match (ops[j]?).bind (·.dst) with
   | some t=>some (some (t,b))
   | none=>none
def opIsCall:Op→Bool
 | .call { callee:=.value _,.. }=>true
 | _=>false
def cI (nt:Nat) (ops:Array Oper) (q:Bool) (o:Oper):Option IOp:=do
 let g ←cG ops o.guard
 let op ←cO P no o.op
 if op.isCall && !opIsCall o.op then none else
 match o.dst with
 | some d=>if d<nt then some ⟨o.dst,op,g,q⟩ else none
 | none=>some ⟨o.dst,op,g,q⟩
def cL (nt:Nat) (ops:Array Oper) (draw:Bool):Option (List IOp):=
 if draw then
  (ops.toList.zipIdx.mapM fun (p:Oper×Nat)=>cI P no nt ops (!barrier ops (Region.before ops) p.2) p.1).bind fun l =>
    if edgesOk ops && (slotsOk l (Region.before ops) && callsOk l (Region.before ops)) then some l else none
 else ops.toList.mapM (cI P no nt ops false)
def cC (nt:Nat):Code→Option C
 | .skip=>some .skip
 | .region _ ops draw=>(cL P no nt ops draw).map .rg
 | .seq a b=>do some (.seq (←cC nt a) (←cC nt b))
 | .cond c a b=>do some (.cond (←cE no c) (←cC nt a) (←cC nt b))
 | .block i c=>do some (.block i (←cC nt c))
 | .loop c=>do some (.loop (←cC nt c))
 | .exit i=>some (.exit i)
 | .ret=>some .ret
 | _=>none
def cR:ResultVar→Option RV
 | .tmp t=>some (.tmp t)
 | .cell t ty=>do if ←aggT P ty then some (.celln t (←sizeT P ty)) else some (.cell t)
def cF (f:Func):Option Fnc:=do
 let c ←f.body
 if f.name == "runtime.NumGoroutine" then none
 let b ←cC P no f.ntmps c
 if b.ok then some ⟨b,←f.results.toList.mapM (cR P)⟩ else none
end
end Go.Proofs.YtoppcdecolponaaGreat.AL
namespace Go.Proofs.YtoppcdecolponaaGreat.AL
open Go
set_option linter.unusedVariables false
structure No where
 f:Nat→Option Nat
 S:Nat
 W:World
instance : CoeFun No (fun _=>Nat→Option Nat):=⟨No.f⟩
instance : Coe No (Nat→Option Nat):=⟨No.f⟩
structure Loc where
 B:Nat
 O:Nat
 room:Option (Nat×Nat)
abbrev Inj:=Nat→Option Loc
inductive VRel (no:No) (β:Inj):Value→Value→Prop
 | junk {r}:VRel no β .nilIface r
 | bool (b):VRel no β (.bool b) (.bool b)
 | int (k n):VRel no β (.int k n) (.int k n)
 | string (s):VRel no β (.string s) (.string s)
 | pnil:VRel no β (.pointer none) (.pointer none)
 | ptr {b o L}:β b=some L→VRel no β (.pointer (some ⟨b,o,none⟩)) (.pointer (some ⟨L.B,L.O+o,none⟩))
 | snil (l c):VRel no β (.slice none l c) (.slice none l c)
 | slice {b o L l c c'}:β b=some L→c≤c'→(∀ k N,L.room=some (k,N)→L.O+o+c' * k≤N) →
    VRel no β (.slice (some ⟨b,o,none⟩) l c) (.slice (some ⟨L.B,L.O+o,none⟩) l c')
 | empty {r c'}:VRel no β (.slice (some ⟨0,0,some 0⟩) 0 0) (.slice (some r) 0 c')
 | nilFunc:VRel no β .nilFunc .nilFunc
 | func {g f} {xs ys:Array Value}:no f=some g→xs.size=ys.size→(∀ (i:Nat) x y,xs[i]?=some x→ys[i]?=some y→VRel no β x y) →
    VRel no β (.func (.func g) #[] xs) (.func (.func f) #[] ys)
 | agg {xs ys:Array Value}:xs.size=ys.size→(∀ (i:Nat) x y,xs[i]?=some x→ys[i]?=some y→VRel no β x y)→VRel no β (.agg xs) (.agg ys)
 | tuple {xs ys:Array Value}:xs.size=ys.size→(∀ (i:Nat) x y,xs[i]?=some x→ys[i]?=some y→VRel no β x y)→VRel no β (.tuple xs) (.tuple ys)
def Ext0 (β β1:Inj):Prop:=∀ b L,β b=some L→β1 b=some L
variable {no : No}
theorem VRel.inv_int {β:Inj} {k:IntKind} {i:Int} {r:Value} (h:VRel no β (.int k i) r):r=.int k i:=by cases h;rfl
theorem VRel.mono {β β1:Inj} (h:Ext0 β β1) {v r:Value} (hv:VRel no β v r):VRel no β1 v r:=by
 induction hv with
 | ptr e=>exact .ptr (h _ _ e)
 | slice e a b=>exact .slice (h _ _ e) a b
 | func a b _ ih=>exact .func a b ih
 | agg b _ ih=>exact .agg b ih
 | tuple b _ ih=>exact .tuple b ih
 | junk=>exact .junk
 | bool b=>exact .bool b
 | int k n=>exact .int k n
 | string s=>exact .string s
 | pnil=>exact .pnil
 | snil l c=>exact .snil l c
 | empty=>exact .empty
 | nilFunc=>exact .nilFunc
theorem VRel.back {β β1:Inj} (h:Ext0 β β1) {v r0:Value} (hv:VRel no β v r0):∀ {r:Value},VRel no β1 v r→VRel no β v r:=by
 induction hv with
 | junk=>intro r hr;exact .junk
 | ptr e=>intro r hr;cases hr with|ptr e1=>rw[h _ _ e] at e1;cases e1;exact .ptr e
 | slice e a b=>intro r hr;cases hr with|slice e1 a1 b1=>rw[h _ _ e] at e1;cases e1;exact .slice e a1 b1
 | @func g f xs ys a b _ ih =>
   intro r hr
   cases hr with
   | func a1 b1 c1 =>
     refine .func a1 b1 fun i x y hx hy=>?_
     obtain⟨y0,hy0⟩:∃ y0,ys[i]?=some y0:=⟨_,Array.getElem?_eq_getElem (by have:=(Array.getElem?_eq_some_iff.1 hx).1;omega)⟩
     exact ih i x y0 hx hy0 (c1 i x y hx hy)
 | @agg xs ys b _ ih =>
   intro r hr
   cases hr with
   | agg b1 c1 =>
     refine .agg b1 fun i x y hx hy=>?_
     obtain⟨y0,hy0⟩:∃ y0,ys[i]?=some y0:=⟨_,Array.getElem?_eq_getElem (by have:=(Array.getElem?_eq_some_iff.1 hx).1;omega)⟩
     exact ih i x y0 hx hy0 (c1 i x y hx hy)
 | @tuple xs ys b _ ih =>
   intro r hr
   cases hr with
   | tuple b1 c1 =>
     refine .tuple b1 fun i x y hx hy=>?_
     obtain⟨y0,hy0⟩:∃ y0,ys[i]?=some y0:=⟨_,Array.getElem?_eq_getElem (by have:=(Array.getElem?_eq_some_iff.1 hx).1;omega)⟩
     exact ih i x y0 hx hy0 (c1 i x y hx hy)
 | bool b=>intro r hr;cases hr;exact .bool b
 | int k n=>intro r hr;cases hr;exact .int k n
 | string s=>intro r hr;cases hr;exact .string s
 | pnil=>intro r hr;cases hr;exact .pnil
 | snil l c=>intro r hr;cases hr;exact .snil l c
 | empty=>intro r hr;cases hr with|empty=>exact .empty
 | nilFunc=>intro r hr;cases hr;exact .nilFunc
theorem VRel.ofFlatW {β β1:Inj} {v r:Value} (hf:flatW v=true) (hv:VRel no β1 v r):VRel no β v r:=by
 cases hv with
 | bool b=>exact .bool b
 | int k n=>exact .int k n
 | string s=>exact .string s
 | pnil=>exact .pnil
 | snil l c=>exact .snil l c
 | _=>cases hf
theorem VRel.ofFlatA {β β1:Inj} {v r:Value} (hf:flatA v=true) (hv:VRel no β1 v r):VRel no β v r:=by
 cases hv with
 | @agg xs ys hs h =>
   refine .agg hs fun i x y hx hy=>?_
   have hm:x∈xs.toList:=Array.mem_toList_iff.2 (Array.mem_of_getElem? hx)
   exact(h i x y hx hy).ofFlatW (List.all_eq_true.1 hf x hm)
 | bool b=>exact .bool b
 | int k n=>exact .int k n
 | string s=>exact .string s
 | pnil=>exact .pnil
 | snil l c=>exact .snil l c
 | _=>cases hf
theorem VRel.ofFlat {β β1:Inj} {v r:Value} (hf:flat v=true) (hv:VRel no β1 v r):VRel no β v r:=by
 cases hv with
 | nilFunc=>exact .nilFunc
 | @func g f xs ys a b c =>
   have hz:xs.size=0:=by
    simp only[AL.flat,Bool.and_eq_true,beq_iff_eq] at hf
    exact hf.2
   exact .func a b fun i x y hx hy=>by
    have:=(Array.getElem?_eq_some_iff.1 hx).1
    omega
 | @tuple xs ys b c =>
   refine .tuple b fun i x y hx hy=>?_
   have hm:x∈xs.toList:=Array.mem_toList_iff.2 (Array.mem_of_getElem? hx)
   exact(c i x y hx hy).ofFlatA (List.all_eq_true.1 hf x hm)
 | agg b c=>exact VRel.ofFlatA hf (.agg b c)
 | bool b=>exact .bool b
 | int k n=>exact .int k n
 | string s=>exact .string s
 | pnil=>exact .pnil
 | snil l c=>exact .snil l c
 | _=>cases hf
theorem VRel.constW {β:Inj} {v:Value} (hf:flatW v=true):VRel no β v v:=by
 cases v with
 | bool b=>exact .bool b
 | int k n=>exact .int k n
 | string s=>exact .string s
 | pointer a=>cases a;exact .pnil;cases hf
 | slice a l c=>cases a;exact .snil l c;cases hf
 | _=>cases hf
theorem VRel.constA {β:Inj} {v:Value} (hf:flatA v=true):VRel no β v v:=by
 cases v with
 | agg xs =>
   refine .agg rfl fun i x y hx hy=>?_
   rw[hx] at hy;cases hy
   exact .constW (List.all_eq_true.1 hf x (Array.mem_toList_iff.2 (Array.mem_of_getElem? hx)))
 | bool b=>exact .bool b
 | int k n=>exact .int k n
 | string s=>exact .string s
 | pointer a=>cases a;exact .pnil;cases hf
 | slice a l c=>cases a;exact .snil l c;cases hf
 | _=>cases hf
theorem VRel.const {β:Inj} {v:Value} (hf:flat v=true) (hn:∀ f a b,v≠.func f a b):VRel no β v v:=by
 cases v with
 | nilFunc=>exact .nilFunc
 | func f a b=>exact absurd rfl (hn f a b)
 | tuple xs =>
   refine .tuple rfl fun i x y hx hy=>?_
   rw[hx] at hy;cases hy
   exact .constA (List.all_eq_true.1 hf x (Array.mem_toList_iff.2 (Array.mem_of_getElem? hx)))
 | agg xs=>exact .constA hf
 | bool b=>exact .bool b
 | int k n=>exact .int k n
 | string s=>exact .string s
 | pointer a=>cases a;exact .pnil;cases hf
 | slice a l c=>cases a;exact .snil l c;cases hf
 | _=>cases hf
structure MRel (no:No) (β:Inj) (m:Mem) (w:World):Prop where
 bound:∀ b L,β b=some L→L.B<w.heap.size
 cells:∀ b blk L,m b=some blk→β b=some L→∀ (i:Nat) v,blk.cells[i]?=some v→∃ r,w.cell? ⟨L.B,L.O+i,none⟩=some r∧VRel no β v r
 own:∀ b blk L,m b=some blk→β b=some L→blk.own=true→∃ cs t,w.heap[L.B]?=some (.cells cs t (0,0))∧L.room=some (blk.sz,cs.size)∧L.O+blk.cells.length≤cs.size
 ro:∀ b blk L,m b=some blk→β b=some L→blk.own=false→L.room=none
 apart:∀ b b' blk blk' L L',m b=some blk→blk.own=true→β b=some L→m b'=some blk'→β b'=some L'→b≠b'→L.B≠L'.B
 kept:no.S≤w.heap.size∧∀ B,B<no.S→w.heap[B]?=no.W.heap[B]?
 ownS:∀ b blk L,m b=some blk→β b=some L→blk.own=true→no.S≤L.B
theorem MRel.mono {β:Inj} {m m1:Mem} {w:World} (h:MRel no β m w) (hs:sub m1 m):MRel no β m1 w:=
 ⟨h.bound,fun b blk L hb=>h.cells b blk L (hs _ _ hb),fun b blk L hb=>h.own b blk L (hs _ _ hb),fun b blk L hb=>h.ro b blk L (hs _ _ hb),
   fun b b' blk blk' L L' hb ho hL hb'=>h.apart b b' blk blk' L L' (hs _ _ hb) ho hL (hs _ _ hb'),h.kept,fun b blk L hb=>h.ownS b blk L (hs _ _ hb)⟩
structure Frm (β:Inj) (m:Mem) (bs n:Nat) (w w':World):Prop where
 os:w'.os=w.os
 tape:w'.tape=w.tape
 output:w'.output=w.output
 size:w.heap.size≤w'.heap.size
 block:∀ B,B<w.heap.size→(∀ b L,β b=some L→Own m b→bs≤b→b<n→L.B≠B)→w'.heap[B]?=w.heap[B]?
theorem Frm.refl (β:Inj) (m:Mem) (bs n:Nat) (w:World):Frm β m bs n w w:=⟨rfl,rfl,rfl,Nat.le_refl _,fun _ _ _=>rfl⟩
theorem Frm.less {β:Inj} {m m1:Mem} {bs n:Nat} {w w':World} (h:Frm β m1 bs n w w') (hs:∀ b,Own m1 b→Own m b):Frm β m bs n w w':=
 ⟨h.os,h.tape,h.output,h.size,fun B hB hne=>h.block B hB fun b L e hm=>hne b L e (hs b hm)⟩
structure Ext (β β1:Inj) (m:Mem) (bs n n1:Nat) (w:World):Prop where
 old:Ext0 β β1
 only:∀ b,β1 b≠β b→n≤b∧b<n1
 fresh:∀ b L,β1 b=some L→β b=none→w.heap.size≤L.B∨∃ b0 L0,β b0=some L0∧Own m b0∧bs≤b0∧b0<n∧L0.B=L.B
theorem Ext.refl (β:Inj) (m:Mem) (bs n n1:Nat) (w:World):Ext β β m bs n n1 w:=
 ⟨fun _ _ h=>h,fun _ h=>absurd rfl h,fun _ _ h h'=>by rw[h'] at h;cases h⟩
theorem Ext.less {β β1:Inj} {m m1:Mem} {bs n n1:Nat} {w:World} (h:Ext β β1 m1 bs n n1 w) (hs:∀ b,Own m1 b→Own m b):Ext β β1 m bs n n1 w:=
 ⟨h.old,h.only,fun b L e e0=>by
   rcases h.fresh b L e e0 with h1|⟨b0,L0,h2,h3,h4⟩
   ·exact .inl h1
   ·exact .inr ⟨b0,L0,h2,hs b0 h3,h4⟩⟩
theorem Ext.trans {β β1 β2:Inj} {m m1:Mem} {bs n n1 n2:Nat} {w w1:World} (h:Ext β β1 m bs n n1 w) (k:Ext β1 β2 m1 bs n1 n2 w1) (hdm:∀ b,b<n→Own m1 b→Own m b) (hn:n≤n1) (hn2:n1≤n2) (hs:w.heap.size≤w1.heap.size)
 (hd:∀ b,n≤b→b<n2→β b=none):Ext β β2 m bs n n2 w:=by
 refine⟨fun b L e=>k.old _ _ (h.old _ _ e),fun b e=>?_,fun b L e e0=>?_⟩
 ·by_cases e1:β1 b=β b
  ·have:=k.only b (by rw[e1];exact e);omega
  ·have:=h.only b e1;omega
 ·cases e1:β1 b with
  | some L1 =>
    have:=k.old _ _ e1
    rw[e] at this;cases this
    exact h.fresh b L e1 e0
  | none =>
    rcases k.fresh b L e e1 with h1|⟨b0,L0,hb0,hm1,hbs,hlt,hB⟩
    ·exact .inl (by omega)
    ·cases e2:β b0 with
     | some L2 =>
       have:=h.old _ _ e2
       rw[hb0] at this;cases this
       have h3:b0<n:=by
        rcases Nat.lt_or_ge b0 n with h3|h3
        ·exact h3
        ·rw[hd b0 h3 (by omega)] at e2;cases e2
       exact .inr ⟨b0,L0,e2,hdm b0 h3 hm1,hbs,h3,hB⟩
     | none =>
       rcases h.fresh b0 L0 hb0 e2 with h3|⟨b1,L1,hb1,hm2,h4,h5,h6⟩
       ·exact .inl (by omega)
       ·exact .inr ⟨b1,L1,hb1,hm2,h4,h5,by rw[h6,hB]⟩
theorem Frm.trans {β β1:Inj} {m m1:Mem} {bs n n1:Nat} {w w1 w2:World} (h:Frm β m bs n w w1) (he:Ext β β1 m bs n n1 w) (k:Frm β1 m1 bs n1 w1 w2) (hdm:∀ b,b<n→Own m1 b→Own m b)
 (hd:∀ b,n≤b→b<n1→β b=none):Frm β m bs n w w2:=by
 refine⟨k.os.trans h.os,k.tape.trans h.tape,k.output.trans h.output,Nat.le_trans h.size k.size,fun B hB hne=>?_⟩
 rw[k.block B (Nat.lt_of_lt_of_le hB h.size) ?_,h.block B hB hne]
 intro b L e hm1 hbs hlt heq
 cases e0:β b with
 | some L0 =>
   have:=he.old _ _ e0
   rw[e] at this;cases this
   by_cases e1:b<n
   ·exact hne b L e0 (hdm b e1 hm1) hbs e1 heq
   ·rw[hd b (by omega) hlt] at e0;cases e0
 | none =>
   rcases he.fresh b L e e0 with h1|⟨b0,L0,hb0,hm2,h2,h3,h4⟩
   ·omega
   ·exact hne b0 L0 hb0 hm2 h2 h3 (by rw[h4];exact heq)
end Go.Proofs.YtoppcdecolponaaGreat.AL
namespace Go.Proofs.YtoppcdecolponaaGreat.AL
open Go
set_option linter.unusedVariables false
variable {no : No}
theorem alloc_sim {β:Inj} {m:Mem} {w:World} {n:Nat} (bs:Nat) (hM:MRel no β m w) (hfr:Fresh m n) (hβ:β n=none) (cells:List Value) (cs:Array Value) (t:TypeId) (sz:Nat)
 (hlen:cells.length≤cs.size) (hrel:∀ (i:Nat) v,cells[i]?=some v→∃ r,cs[i]?=some r∧VRel no β v r) :
 let β1:=upd β n (some ⟨w.heap.size,0,some (sz,cs.size)⟩)
 let w1:=w.alloc (.cells cs t)
 Ext β β1 m bs n (n+1) w∧MRel no β1 (upd m n (some ⟨cells,true,sz⟩)) w1∧Frm β m bs n w w1:=by
 intro β1 w1
 have hold:Ext0 β β1:=by
  intro b L e
  simp only[β1,upd]
  split
  ·rename_i h;rw[h,hβ] at e;cases e
  ·exact e
 have hheap:∀ B,B<w.heap.size→w1.heap[B]?=w.heap[B]?:=by
  intro B hB
  show(w.heap.push _)[B]?=_
  rw[Array.getElem?_push,if_neg (by omega)]
 have hnew:w1.heap[w.heap.size]?=some (.cells cs t (0,0)):=by
  show(w.heap.push _)[_]?=_
  rw[Array.getElem?_push,if_pos rfl]
 have hβ1:∀ b L,β1 b=some L→(b=n∧L=⟨w.heap.size,0,some (sz,cs.size)⟩)∨(b≠n∧β b=some L):=by
  intro b L e
  simp only[β1,upd] at e
  split at e
  ·rename_i h;cases e;exact .inl ⟨h,rfl⟩
  ·rename_i h;exact .inr ⟨h,e⟩
 refine⟨⟨hold,?_,?_⟩,⟨?_,?_,?_,?_,?_,?_,?_⟩,⟨rfl,rfl,rfl,by show _≤(w.heap.push _).size;simp,fun B hB _=>hheap B hB⟩⟩
 ·intro b e
  by_cases h:b=n
  ·omega
  ·exact absurd (by simp [β1,upd,h]) e
 ·intro b L e e0
  rcases hβ1 b L e with⟨h,rfl⟩|⟨h,h1⟩
  ·exact .inl (Nat.le_refl _)
  ·rw[e0] at h1;cases h1
 ·intro b L e
  show L.B<(w.heap.push _).size
  rcases hβ1 b L e with⟨h,rfl⟩|⟨h,h1⟩
  ·simp
  ·have:=hM.bound b L h1;simp;omega
 ·intro b blk L hb e i v hv
  rcases hβ1 b L e with⟨rfl,rfl⟩|⟨h,h1⟩
  ·simp [upd] at hb
   subst hb
   obtain⟨r,hr,hvr⟩:=hrel i v hv
   exact⟨r,by simp [World.cell?,hnew,hr],hvr.mono hold⟩
  ·simp only[upd,if_neg h] at hb
   obtain⟨r,hr,hvr⟩:=hM.cells b blk L hb h1 i v hv
   exact⟨r,by rw[World.cell?_of_block (w:=w) (hheap _ (hM.bound b L h1))];exact hr,hvr.mono hold⟩
 ·intro b blk L hb e ho
  rcases hβ1 b L e with⟨rfl,rfl⟩|⟨h,h1⟩
  ·simp [upd] at hb
   subst hb
   exact⟨cs,t,hnew,rfl,by simpa using hlen⟩
  ·simp only[upd,if_neg h] at hb
   rw[hheap _ (hM.bound b L h1)]
   exact hM.own b blk L hb h1 ho
 ·intro b blk L hb e ho
  rcases hβ1 b L e with⟨rfl,rfl⟩|⟨h,h1⟩
  ·simp [upd] at hb
   subst hb
   cases ho
  ·simp only[upd,if_neg h] at hb
   exact hM.ro b blk L hb h1 ho
 ·intro b b' blk blk' L L' hb ho e hb' e' hne
  rcases hβ1 b L e with⟨rfl,rfl⟩|⟨h,h1⟩ <;> rcases hβ1 b' L' e' with⟨rfl,rfl⟩|⟨h',h1'⟩
  ·exact absurd rfl hne
  ·have:=hM.bound b' L' h1';simp;omega
  ·have:=hM.bound b L h1;simp;omega
  ·simp only[upd,if_neg h] at hb
   simp only[upd,if_neg h'] at hb'
   exact hM.apart b b' blk blk' L L' hb ho h1 hb' h1' hne
 ·exact⟨by have:=hM.kept.1;show _≤(w.heap.push _).size;simp;omega,fun B hB=>by rw[hheap B (Nat.lt_of_lt_of_le hB hM.kept.1)];exact hM.kept.2 B hB⟩
 ·intro b blk L hb e ho
  rcases hβ1 b L e with⟨rfl,rfl⟩|⟨h,h1⟩
  ·exact hM.kept.1
  ·simp only[upd,if_neg h] at hb;exact hM.ownS b blk L hb h1 ho
theorem write_sim {β:Inj} {m:Mem} {w w1:World} {bs n b:Nat} {blk:Blk} {L:Loc} (hM:MRel no β m w) (hfr:Fresh m n) (hb:m b=some blk) (ho:blk.own=true) (hbs:bs≤b)
 (hL:β b=some L) (cells:List Value) (hlen:cells.length=blk.cells.length) (cs0 cs:Array Value) (t:TypeId) (hw0:w.heap[L.B]?=some (.cells cs0 t (0,0)))
 (hw:w1=w.setRow L.B cs) (hsz:cs.size=cs0.size) (hrel:∀ (i:Nat) v,cells[i]?=some v→∃ r,cs[L.O+i]?=some r∧VRel no β v r) :
 MRel no β (upd m b (some ⟨cells,true,blk.sz⟩)) w1∧Frm β m bs n w w1:=by
 subst hw
 have hheap:∀ B,B≠L.B→(w.setRow L.B cs).heap[B]?=w.heap[B]?:=fun B hB=>setRow_other w L.B B cs hB
 have hnew:=setRow_heap w L.B cs0 cs t (0,0) hw0
 have hlt:b<n:=by
  rcases Nat.lt_or_ge b n with h|h
  ·exact h
  ·rw[hfr b h] at hb;cases hb
 obtain⟨cs1,t1,hw1,hroom,hle⟩:=hM.own b blk L hb hL ho
 rw[hw0] at hw1;cases hw1
 refine⟨⟨?_,?_,?_,?_,?_,?_,?_⟩,⟨rfl,rfl,rfl,by simp,fun B hB hne=>hheap B (Ne.symm (hne b L hL ⟨_,hb,ho⟩ hbs hlt))⟩⟩
 ·intro b' L' e;simpa using hM.bound b' L' e
 ·intro b' blk' L' hb' e i v hv
  by_cases h:b'=b
  ·subst h
   simp [upd] at hb'
   subst hb'
   rw[hL] at e;cases e
   obtain⟨r,hr,hvr⟩:=hrel i v hv
   exact⟨r,by simp [World.cell?,hnew,hr],hvr⟩
  ·simp only[upd,if_neg h] at hb'
   obtain⟨r,hr,hvr⟩:=hM.cells b' blk' L' hb' e i v hv
   have hne:=hM.apart b b' blk blk' L L' hb ho hL hb' e (Ne.symm h)
   exact⟨r,by rw[World.cell?_of_block (w:=w) (hheap _ (Ne.symm hne))];exact hr,hvr⟩
 ·intro b' blk' L' hb' e ho'
  by_cases h:b'=b
  ·subst h
   simp [upd] at hb'
   subst hb'
   rw[hL] at e;cases e
   exact⟨cs,t,hnew,by rw[hsz];exact hroom,by rw[hsz];simp only[hlen];exact hle⟩
  ·simp only[upd,if_neg h] at hb'
   have hne:=hM.apart b b' blk blk' L L' hb ho hL hb' e (Ne.symm h)
   rw[hheap _ (Ne.symm hne)]
   exact hM.own b' blk' L' hb' e ho'
 ·intro b' blk' L' hb' e ho'
  by_cases h:b'=b
  ·subst h
   simp [upd] at hb'
   subst hb'
   cases ho'
  ·simp only[upd,if_neg h] at hb'
   exact hM.ro b' blk' L' hb' e ho'
 ·intro b1 b2 k1 k2 L1 L2 h1 ho1 e1 h2 e2 hne
  have old:∀ b' k',upd m b (some (⟨cells,true,blk.sz⟩:Blk)) b'=some k'→∃ k,m b'=some k∧k.own=k'.own:=by
   intro b' k' h
   by_cases e:b'=b
   ·subst e;simp [upd] at h;subst h;exact⟨blk,hb,ho⟩
   ·simp only[upd,if_neg e] at h;exact⟨k',h,rfl⟩
  obtain⟨k1',h1',ho1'⟩:=old b1 k1 h1
  obtain⟨k2',h2',_⟩:=old b2 k2 h2
  exact hM.apart b1 b2 k1' k2' L1 L2 h1' (by rw[ho1'];exact ho1) e1 h2' e2 hne
 ·exact⟨by simpa using hM.kept.1,fun B hB=>by rw[hheap B (fun e=>by have:=hM.ownS b blk L hb hL ho;omega)];exact hM.kept.2 B hB⟩
 ·intro b' blk' L' hb' e ho'
  by_cases h:b'=b
  ·subst h
   rw[hL] at e;cases e
   exact hM.ownS _ blk _ hb hL ho
  ·simp only[upd,if_neg h] at hb';exact hM.ownS b' blk' L' hb' e ho'
theorem oneCell_of {β:Inj} {v r:Value} (h:wideV v=false) (hv:VRel no β v r):r.oneCell'=true∧r.cells = #[r]:=by
 cases hv <;> first|exact⟨rfl,rfl⟩|cases h
theorem addr_add (b o i:Nat):(⟨b,o,none⟩:Addr).add i=⟨b,o+i,none⟩:=by
 unfold Addr.add;split <;> simp_all
theorem wrn_sim (P:Program) {β:Inj} {m m1:Mem} {w:World} {bs n:Nat} {a:Addr} {vs:List Value} {rs:List Value} {ra:Addr} (hM:MRel no β m w) (hfr:Fresh m n)
 (ha:VRel no β (.pointer (some a)) (.pointer (some ra))) (hw:wrn bs m a vs=some m1) (hone:∀ v∈vs,wideV v=false) (hl:rs.length=vs.length)
 (hrel:∀ (i:Nat) v r,vs[i]?=some v→rs[i]?=some r→VRel no β v r) :
 ∃ w1,(storeCells ra rs).run P w=.ok () w1∧MRel no β m1 w1∧Frm β m bs n w w1:=by
 cases ha with
 | @ptr b o L hL =>
   unfold wrn at hw
   simp only[Option.isSome_none,Bool.false_eq_true,if_false] at hw
   split at hw
   ·rename_i blk hb
    split at hw
    ·rename_i hc
     obtain⟨hbs,ho,hle⟩:=hc
     cases hw
     obtain⟨cs,t,hw0,hroom,hsz⟩:=hM.own b blk L hb hL ho
     have hr1:∀ r∈rs,r.oneCell'=true:=by
      intro r hr
      obtain⟨i,hi⟩:=List.getElem?_of_mem hr
      have hlt:=(List.getElem?_eq_some_iff.1 hi).1
      have hv:vs[i]?=some vs[i]:=List.getElem?_eq_getElem (by omega)
      exact(oneCell_of (hone _ (List.getElem_mem _)) (hrel i _ _ hv hi)).1
     have hrun:=run_storeCells_at (P:=P) L.B (L.O+o) t rs 0 cs w hw0 (by omega) hr1
     refine⟨_,hrun,?_⟩
     simp only[Nat.add_zero] at *
     have hnl:(blk.cells.take o++vs++blk.cells.drop (o+vs.length)).length=blk.cells.length:=by simp;omega
     refine write_sim hM hfr hb ho hbs hL _ hnl cs _ t hw0 rfl (by simp;omega) ?_
     intro i v hv
     have hcell:∀ j u,blk.cells[j]?=some u→∃ r,cs[L.O+j]?=some r∧VRel no β u r:=by
      intro j u hu
      obtain⟨r,hr,hvr⟩:=hM.cells b blk L hb hL j u hu
      refine⟨r,?_,hvr⟩
      simpa[World.cell?,hw0] using hr
     have hi:i<blk.cells.length:=by rw[←hnl];exact(List.getElem?_eq_some_iff.1 hv).1
     simp only[List.getElem?_toArray]
     by_cases h1:i<o
     ·have e:(blk.cells.take o++vs++blk.cells.drop (o+vs.length))[i]?=blk.cells[i]?:=by
       rw[List.append_assoc,List.getElem?_append_left (by simp;omega),List.getElem?_take_of_lt h1]
      rw[e] at hv
      obtain⟨r,hr,hvr⟩:=hcell i v hv
      refine⟨r,?_,hvr⟩
      rw[List.append_assoc,List.getElem?_append_left (by simp;omega),List.getElem?_take_of_lt (by omega)]
      simpa using hr
     ·by_cases h2:i<o+vs.length
      ·have e:(blk.cells.take o++vs++blk.cells.drop (o+vs.length))[i]?=vs[i-o]?:=by
        rw[List.getElem?_append_left (by simp;omega),List.getElem?_append_right (by simp;omega)]
        congr 1;simp;omega
       rw[e] at hv
       have hr:rs[i-o]?=some (rs[i-o]'(by omega)):=List.getElem?_eq_getElem _
       refine⟨_,?_,hrel _ _ _ hv hr⟩
       rw[List.getElem?_append_left (by simp;omega),List.getElem?_append_right (by simp;omega),←hr]
       congr 1;simp;omega
      ·have e:(blk.cells.take o++vs++blk.cells.drop (o+vs.length))[i]?=blk.cells[i]?:=by
        rw[List.getElem?_append_right (by simp;omega),List.getElem?_drop]
        congr 1;simp;omega
       rw[e] at hv
       obtain⟨r,hr,hvr⟩:=hcell i v hv
       refine⟨r,?_,hvr⟩
       rw[List.getElem?_append_right (by simp;omega),List.getElem?_drop]
       have:L.O+o+rs.length+(L.O+i-(cs.toList.take (L.O+o)++rs).length)=L.O+i:=by simp;omega
       rw[this]
       simpa using hr
    ·cases hw
   ·cases hw
theorem wr_eq_wrn {bs:Nat} {m:Mem} {a:Addr} {v:Value} {m1:Mem} (h:wr bs m a v=some m1):wrn bs m a [v]=some m1:=by
 unfold wr at h
 unfold wrn
 split at h
 ·cases h
 ·rename_i hs
  rw[if_neg hs]
  split at h
  ·rename_i b hb
   split at h
   ·rename_i hc
    rw[if_pos ⟨hc.1,hc.2.1,by simp;omega⟩]
    cases h
    congr 4
    rw[List.set_eq_take_append_cons_drop,if_pos hc.2.2]
    simp
   ·cases h
  ·cases h
theorem rdn_sim (P:Program) {β:Inj} {m:Mem} {w:World} {a:Addr} {vs:List Value} {ra:Addr} {k:Nat} (hM:MRel no β m w)
 (ha:VRel no β (.pointer (some a)) (.pointer (some ra))) (h:rdn m a k=some vs) :
 ∃ rs:Array Value,(loadCells ra k).run P w=.ok rs w∧vs.length=k∧rs.size=k∧∀ (i:Nat) v r,vs[i]?=some v→rs[i]?=some r→VRel no β v r:=by
 cases ha with
 | @ptr b o L hL =>
   unfold rdn at h
   simp only[Option.isSome_none,Bool.false_eq_true,if_false] at h
   split at h
   ·rename_i blk hb
    split at h
    ·rename_i hle
     cases h
     have hc:∀ j,j<k→∃ r,w.cell? ⟨L.B,L.O+(o+j),none⟩=some r∧∀ v,blk.cells[o+j]?=some v→VRel no β v r:=by
      intro j hj
      have hv:blk.cells[o+j]?=some (blk.cells[o+j]'(by omega)):=List.getElem?_eq_getElem _
      obtain⟨r,hr,hvr⟩:=hM.cells b blk L hb hL _ _ hv
      exact⟨r,hr,fun v h=>by rw[hv] at h;cases h;exact hvr⟩
     let f:Nat→Value:=fun j=>if h:j<k then(hc j h).choose else undef
     have hf:∀ j,j<k→w.cell? ((⟨L.B,L.O+o,none⟩:Addr).add j)=some (f j):=by
      intro j hj
      rw[addr_add,Nat.add_assoc]
      simp only[f,dif_pos hj]
      exact(hc j hj).choose_spec.1
     refine⟨_,run_loadCells w _ k f hf,by simp;omega,by simp,fun i v r hv hr=>?_⟩
     have hi:i<k:=by
      have:=(List.getElem?_eq_some_iff.1 hv).1
      simp at this;omega
     simp [hi] at hr
     subst hr
     simp only[f,dif_pos hi]
     refine(hc i hi).choose_spec.2 v ?_
     rw[←hv,List.getElem?_take_of_lt hi,List.getElem?_drop]
    ·cases h
   ·cases h
theorem rd_sim {β:Inj} {m:Mem} {w:World} {a:Addr} {v:Value} {ra:Addr} (hM:MRel no β m w)
 (ha:VRel no β (.pointer (some a)) (.pointer (some ra))) (h:rd m a=some v):∃ r,w.cell? ra=some r∧VRel no β v r:=by
 cases ha with
 | @ptr b o L hL =>
   unfold rd at h
   simp only[Option.isSome_none,Bool.false_eq_true,if_false] at h
   split at h
   ·rename_i blk hb
    exact hM.cells b blk L hb hL o v h
   ·cases h
end Go.Proofs.YtoppcdecolponaaGreat.AL
namespace Go.Proofs.YtoppcdecolponaaGreat.AL
open Go
set_option linter.unusedVariables false
set_option linter.unusedSimpArgs false
variable {no : No}
structure FRel (no:No) (nt:Nat) (β:Inj) (tm:Tm) (a:Act):Prop where
 size:nt≤a.tmps.size
 defers:a.defers=[]
 slots:∀ t,VRel no β (tm t) (a.tmps.getD t undef)
theorem FRel.mono {nt β β1 tm a} (h:FRel no nt β tm a) (e:Ext0 β β1):FRel no nt β1 tm a:=⟨h.size,h.defers,fun t=>(h.slots t).mono e⟩
theorem FRel.put {nt β tm a} {d:Option Nat} {v r:Value} (h:FRel no nt β tm a) (hd:∀ x,d=some x→x<nt) (hv:VRel no β v r):FRel no nt β (put tm d v) (a.put d r):=by
 cases d with
 | none=>exact h
 | some d =>
   refine⟨by simpa[Act.put] using h.size,h.defers,fun t=>?_⟩
   have hlt:=Nat.lt_of_lt_of_le (hd d rfl) h.size
   by_cases e:t=d
   ·subst e;simp [AL.put,upd,Act.put,hlt];exact hv
   ·have:=h.slots t
    simp only[AL.put,upd,if_neg e,Act.put]
    rw[show(a.tmps.setIfInBounds d r).getD t undef=a.tmps.getD t undef by simp [Array.getElem?_setIfInBounds,Ne.symm e]]
    exact this
theorem E.sim {nt β tm a} {x:Operand} {e:E} (hF:FRel no nt β tm a) (h:cE no x=some e):VRel no β (e.ev tm) (a.eval x):=by
 cases x with
 | tmp t=>cases h;exact hF.slots t
 | const v =>
   simp only[cE] at h
   split at h
   ·rename_i hf
    cases h
    simp only[Bool.and_eq_true] at hf
    refine VRel.const hf.1 ?_
    rintro f a b rfl
    cases hf.2
   ·cases h
 | global g=>cases h
 | func f =>
   simp only[cE,Option.map_eq_some_iff] at h
   obtain⟨g,hg,rfl⟩:=h
   exact .func hg rfl fun i x y hx hy=>by simp at hx
theorem Es.sim {nt β tm a} (hF:FRel no nt β tm a):∀ {xs:List Operand} {es:List E},xs.mapM (cE no)=some es →
 es.length=xs.length∧∀ (i:Nat) v r,(es.map (·.ev tm))[i]?=some v→(xs.map a.eval)[i]?=some r→VRel no β v r
 | [],es,h=>by simp at h;subst h;simp
 | x::xs,es,h=>by
   simp only[List.mapM_cons,Option.bind_eq_bind,Option.bind_eq_some_iff,Option.pure_def,Option.some.injEq] at h
   obtain⟨e,he,es',hes,rfl⟩:=h
   obtain⟨hl,ih⟩:=Es.sim hF hes
   refine⟨by simp [hl],fun i v r hv hr=>?_⟩
   cases i with
   | zero=>simp at hv hr;subst hv;subst hr;exact E.sim hF he
   | succ i=>simp at hv hr;exact ih i v r (by simpa using hv) (by simpa using hr)
variable {P : Program}
def Runs (P:Program) (no:No) (β:Inj) (m:Mem) (bs n n1:Nat) (w:World) (x:Sem Next) (v:Value) (m1:Mem):Prop:=
 ∃ nx rv w' β1,x.run P w=.ok nx w'∧(nx=.value rv∨(nx=.skip∧rv=undef))∧VRel no β1 v rv∧Ext β β1 m bs n n1 w∧MRel no β1 m1 w'∧Frm β m bs n w w'
theorem Runs.quiet {β:Inj} {bs n:Nat} {w:World} {x:Sem Next} {v rv:Value} {m:Mem} (hM:MRel no β m w) (hrun:x.run P w=.ok (.value rv) w) (hv:VRel no β v rv) :
 Runs P no β m bs n n w x v m:=⟨_,rv,w,β,hrun,.inl rfl,hv,Ext.refl ..,hM,Frm.refl ..⟩
section
variable {nt : Nat} {β : Inj} {tm : Tm} {a : Act} {m m1 : Mem} {w : World} {bs n n1 : Nat} {v : Value} {o : Oper}
theorem run_newRow (t:TypeId) (cs:Array Value) (w:World):(newRow t cs).run P w=.ok ⟨w.heap.size,0,none⟩ (w.alloc (.cells cs t)):=rfl
theorem VRel.inv_slice {ad:Addr} {l c:Nat} {r:Value} (h:VRel no β (.slice (some ad) l c) r) (hs:ad.spot=none) :
 ∃ L c',β ad.block=some L∧r=.slice (some ⟨L.B,L.O+ad.off,none⟩) l c'∧c≤c'∧∀ k N,L.room=some (k,N)→L.O+ad.off+c' * k≤N:=by
 cases h with
 | @slice b o L l c c' hL hc hr=>exact⟨L,c',hL,rfl,hc,hr⟩
 | empty=>cases hs
theorem VRel.inv_func {g:Nat} {x1 x2:Array Value} {r:Value} (h:VRel no β (.func (.func g) x1 x2) r) :
 ∃ f ys,no f=some g∧x1 = #[]∧r=.func (.func f) #[] ys∧x2.size=ys.size∧∀ (i:Nat) x y,x2[i]?=some x→ys[i]?=some y→VRel no β x y:=by
 cases h with
 | @func g f xs ys hf hs hr=>exact⟨f,ys,hf,rfl,rfl,hs,hr⟩
theorem s_move {x:Operand} {e:E} (ho:o.op=.move x∨o.op=.assign x) (hx:cE no x=some e) (hF:FRel no nt β tm a) (hM:MRel no β m w)
 (hs:stepO bs (.mv e) tm m n=some (v,m1,n1)):Runs P no β m bs n n1 w (execOp a.eval o) v m1:=by
 simp only[stepO,Option.some.injEq,Prod.mk.injEq] at hs
 obtain⟨rfl,rfl,rfl⟩:=hs
 refine .quiet hM (rv:=a.eval x) ?_ (E.sim hF hx)
 rcases ho with ho|ho <;> simp [execOp,ho]
theorem s_pick {c x y:Operand} {ec ex ey:E} (ho:o.op=.pick c x y) (hc:cE no c=some ec) (hx:cE no x=some ex) (hy:cE no y=some ey) (hF:FRel no nt β tm a) (hM:MRel no β m w)
 (hs:stepO bs (.pick ec ex ey) tm m n=some (v,m1,n1)):Runs P no β m bs n n1 w (execOp a.eval o) v m1:=by
 have h1:=E.sim hF hc
 simp only[stepO] at hs
 split at hs
 ·rename_i t ht
  simp only[Option.some.injEq,Prod.mk.injEq] at hs
  obtain⟨rfl,rfl,rfl⟩:=hs
  rw[ht] at h1
  cases hr:a.eval c <;> rw[hr] at h1 <;> cases h1
  cases t
  ·refine .quiet hM (rv:=a.eval y) ?_ (E.sim hF hy)
   simp [execOp,ho,hr,asBool]
  ·refine .quiet hM (rv:=a.eval x) ?_ (E.sim hF hx)
   simp [execOp,ho,hr,asBool]
 ·cases hs
theorem run_sizeT {t:TypeId} {k:Nat} (h:sizeT P t=some k) (w:World):(sizeOf t).run P w=.ok k w:=by
 simp only[sizeT,Option.map_eq_some_iff] at h
 obtain⟨i,hi,rfl⟩:=h
 simp [sizeOf,typeInfo,hi]
theorem run_zeroOf {t:TypeId} {z:List Value} (h:zeroOf P t=some z) (w:World):∃ v,(zeroValue t).run P w=.ok v w∧v.cells=z.toArray∧(∀ x∈z,flatW x=true)∧sizeT P t=some z.length:=by
 simp only[zeroOf,Option.bind_eq_bind,Option.bind_eq_some_iff] at h
 obtain⟨i,hi,v,hv,h⟩:=h
 split at h
 ·rename_i hc
  cases h
  simp only[Bool.and_eq_true,beq_iff_eq] at hc
  refine⟨v,by simp [zeroValue,typeInfo,hi,hv],by simp,fun x hx=>?_,by simp [sizeT,hi,←hc.2]⟩
  exact List.all_eq_true.1 hc.1 x hx
 ·cases h
theorem s_new {t:TypeId} {z:List Value} (ho:o.op=.alloc t) (hz:zeroOf P t=some z) (hF:FRel no nt β tm a) (hM:MRel no β m w) (hfr:Fresh m n)
 (hs:stepO bs (.new z) tm m n=some (v,m1,n1)) (hd:∀ b,n≤b→b<n1→β b=none):Runs P no β m bs n n1 w (execOp a.eval o) v m1:=by
 simp only[stepO,Option.some.injEq,Prod.mk.injEq] at hs
 obtain⟨rfl,rfl,rfl⟩:=hs
 obtain⟨zv,hrun,hzc,hflat,_⟩:=run_zeroOf hz w
 have hn:=hd n (Nat.le_refl _) (by omega)
 obtain⟨e1,e2,e3⟩:=alloc_sim bs hM hfr hn z zv.cells t 1 (by simp [hzc]) fun i x hx=>⟨x,by simp [hzc,hx],VRel.constW (hflat x (List.mem_of_getElem? hx))⟩
 refine⟨_,.pointer (some ⟨w.heap.size,0,none⟩),_,_,?_,.inl rfl,?_,e1,e2,e3⟩
 ·simp [execOp,ho,Instr.alloc,hrun,newVar,run_newRow]
 ·have:upd β n (some (⟨w.heap.size,0,some (1,zv.cells.size)⟩:Loc)) n=some ⟨w.heap.size,0,some (1,zv.cells.size)⟩:=by simp [upd]
  exact VRel.ptr (o:=0) this
theorem cells_rel {β:Inj} {v r:Value} (hj:isJunk v=false) (hv:VRel no β v r):v.cells.size=r.cells.size∧∀ (i:Nat) x y,v.cells[i]?=some x→r.cells[i]?=some y→VRel no β x y:=by
 cases hv with
 | junk=>cases hj
 | agg hs h=>exact⟨hs,h⟩
 | _ =>
   refine⟨rfl,fun i x y hx hy=>?_⟩
   simp only[Value.cells] at hx hy
   cases i with
   | zero=>simp at hx hy;subst hx;subst hy;constructor <;> assumption
   | succ i=>simp at hx
theorem s_box {t:TypeId} {x:Operand} {e:E} (ho:o.op=.box t x) (hx:cE no x=some e) (hF:FRel no nt β tm a) (hM:MRel no β m w) (hfr:Fresh m n)
 (hs:stepO bs (.box e) tm m n=some (v,m1,n1)) (hd:∀ b,n≤b→b<n1→β b=none):Runs P no β m bs n n1 w (execOp a.eval o) v m1:=by
 simp only[stepO] at hs
 split at hs
 ·cases hs
 ·rename_i hj
  simp only[Option.some.injEq,Prod.mk.injEq] at hs
  obtain⟨rfl,rfl,rfl⟩:=hs
  have hn:=hd n (Nat.le_refl _) (by omega)
  obtain⟨hsz,hc⟩:=cells_rel (by simpa using hj) (E.sim hF hx)
  obtain⟨e1,e2,e3⟩:=alloc_sim bs hM hfr hn (e.ev tm).cells.toList (a.eval x).cells t 1 (by simp [hsz]) (by
   intro i y hy
   have hlt:=(List.getElem?_eq_some_iff.1 hy).1
   simp at hlt
   exact⟨_,Array.getElem?_eq_getElem (by omega),hc i y _ (by simpa using hy) (Array.getElem?_eq_getElem (by omega))⟩)
  refine⟨_,.pointer (some ⟨w.heap.size,0,none⟩),_,_,?_,.inl rfl,?_,e1,e2,e3⟩
  ·simp [execOp,ho,Instr.box,newVar,run_newRow]
  ·have:upd β n (some (⟨w.heap.size,0,some (1,(a.eval x).cells.size)⟩:Loc)) n=some ⟨w.heap.size,0,some (1,(a.eval x).cells.size)⟩:=by simp [upd]
   exact VRel.ptr (o:=0) this
theorem run_aggT {t:TypeId} {b:Bool} (h:aggT P t=some b) (w:World):(Go.isAgg t).run P w=.ok b w:=by
 unfold aggT at h
 cases hu:P.underlying t with
 | none=>rw[hu] at h;cases h
 | some d =>
   rw[hu] at h
   simp only[Go.isAgg,Sem.run_bind,run_underlying hu,Result.andThen_ok]
   cases d <;> simp at h <;> subst h <;> simp
theorem ptr_of {β:Inj} {a:Addr} {r:Value} (h:VRel no β (.pointer (some a)) r):∃ ra,r=.pointer (some ra):=by
 cases h with
 | ptr e=>exact⟨_,rfl⟩
theorem s_ld {t:TypeId} {x:Operand} {e:E} (ho:o.op=.load t x) (hx:cE no x=some e) (hagg:aggT P t=some false) (hF:FRel no nt β tm a) (hM:MRel no β m w)
 (hs:stepO bs (.ld e) tm m n=some (v,m1,n1)):Runs P no β m bs n n1 w (execOp a.eval o) v m1:=by
 have h1:=E.sim hF hx
 simp only[stepO] at hs
 split at hs
 ·rename_i ad he
  split at hs
  ·rename_i u hu
   simp only[Option.some.injEq,Prod.mk.injEq] at hs
   obtain⟨rfl,rfl,rfl⟩:=hs
   rw[he] at h1
   obtain⟨ra,hra⟩:=ptr_of h1
   rw[hra] at h1
   obtain⟨r,hr,hv⟩:=rd_sim hM h1 hu
   refine .quiet hM (rv:=r) ?_ hv
   simp [execOp,ho,Instr.loadAt,hra,Instr.sureAddr,loadVar,run_aggT hagg,hr]
  ·cases hs
 ·cases hs
theorem s_ldn {t:TypeId} {x:Operand} {e:E} {k:Nat} (ho:o.op=.load t x) (hx:cE no x=some e) (hagg:aggT P t=some true) (hk:sizeT P t=some k) (hF:FRel no nt β tm a) (hM:MRel no β m w)
 (hs:stepO bs (.ldn k e) tm m n=some (v,m1,n1)):Runs P no β m bs n n1 w (execOp a.eval o) v m1:=by
 have h1:=E.sim hF hx
 simp only[stepO] at hs
 split at hs
 ·rename_i ad he
  split at hs
  ·rename_i us hu
   simp only[Option.some.injEq,Prod.mk.injEq] at hs
   obtain⟨rfl,rfl,rfl⟩:=hs
   rw[he] at h1
   obtain⟨ra,hra⟩:=ptr_of h1
   rw[hra] at h1
   obtain⟨rs,hrun,hl,hs,hv⟩:=rdn_sim P hM h1 hu
   refine .quiet hM (rv:=.agg rs) ?_ (.agg (by simp [hl,hs]) fun i x y hx hy=>hv i x y (by simpa using hx) hy)
   simp [execOp,ho,Instr.loadAt,hra,Instr.sureAddr,loadVar,run_aggT hagg,run_sizeT hk,hrun]
  ·cases hs
 ·cases hs
theorem s_st {t:TypeId} {x y:Operand} {ex ey:E} (ho:o.op=.store t x y) (hx:cE no x=some ex) (hy:cE no y=some ey) (hk:sizeT P t=some 1) (hF:FRel no nt β tm a) (hM:MRel no β m w) (hfr:Fresh m n)
 (hs:stepO bs (.st ex ey) tm m n=some (v,m1,n1)):Runs P no β m bs n n1 w (execOp a.eval o) v m1:=by
 have h1:=E.sim hF hx
 have h2:=E.sim hF hy
 simp only[stepO] at hs
 split at hs
 ·rename_i ad he
  split at hs
  ·cases hs
  ·rename_i hag
   split at hs
   ·rename_i m2 hw
    simp only[Option.some.injEq,Prod.mk.injEq] at hs
    obtain⟨rfl,rfl,rfl⟩:=hs
    rw[he] at h1
    obtain⟨ra,hra⟩:=ptr_of h1
    rw[hra] at h1
    have hag':wideV (ey.ev tm)=false:=by simpa using hag
    obtain⟨hone,hcells⟩:=oneCell_of hag' h2
    obtain⟨w1,hrun,hM1,hF1⟩:=wrn_sim P hM hfr h1 (wr_eq_wrn hw) (rs:=[a.eval y]) (by simpa using hag') rfl (by
     intro i u r hu hr
     cases i with
     | zero=>simp at hu hr;subst hu;subst hr;exact h2
     | succ i=>simp at hu)
    refine⟨.skip,undef,w1,β,?_,.inr ⟨rfl,rfl⟩,.junk,Ext.refl ..,hM1,hF1⟩
    simp [execOp,ho,Instr.storeAt,hra,Instr.sureAddr,storeVar,run_sizeT hk,hcells,hrun]
   ·cases hs
 ·cases hs
theorem s_stn {t:TypeId} {x y:Operand} {ex ey:E} {k:Nat} (ho:o.op=.store t x y) (hx:cE no x=some ex) (hy:cE no y=some ey) (hk:sizeT P t=some k) (hF:FRel no nt β tm a) (hM:MRel no β m w) (hfr:Fresh m n)
 (hs:stepO bs (.stn k ex ey) tm m n=some (v,m1,n1)):Runs P no β m bs n n1 w (execOp a.eval o) v m1:=by
 have h1:=E.sim hF hx
 have h2:=E.sim hF hy
 simp only[stepO] at hs
 split at hs
 ·rename_i ad vs he hvs
  split at hs
  ·rename_i hc
   split at hs
   ·rename_i m2 hw
    simp only[Option.some.injEq,Prod.mk.injEq] at hs
    obtain⟨rfl,rfl,rfl⟩:=hs
    rw[he] at h1
    obtain⟨ra,hra⟩:=ptr_of h1
    rw[hra] at h1
    rw[hvs] at h2
    cases hr:a.eval y <;> rw[hr] at h2 <;> cases h2
    rename_i rs hsz hrel
    obtain⟨w1,hrun,hM1,hF1⟩:=wrn_sim P hM hfr h1 hw (rs:=rs.toList) (by
     intro u hu
     have:=List.all_eq_true.1 hc.2 u hu
     simpa using this) (by simp [hsz]) (by
     intro i u r hu hr
     exact hrel i u r (by simpa using hu) (by simpa using hr))
    refine⟨.skip,undef,w1,β,?_,.inr ⟨rfl,rfl⟩,.junk,Ext.refl ..,hM1,hF1⟩
    have hk':rs.size=k:=by rw[←hsz];exact hc.1
    simp [execOp,ho,Instr.storeAt,hra,Instr.sureAddr,storeVar,run_sizeT hk,hr,Value.cells,hk',hrun]
   ·cases hs
  ·cases hs
 ·cases hs
theorem s_fa {s:TypeId} {x:Operand} {e:E} {f:Nat} {fd:Field} {k:Nat} (ho:o.op=.fieldAddr s x f) (hx:cE no x=some e) (hfd:fieldT P s f=some fd) (hk:sizeT P fd.type=some k) (hk0:k≠0)
 (hF:FRel no nt β tm a) (hM:MRel no β m w)
 (hs:stepO bs (.fa fd.offset e) tm m n=some (v,m1,n1)):Runs P no β m bs n n1 w (execOp a.eval o) v m1:=by
 have h1:=E.sim hF hx
 simp only[stepO] at hs
 split at hs
 ·rename_i ad he
  split at hs
  ·cases hs
  ·rename_i hsp
   simp only[Option.some.injEq,Prod.mk.injEq] at hs
   obtain⟨rfl,rfl,rfl⟩:=hs
   rw[he] at h1
   cases hr:a.eval x <;> rw[hr] at h1 <;> cases h1
   rename_i b of L hL
   refine .quiet hM (rv:=.pointer (some ⟨L.B,L.O+of+fd.offset,none⟩)) ?_ (by rw[Nat.add_assoc];exact VRel.ptr hL)
   unfold fieldT at hfd
   split at hfd
   ·rename_i fs hfs
    simp [execOp,ho,Instr.fieldAt,run_underlying hfs,hfd,hr,Instr.sureAddr,fieldPlace,run_sizeT hk,hk0,addr_add]
   ·cases hfd
 ·cases hs
theorem elemT_eq {t e:TypeId} (h:elemT P t=some e):P.underlying t=some (.slice e):=by
 unfold elemT at h
 split at h
 ·rename_i e' he;cases h;exact he
 ·cases h
theorem s_ia {t e:TypeId} {x i:Operand} {ex ei:E} {k:Nat} (ho:o.op=.indexAddr t x i) (hx:cE no x=some ex) (hi:cE no i=some ei) (hu:elemT P t=some e) (hk:sizeT P e=some k)
 (hF:FRel no nt β tm a) (hM:MRel no β m w)
 (hs:stepO bs (.ia k ex ei) tm m n=some (v,m1,n1)):Runs P no β m bs n n1 w (execOp a.eval o) v m1:=by
 have h1:=E.sim hF hx
 have h2:=E.sim hF hi
 simp only[stepO] at hs
 split at hs
 ·rename_i ad len cap kd j he hj
  split at hs
  ·cases hs
  ·rename_i hsp
   split at hs
   ·rename_i hb
    simp only[Option.some.injEq,Prod.mk.injEq] at hs
    obtain⟨rfl,rfl,rfl⟩:=hs
    rw[he] at h1
    rw[hj] at h2
    obtain⟨L,c',hL,hr,hc,hroom⟩:=h1.inv_slice (by simpa using hsp)
    cases hr2:a.eval i <;> rw[hr2] at h2 <;> cases h2
    refine .quiet hM (rv:=.pointer (some ⟨L.B,L.O+ad.off+j.toNat * k,none⟩)) ?_ (by rw[Nat.add_assoc];exact VRel.ptr hL)
    simp [execOp,ho,Instr.indexAt,run_underlying (elemT_eq hu),hr,hr2,asIntOf,run_sizeT hk,hb,addr_add]
   ·cases hs
 ·cases hs
theorem s_not {t:TypeId} {x:Operand} {e:E} (ho:o.op=.unOp .not t x) (hx:cE no x=some e) (hF:FRel no nt β tm a) (hM:MRel no β m w)
 (hs:stepO bs (.not e) tm m n=some (v,m1,n1)):Runs P no β m bs n n1 w (execOp a.eval o) v m1:=by
 have h1:=E.sim hF hx
 simp only[stepO] at hs
 split at hs
 ·rename_i b he
  simp only[Option.some.injEq,Prod.mk.injEq] at hs
  obtain⟨rfl,rfl,rfl⟩:=hs
  rw[he] at h1
  cases hr:a.eval x <;> rw[hr] at h1 <;> cases h1
  refine .quiet hM (rv:=.bool !b) ?_ (.bool _)
  simp [execOp,ho,Op.unary,hr]
 ·cases hs
theorem s_neg {t:TypeId} {x:Operand} {e:E} (ho:o.op=.unOp .neg t x) (hx:cE no x=some e) (hF:FRel no nt β tm a) (hM:MRel no β m w)
 (hs:stepO bs (.neg e) tm m n=some (v,m1,n1)):Runs P no β m bs n n1 w (execOp a.eval o) v m1:=by
 have h1:=E.sim hF hx
 simp only[stepO] at hs
 split at hs
 ·rename_i k i he
  simp only[Option.some.injEq,Prod.mk.injEq] at hs
  obtain⟨rfl,rfl,rfl⟩:=hs
  rw[he] at h1
  cases hr:a.eval x <;> rw[hr] at h1 <;> cases h1
  refine .quiet hM (rv:=.int k (k.wrap (0-i))) ?_ (.int _ _)
  simp [execOp,ho,Op.unary,hr,Op.intArith]
 ·cases hs
theorem s_ext {x:Operand} {e:E} {i:Nat} (ho:o.op=.extract x i) (hx:cE no x=some e) (hF:FRel no nt β tm a) (hM:MRel no β m w)
 (hs:stepO bs (.ext i e) tm m n=some (v,m1,n1)):Runs P no β m bs n n1 w (execOp a.eval o) v m1:=by
 have h1:=E.sim hF hx
 simp only[stepO] at hs
 split at hs
 ·rename_i vs he
  split at hs
  ·rename_i u hu
   simp only[Option.some.injEq,Prod.mk.injEq] at hs
   obtain⟨rfl,rfl,rfl⟩:=hs
   rw[he] at h1
   cases hr:a.eval x <;> rw[hr] at h1 <;> cases h1
   rename_i rs hsz hrel
   have hlt:=(Array.getElem?_eq_some_iff.1 hu).1
   have hri:rs[i]?=some (rs[i]'(by omega)):=Array.getElem?_eq_getElem _
   refine .quiet hM (rv:=rs[i]'(by omega)) ?_ (hrel i u _ hu hri)
   simp [execOp,ho,Instr.extract,hr,hri]
  ·cases hs
 ·cases hs
theorem s_cvi {src dst:TypeId} {x:Operand} {e:E} {k k0:IntKind} (ho:o.op=.convert src dst x) (hx:cE no x=some e) (hsrc:P.underlying src=some (.int k0)) (hdst:P.underlying dst=some (.int k))
 (hF:FRel no nt β tm a) (hM:MRel no β m w)
 (hs:stepO bs (.cvi k e) tm m n=some (v,m1,n1)):Runs P no β m bs n n1 w (execOp a.eval o) v m1:=by
 have h1:=E.sim hF hx
 simp only[stepO] at hs
 split at hs
 ·rename_i kd i he
  simp only[Option.some.injEq,Prod.mk.injEq] at hs
  obtain⟨rfl,rfl,rfl⟩:=hs
  rw[he] at h1
  cases hr:a.eval x <;> rw[hr] at h1 <;> cases h1
  refine .quiet hM (rv:=.int k (k.wrap i)) ?_ (.int _ _)
  simp [execOp,ho,convert,run_underlying hsrc,run_underlying hdst,hr,Conv.intToInt]
 ·cases hs
theorem s_nilc {x:Operand} {e:E} (ho:o.op=.nilCheck x) (hx:cE no x=some e) (hF:FRel no nt β tm a) (hM:MRel no β m w)
 (hs:stepO bs (.nilc e) tm m n=some (v,m1,n1)):Runs P no β m bs n n1 w (execOp a.eval o) v m1:=by
 have h1:=E.sim hF hx
 simp only[stepO] at hs
 split at hs
 ·rename_i ad he
  simp only[Option.some.injEq,Prod.mk.injEq] at hs
  obtain⟨rfl,rfl,rfl⟩:=hs
  rw[he] at h1
  obtain⟨ra,hra⟩:=ptr_of h1
  refine .quiet hM (rv:=.pointer (some ra)) ?_ (by rw[←hra];exact h1)
  simp [execOp,ho,hra]
 ·rename_i f x1 x2 he
  simp only[Option.some.injEq,Prod.mk.injEq] at hs
  obtain⟨rfl,rfl,rfl⟩:=hs
  rw[he] at h1
  obtain⟨f',ys,hf,rfl,hr,hsz,hrel⟩:=h1.inv_func
  refine .quiet hM (rv:=.func (.func f') #[] ys) ?_ (.func hf hsz hrel)
  simp [execOp,ho,hr]
 ·cases hs
theorem s_fn {f g:Nat} {first captured:Array Operand} {es:List E} (ho:o.op=.makeFunc (.func f) first captured) (h0:first.size=0) (hg:no f=some g) (hx:cEs no captured=some es) (hF:FRel no nt β tm a) (hM:MRel no β m w)
 (hs:stepO bs (.fn g es) tm m n=some (v,m1,n1)):Runs P no β m bs n n1 w (execOp a.eval o) v m1:=by
 obtain⟨hl,hrel⟩:=Es.sim hF hx
 simp only[stepO,Option.some.injEq,Prod.mk.injEq] at hs
 obtain⟨rfl,rfl,rfl⟩:=hs
 have h0':first = #[]:=Array.eq_empty_of_size_eq_zero h0
 refine .quiet hM (rv:=.func (.func f) #[] (captured.map a.eval)) ?_ (.func hg (by simp [hl]) fun i x y hx hy=>hrel i x y (by simpa using hx) ?_)
 ·simp [execOp,ho,Instr.makeFunc,h0']
 ·simpa[Array.getElem?_map] using hy
end
end Go.Proofs.YtoppcdecolponaaGreat.AL
namespace Go.Proofs.YtoppcdecolponaaGreat.AL
open Go
set_option linter.unusedVariables false
set_option linter.unusedSimpArgs false
variable {no : No} {P : Program}
section
variable {nt : Nat} {β : Inj} {tm : Tm} {a : Act} {m m1 : Mem} {w : World} {bs n n1 : Nat} {v : Value} {o : Oper}
theorem s_bin {op:BinOp} {t yt:TypeId} {x y:Operand} {ex ey:E} (ho:o.op=.binOp op t x y yt) (hx:cE no x=some ex) (hy:cE no y=some ey) (hF:FRel no nt β tm a) (hM:MRel no β m w)
 (hs:stepO bs (.bin op ex ey) tm m n=some (v,m1,n1)):Runs P no β m bs n n1 w (execOp a.eval o) v m1:=by
 have h1:=E.sim hF hx
 have h2:=E.sim hF hy
 simp only[stepO] at hs
 split at hs
 ·rename_i u hu
  simp only[Option.some.injEq,Prod.mk.injEq] at hs
  obtain⟨rfl,rfl,rfl⟩:=hs
  unfold binv at hu
  split at hu
  ·rename_i j i k i2 e1 e2
   rw[e1] at h1
   rw[e2] at h2
   cases hr1:a.eval x <;> rw[hr1] at h1 <;> cases h1
   cases hr2:a.eval y <;> rw[hr2] at h2 <;> cases h2
   refine .quiet hM (rv:=u) ?_ ?_
   ·cases op <;> simp only at hu <;> (split at hu) <;> (try split at hu) <;> (try (cases hu;done)) <;>
     (try (rename_i hjk;subst hjk)) <;> cases hu <;>
     simp [execOp,ho,hr1,hr2,eqGuard,binOp,Op.intArith,Op.intDiv,Op.intBits,Op.intCmp,Op.shift, *] <;> omega
   ·cases op <;> simp only at hu <;> (split at hu) <;> (try split at hu) <;> cases hu <;> constructor
  ·rename_i s1 s2 e1 e2
   rw[e1] at h1
   rw[e2] at h2
   cases hr1:a.eval x <;> rw[hr1] at h1 <;> cases h1
   cases hr2:a.eval y <;> rw[hr2] at h2 <;> cases h2
   refine .quiet hM (rv:=u) ?_ ?_
   ·cases op <;> simp only at hu <;> (try split at hu) <;> cases hu <;>
     (try (rename_i hsz;simp only[Int.not_lt,gt_iff_lt] at hsz;have hsz':(s1.size:Int)+(s2.size:Int)≤9223372036854775807:=by(have:IntKind.max .i64=9223372036854775807:=by decide);omega)) <;>
     simp [execOp,ho,hr1,hr2,eqGuard,binOp,Op.stringOp, *]
   ·cases op <;> simp only at hu <;> (try split at hu) <;> cases hu <;> constructor
  ·cases hu
 ·cases hs
theorem s_eqb {neg:Bool} {op:BinOp} {t yt:TypeId} {x y:Operand} {ex ey:E} (ho:o.op=.binOp op t x y yt) (hop:op=if neg then .neq else .eql) (ht:P.underlying t=some .bool) (hx:cE no x=some ex) (hy:cE no y=some ey)
 (hF:FRel no nt β tm a) (hM:MRel no β m w)
 (hs:stepO bs (.eqb neg ex ey) tm m n=some (v,m1,n1)):Runs P no β m bs n n1 w (execOp a.eval o) v m1:=by
 have h1:=E.sim hF hx
 have h2:=E.sim hF hy
 simp only[stepO] at hs
 split at hs
 ·rename_i b1 b2 e1 e2
  simp only[Option.some.injEq,Prod.mk.injEq] at hs
  obtain⟨rfl,rfl,rfl⟩:=hs
  rw[e1] at h1
  rw[e2] at h2
  cases hr1:a.eval x <;> rw[hr1] at h1 <;> cases h1
  cases hr2:a.eval y <;> rw[hr2] at h2 <;> cases h2
  subst hop
  refine .quiet hM (rv:=.bool _) ?_ (.bool _)
  have e1:(binOp .eql t (.bool b1) (.bool b2)).run P w=.ok (.bool (b1 == b2)) w:=by
   simp only[binOp,Op.equal,Op.maxDepth,Sem.run_bind,run_equalIn_bool' w 9999 t b1 b2 ht,Result.andThen_ok,Sem.run_pure]
  have e2:(binOp .neq t (.bool b1) (.bool b2)).run P w=.ok (.bool (!(b1 == b2))) w:=by
   simp only[binOp,Op.equal,Op.maxDepth,Sem.run_bind,run_equalIn_bool' w 9999 t b1 b2 ht,Result.andThen_ok,Sem.run_pure]
  cases neg
  ·simp only[Bool.false_eq_true,if_false] at ho
   simp only[execOp,ho,hr1,hr2,eqGuard,Sem.run_bind,Result.andThen_ok,Sem.run_pure,Bool.false_eq_true,if_false]
   simp [e1]
  ·simp only[if_true] at ho
   simp only[execOp,ho,hr1,hr2,eqGuard,Sem.run_bind,Result.andThen_ok,Sem.run_pure,if_true]
   simp [e2]
 ·cases hs
theorem s_eqnil {neg:Bool} {op:BinOp} {t yt e:TypeId} {x y:Operand} {ex:E} (ho:o.op=.binOp op t x y yt) (hop:op=if neg then .neq else .eql) (ht:P.underlying t=some (.slice e)) (hx:cE no x=some ex)
 (hy:nilSlice y=true) (hF:FRel no nt β tm a) (hM:MRel no β m w)
 (hs:stepO bs (.eqnil neg ex) tm m n=some (v,m1,n1)):Runs P no β m bs n n1 w (execOp a.eval o) v m1:=by
 have h1:=E.sim hF hx
 have hy':a.eval y=.slice none 0 0:=by
  unfold nilSlice at hy
  split at hy
  ·rfl
  ·cases hy
 simp only[stepO] at hs
 split at hs
 ·rename_i ad l c e1
  simp only[Option.some.injEq,Prod.mk.injEq] at hs
  obtain⟨rfl,rfl,rfl⟩:=hs
  rw[e1] at h1
  have:∃ ra l' c',a.eval x=.slice ra l' c'∧ra.isSome=ad.isSome:=by
   generalize a.eval x=rv at h1
   cases h1 with
   | snil=>exact⟨_,_,_,rfl,rfl⟩
   | slice=>exact⟨_,_,_,rfl,rfl⟩
   | empty=>exact⟨_,_,_,rfl,rfl⟩
  obtain⟨ra,l',c',hr,hsome⟩:=this
  subst hop
  refine .quiet hM (rv:=.bool _) ?_ (.bool _)
  have e0:ra.isNone=ad.isNone:=by cases ra <;> cases ad <;> first|rfl|cases hsome
  have e1:(binOp .eql t (.slice ra l' c') (.slice none 0 0)).run P w=.ok (.bool ad.isNone) w:=by
   simp only[binOp,Sem.run_bind,run_equal_slice_nil w t e ra l' c' ht,Result.andThen_ok,Sem.run_pure,e0]
  have e2:(binOp .neq t (.slice ra l' c') (.slice none 0 0)).run P w=.ok (.bool ad.isSome) w:=by
   simp only[binOp,Sem.run_bind,run_equal_slice_nil w t e ra l' c' ht,Result.andThen_ok,Sem.run_pure,e0]
   cases ad <;> rfl
  cases neg
  ·simp only[Bool.false_eq_true,if_false] at ho
   simp only[execOp,ho,hr,hy',eqGuard,Sem.run_bind,Result.andThen_ok,Sem.run_pure,Bool.false_eq_true,if_false]
   simp [e1]
  ·simp only[if_true] at ho
   simp only[execOp,ho,hr,hy',eqGuard,Sem.run_bind,Result.andThen_ok,Sem.run_pure,if_true]
   simp [e2]
 ·cases hs
theorem eqv_run {k:BK} {t:TypeId} {x y:Value} {b:Bool} (hk:basicK P t=some k) (h:eqv k x y=some b) (d:Nat):(Op.equalIn (d+1) t x y).run P w=.ok b w:=by
 unfold basicK at hk
 split at hk <;> cases hk
 ·rename_i ht
  cases x <;> cases y <;> simp only[eqv] at h <;> cases h
  exact run_equalIn_bool' w d t _ _ ht
 ·rename_i k0 ht
  cases x <;> cases y <;> simp only[eqv] at h <;> try cases h
  split at h
  ·rename_i e;subst e;cases h;exact run_equalIn_int w d t _ k0 _ _ ht
  ·cases h
 ·rename_i ht
  cases x <;> cases y <;> simp only[eqv] at h <;> cases h
  exact run_equalIn_string w d t _ _ ht
theorem basic_size {k:BK} {t:TypeId} (hk:basicK P t=some k):(Go.isAgg t).run P w=.ok false w:=by
 unfold basicK at hk
 split at hk <;> cases hk <;> rename_i ht <;> simp [Go.isAgg,run_underlying ht]
theorem eqvs_run {xs ys : Array Value} (d : Nat) : ∀ (fs : List Field) (ks : List BK) (i : Nat) (b : Bool), (∀ j f, fs[j]? = some f → f.offset = i + j ∧ (f.name == "_") = false) →
 fs.mapM (fun f=>basicK P f.type)=some ks→eqvs ks (xs.toList.drop i) (ys.toList.drop i)=some b→(Op.eqFields (d+1) xs ys fs).run P w=.ok b w
 | [],ks,i,b,_,hk,h=>by
   simp at hk;subst hk
   generalize xs.toList.drop i=l1 at h
   generalize ys.toList.drop i=l2 at h
   cases l1 <;> cases l2 <;> simp [eqvs] at h
   subst h
   simp [Op.eqFields]
 | f::fs,ks,i,b,hf,hk,h=>by
   simp only[List.mapM_cons,Option.bind_eq_bind,Option.bind_eq_some_iff,Option.pure_def,Option.some.injEq] at hk
   obtain⟨k,hk1,ks',hk2,rfl⟩:=hk
   obtain⟨ho,hn⟩:=hf 0 f rfl
   have hn' : f.name ≠ "_" := by simpa using hn
   cases hx:xs.toList.drop i with
   | nil=>rw[hx] at h;simp [eqvs] at h
   | cons x l =>
     cases hy:ys.toList.drop i with
     | nil=>rw[hx,hy] at h;simp [eqvs] at h
     | cons y r =>
       rw[hx,hy] at h
       simp only[eqvs] at h
       split at h
       ·rename_i b1 b2 h1 h2
        cases h
        have hxi:xs[i]?=some x:=by
         have:(xs.toList.drop i)[0]?=some x:=by rw[hx];rfl
         simpa using this
        have hyi:ys[i]?=some y:=by
         have:(ys.toList.drop i)[0]?=some y:=by rw[hy];rfl
         simpa using this
        have el:xs.toList.drop (i+1)=l:=by rw[←List.drop_drop,hx];rfl
        have er:ys.toList.drop (i+1)=r:=by rw[←List.drop_drop,hy];rfl
        have ih:=eqvs_run (xs:=xs) (ys:=ys) d fs ks' (i+1) b2 (fun j g hg=>by have:=hf (j+1) g hg;exact⟨by omega,this.2⟩) hk2 (by rw[el,er];exact h2)
        have px:(part f.type xs f.offset).run P w=.ok x w:=by simp [part,basic_size hk1,ho,hxi]
        have py:(part f.type ys f.offset).run P w=.ok y w:=by simp [part,basic_size hk1,ho,hyi]
        rw[Op.eqFields]
        simp only[if_pos hn',Sem.run_bind,px,py,eqv_run hk1 h1 d,Result.andThen_ok]
        cases b1
        ·simp
        ·simpa using ih
       ·cases h
theorem agg_of {β:Inj} {xs:Array Value} {r:Value} (h:VRel no β (.agg xs) r):∃ ys,r=.agg ys∧xs.size=ys.size∧∀ (i:Nat) x y,xs[i]?=some x→ys[i]?=some y→VRel no β x y:=by
 cases h with
 | agg hs h=>exact⟨_,rfl,hs,h⟩
theorem eqv_rel {β:Inj} {k:BK} {x y x' y':Value} {b:Bool} (h:eqv k x y=some b) (hx:VRel no β x x') (hy:VRel no β y y'):eqv k x' y'=some b:=by
 cases k <;> cases x <;> cases y <;> simp only[eqv] at h <;> (try cases h;done) <;> cases hx <;> cases hy <;> exact h
theorem eqvs_rel {β:Inj}:∀ {ks:List BK} {l r l' r':List Value} {b:Bool},eqvs ks l r=some b→l.length=l'.length→r.length=r'.length →
 (∀ (i:Nat) x y,l[i]?=some x→l'[i]?=some y→VRel no β x y)→(∀ (i:Nat) x y,r[i]?=some x→r'[i]?=some y→VRel no β x y)→eqvs ks l' r'=some b
 | [],[],[],l',r',b,h,h1,h2,_,_=>by
   cases l' with
   | nil =>
     cases r' with
     | nil=>exact h
     | cons=>simp at h2
   | cons=>simp at h1
 | k::ks,x::l,y::r,l',r',b,h,h1,h2,h3,h4=>by
   cases l' with
   | nil=>cases h1
   | cons x' l' =>
     cases r' with
     | nil=>cases h2
     | cons y' r' =>
       simp only[eqvs] at h ⊢
       split at h
       ·rename_i b1 b2 e1 e2
        cases h
        rw[eqv_rel e1 (h3 0 x x' rfl rfl) (h4 0 y y' rfl rfl),eqvs_rel e2 (by simpa using h1) (by simpa using h2) (fun i u v hu hv=>h3 (i+1) u v hu hv) (fun i u v hu hv=>h4 (i+1) u v hu hv)]
       ·cases h
 | [],_::_,_,_,_,_,h,_,_,_,_=>by simp [eqvs] at h
 | [],[],_::_,_,_,_,h,_,_,_,_=>by simp [eqvs] at h
 | _::_,[],_,_,_,_,h,_,_,_,_=>by simp [eqvs] at h
 | _::_,_::_,[],_,_,_,h,_,_,_,_=>by simp [eqvs] at h
theorem s_eqs {neg:Bool} {op:BinOp} {t yt:TypeId} {x y:Operand} {ex ey:E} {ks:List BK} (ho:o.op=.binOp op t x y yt) (hop:op=if neg then .neq else .eql) (ht:plainStruct P t=some ks) (hx:cE no x=some ex) (hy:cE no y=some ey)
 (hF:FRel no nt β tm a) (hM:MRel no β m w)
 (hs:stepO bs (.eqs neg ks ex ey) tm m n=some (v,m1,n1)):Runs P no β m bs n n1 w (execOp a.eval o) v m1:=by
 have h1:=E.sim hF hx
 have h2:=E.sim hF hy
 simp only[stepO] at hs
 split at hs
 ·rename_i xs ys e1 e2
  split at hs
  ·rename_i b hb
   simp only[Option.some.injEq,Prod.mk.injEq] at hs
   obtain⟨rfl,rfl,rfl⟩:=hs
   rw[e1] at h1
   rw[e2] at h2
   obtain⟨rx,hr1,hs1,hc1⟩:=agg_of h1
   obtain⟨ry,hr2,hs2,hc2⟩:=agg_of h2
   unfold plainStruct at ht
   split at ht
   ·rename_i fs hfs
    split at ht
    ·rename_i hcond
     simp only[Bool.and_eq_true,Bool.not_eq_true'] at hcond
     obtain⟨⟨hall,hstood⟩,hguard⟩:=hcond
     have hb':=eqvs_rel (l':=rx.toList) (r':=ry.toList) hb (by rw[Array.length_toList,Array.length_toList];exact hs1) (by rw[Array.length_toList,Array.length_toList];exact hs2) (fun i u v hu hv=>hc1 i u v (by simpa using hu) (by simpa using hv)) (fun i u v hu hv=>hc2 i u v (by simpa using hu) (by simpa using hv))
     have hfe:P.fieldsOf t=fs:=by simp [Program.fieldsOf,hfs]
     have hrun:(Op.equalIn 10000 t (.agg rx) (.agg ry)).run P w=.ok b w:=by
      rw[run_equalIn_struct (P:=P) w 9999 t rx ry (by rw[hfe];exact hfs) hstood,hfe]
      refine eqvs_run (w:=w) 9998 fs.toList ks 0 b (fun j f hf=>?_) ht (by simpa using hb')
      have hm:(f,j)∈fs.toList.zipIdx:=by
       rw[List.mem_zipIdx_iff_getElem?];exact hf
      have:=List.all_eq_true.1 hall _ hm
      simp only[Bool.and_eq_true,beq_iff_eq,bne_iff_ne] at this
      exact⟨by omega,by simpa using this.2⟩
     subst hop
     refine .quiet hM (rv:=.bool _) ?_ (.bool _)
     have hg:(eqGuard (if neg then .neq else .eql) t x y (.agg rx) (.agg ry)).run P w=.ok () w:=by
      cases neg <;> simp [eqGuard,hguard]
     cases neg
     ·simp only[Bool.false_eq_true,if_false] at ho hg
      simp only[execOp,ho,hr1,hr2,Sem.run_bind,hg,Result.andThen_ok,run_eql_struct,hrun,Bool.false_eq_true,if_false]
      simp
     ·simp only[if_true] at ho hg
      simp only[execOp,ho,hr1,hr2,Sem.run_bind,hg,Result.andThen_ok,run_neq_struct,hrun,if_true]
      simp
    ·cases ht
   ·cases ht
  ·cases hs
 ·cases hs
end
end Go.Proofs.YtoppcdecolponaaGreat.AL
