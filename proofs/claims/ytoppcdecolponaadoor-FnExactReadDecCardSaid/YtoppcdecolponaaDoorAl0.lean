/- A small language of plain Go code over rows of cells, its runs, and rules to show what a run comes to. -/
import GoSem.Core.Sem
import GoSem.Op.String
import Derived.Lib.AtoiAll
import Derived.Lib.ItoaNum
import Derived.Lib.Bytealg
import Derived.Lib.Join
namespace Go.Proofs.YtoppcdecolponaaDoor.AL
open Go
set_option linter.unusedVariables false
structure Blk where
 cells : List Value
 own : Bool
 sz : Nat
abbrev Mem := Nat → Option Blk
abbrev Tm := Nat → Value
def junk : Value := .nilIface
def nov : Value := .tuple #[]
def upd {α : Type} (f : Nat → α) (i : Nat) (x : α) : Nat → α := fun j => if j = i then x else f j
inductive E where
 | t (i : Nat)
 | k (v : Value)
def E.ev (tm : Tm) : E → Value
 | .t i => tm i
 | .k v => v
inductive BK where
 | b | i | s
inductive O where
 | mv (x : E)
 | pick (c a b : E)
 | new (z : List Value)
 | box (x : E)
 | ld (x : E)
 | ldn (n : Nat) (x : E)
 | st (x v : E)
 | stn (n : Nat) (x v : E)
 | fa (off : Nat) (x : E)
 | ia (sz : Nat) (x i : E)
 | bin (op : BinOp) (x y : E)
 | eqb (neg : Bool) (x y : E)
 | eqs (neg : Bool) (ks : List BK) (x y : E)
 | eqnil (neg : Bool) (x : E)
 | not (x : E)
 | neg (x : E)
 | len (x : E)
 | lens (x : E)
 | cap (x : E)
 | mk (sz bytes : Nat) (z : List Value) (l c : E)
 | bs (sz n : Nat) (z : List Value) (parts : List (Nat × E))
 | bd (z : List Value) (parts : List (Nat × Nat × E))
 | fld (off : Nat) (n : Option Nat) (x : E)
 | ext (i : Nat) (x : E)
 | fn (f : Nat) (cap : List E)
 | call (f : Nat) (args : List E)
 | calli (f : E) (args : List E)
 | app (sz bytes : Nat) (s x : E)
 | sl (sz : Nat) (x : E) (lo hi mx : Option E)
 | sls (x : E) (lo hi : Option E)
 | ix (x i : E)
 | cvi (k : IntKind) (x : E)
 | cvsb (x : E)
 | cvbs (x : E)
 | nilc (x : E)
 | mn (xs : List E)
 | mx (xs : List E)
 | clr (sz : Nat) (z : List Value) (x : E)
 | cpy (sz : Nat) (d s : E)
structure IOp where
 d : Option Nat
 o : O
 g : Option (Nat × Bool)
 q : Bool
abbrev p (d : Nat) (o : O) : IOp := ⟨some d, o, none, false⟩
inductive C where
 | skip
 | rg (l : List IOp)
 | seq (a b : C)
 | cond (c : E) (a b : C)
 | block (i : Nat) (c : C)
 | loop (c : C)
 | exit (i : Nat)
 | ret
inductive RV where
 | tmp (t : Nat)
 | cell (t : Nat)
 | celln (t n : Nat)
structure Fnc where
 body : C
 res : List RV
abbrev Prg := Nat → Option Fnc
inductive Ex where
 | normal
 | exit (i : Nat)
 | ret
 deriving DecidableEq
def Ex.out (i : Nat) : Ex → Ex
 | .exit j => if j = i then .normal else .exit j
 | e => e
def rd (m : Mem) (a : Addr) : Option Value :=
 if a.spot.isSome then none else match m a.block with
 | some b => b.cells[a.off]?
 | none => none
def rdn (m : Mem) (a : Addr) (n : Nat) : Option (List Value) :=
 if a.spot.isSome then none else match m a.block with
 | some b => if a.off + n ≤ b.cells.length then some ((b.cells.drop a.off).take n) else none
 | none => none
def wrn (bs : Nat) (m : Mem) (a : Addr) (vs : List Value) : Option Mem :=
 if a.spot.isSome then none else match m a.block with
 | some b => if bs ≤ a.block ∧ b.own = true ∧ a.off + vs.length ≤ b.cells.length then
    some (upd m a.block (some ⟨b.cells.take a.off ++ vs ++ b.cells.drop (a.off + vs.length), true, b.sz⟩)) else none
 | none => none
def wr (bs : Nat) (m : Mem) (a : Addr) (v : Value) : Option Mem :=
 if a.spot.isSome then none else match m a.block with
 | some b => if bs ≤ a.block ∧ b.own = true ∧ a.off < b.cells.length then
    some (upd m a.block (some ⟨b.cells.set a.off v, true, b.sz⟩)) else none
 | none => none
def adr (a : Option Addr) : Addr := a.getD ⟨0, 0, none⟩
def okA (a : Option Addr) : Prop := a.isSome = true ∧ (adr a).spot = none
def sub (m m1 : Mem) : Prop := ∀ b x, m b = some x → m1 b = some x
def ptr (b o : Nat) : Value := .pointer (some ⟨b, o, none⟩)
def slc (b o l c : Nat) : Value := .slice (some ⟨b, o, none⟩) l c
def flatW : Value → Bool
 | .bool _ | .int _ _ | .string _ | .pointer none | .slice none _ _ => true
 | _ => false
def flatA : Value → Bool
 | .agg ds => ds.toList.all flatW
 | v => flatW v
def flat : Value → Bool
 | .nilFunc => true
 | .func _ a b => a.size == 0 && b.size == 0
 | .tuple cs => cs.toList.all flatA
 | v => flatA v
def wideV : Value → Bool
 | .agg _ | .tuple _ | .nilIface => true
 | _ => false
def isJunk : Value → Bool
 | .nilIface => true
 | _ => false
def eqv : BK → Value → Value → Option Bool
 | .b, .bool a, .bool b => some (a == b)
 | .i, .int j a, .int k b => if j = k then some (a == b) else none
 | .s, .string a, .string b => some (a.toList == b.toList)
 | _, _, _ => none
def eqvs : List BK → List Value → List Value → Option Bool
 | [], [], [] => some true
 | k :: ks, a :: l, b :: r => match eqv k a b, eqvs ks l r with
   | some x, some y => some (x && y)
   | _, _ => none
 | _, _, _ => none
def binv (op : BinOp) (x y : Value) : Option Value :=
 match x, y with
 | .int j a, .int k b =>
   match op with
   | .shl => if 0 ≤ b then some (.int j (j.wrap (a * 2 ^ (min b.toNat j.bits)))) else none
   | .shr => if 0 ≤ b then some (.int j (a.fdiv (2 ^ (min b.toNat j.bits)))) else none
   | _ =>
   if j = k then
    match op with
    | .add => some (.int j (j.wrap (a + b)))
    | .sub => some (.int j (j.wrap (a - b)))
    | .mul => some (.int j (j.wrap (a * b)))
    | .quo => if b = 0 then none else some (.int j (j.wrap (a.tdiv b)))
    | .rem => if b = 0 then none else some (.int j (a.tmod b))
    | .and => some (.int j (j.wrap (BitVec.ofInt j.bits a &&& BitVec.ofInt j.bits b).toNat))
    | .or => some (.int j (j.wrap (BitVec.ofInt j.bits a ||| BitVec.ofInt j.bits b).toNat))
    | .xor => some (.int j (j.wrap (BitVec.ofInt j.bits a ^^^ BitVec.ofInt j.bits b).toNat))
    | .andNot => some (.int j (j.wrap (BitVec.ofInt j.bits a &&& ~~~ BitVec.ofInt j.bits b).toNat))
    | .eql => some (.bool (a == b))
    | .neq => some (.bool (a != b))
    | .lss => some (.bool (a < b))
    | .leq => some (.bool (a ≤ b))
    | .gtr => some (.bool (a > b))
    | .geq => some (.bool (a ≥ b))
    | _ => none
   else none
 | .string a, .string b =>
   match op with
   | .add => if ((a.size + b.size : Nat) : Int) > IntKind.i64.max then none else some (.string (a ++ b))
   | .eql => some (.bool (a.toList == b.toList))
   | .neq => some (.bool !(a.toList == b.toList))
   | .lss => some (.bool (Op.bytesLess a.toList b.toList))
   | .leq => some (.bool (Op.bytesLess a.toList b.toList || a.toList == b.toList))
   | .gtr => some (.bool !(Op.bytesLess a.toList b.toList || a.toList == b.toList))
   | .geq => some (.bool !(Op.bytesLess a.toList b.toList))
   | _ => none
 | _, _ => none
def min2v : Value → Value → Option Value
 | .int j a, .int k b => if j = k then some (.int j (if b < a then b else a)) else none
 | _, _ => none
def max2v : Value → Value → Option Value
 | .int j a, .int k b => if j = k then some (.int j (if b > a then b else a)) else none
 | _, _ => none
def foldv (f : Value → Value → Option Value) : Value → List Value → Option Value
 | x, [] => some x
 | x, y :: l => match f x y with
   | some z => foldv f z l
   | none => none
def bnd (tm : Tm) (x : Option E) (dflt most : Nat) : Option Nat :=
 match x with
 | none => some dflt
 | some e => match e.ev tm with
   | .int _ i => if 0 ≤ i ∧ i ≤ most then some i.toNat else none
   | _ => none
def fill (l : List Value) : List (Nat × List Value) → List Value
 | [] => l
 | (i, vs) :: r => fill (l.take i ++ vs ++ l.drop (i + vs.length)) r
def roomy : Nat := 2 ^ 44
def bytesV : List Value → Option (List UInt8)
 | [] => some []
 | .int .u8 b :: l => if 0 ≤ b ∧ b < 256 then match bytesV l with
   | some r => some (UInt8.ofNat b.toNat :: r)
   | none => none
   else none
 | _ => none
theorem bytesV_at : ∀ {cs : List Value} {bs : List UInt8}, bytesV cs = some bs → bs.length = cs.length ∧ ∀ (j : Nat) b, bs[j]? = some b → cs[j]? = some (.int .u8 (b.toNat : Int))
 | [], bs, h => by cases h; exact ⟨rfl, fun j b h => by simp at h⟩
 | .int .u8 b :: l, bs, h => by
   simp only [bytesV] at h
   split at h
   · rename_i hb
     split at h
     · rename_i r hr
       cases h
       obtain ⟨h1, h2⟩ := bytesV_at hr
       refine ⟨by simp [h1], fun j b' hj => ?_⟩
       cases j with
       | zero =>
         simp only [List.getElem?_cons_zero, Option.some.injEq] at hj ⊢
         subst hj
         have : (UInt8.ofNat b.toNat).toNat = b.toNat := by simp; omega
         rw [this]
         congr 1; omega
       | succ j => simp only [List.getElem?_cons_succ] at hj ⊢; exact h2 j b' hj
     · cases h
   · cases h
def stepO (bs : Nat) (o : O) (tm : Tm) (m : Mem) (n : Nat) : Option (Value × Mem × Nat) :=
 match o with
 | .mv x => some (x.ev tm, m, n)
 | .pick c a b => match c.ev tm with
   | .bool t => some (if t then a.ev tm else b.ev tm, m, n)
   | _ => none
 | .new z => some (ptr n 0, upd m n (some ⟨z, true, 1⟩), n + 1)
 | .box x => if isJunk (x.ev tm) then none else some (ptr n 0, upd m n (some ⟨(x.ev tm).cells.toList, true, 1⟩), n + 1)
 | .ld x => match x.ev tm with
   | .pointer (some a) => match rd m a with
     | some v => some (v, m, n)
     | none => none
   | _ => none
 | .ldn k x => match x.ev tm with
   | .pointer (some a) => match rdn m a k with
     | some vs => some (.agg vs.toArray, m, n)
     | none => none
   | _ => none
 | .st x v => match x.ev tm with
   | .pointer (some a) => if wideV (v.ev tm) then none else match wr bs m a (v.ev tm) with
     | some m1 => some (junk, m1, n)
     | none => none
   | _ => none
 | .stn k x v => match x.ev tm, v.ev tm with
   | .pointer (some a), .agg vs => if vs.size = k ∧ vs.toList.all (fun u => !wideV u) then match wrn bs m a vs.toList with
      | some m1 => some (junk, m1, n)
      | none => none
     else none
   | _, _ => none
 | .fa off x => match x.ev tm with
   | .pointer (some a) => if a.spot.isSome then none else some (ptr a.block (a.off + off), m, n)
   | _ => none
 | .ia sz x i => match x.ev tm, i.ev tm with
   | .slice (some a) len _, .int _ j => if a.spot.isSome then none else if 0 ≤ j ∧ j < len then some (ptr a.block (a.off + j.toNat * sz), m, n) else none
   | _, _ => none
 | .bin op x y => match binv op (x.ev tm) (y.ev tm) with
   | some v => some (v, m, n)
   | none => none
 | .eqb neg x y => match x.ev tm, y.ev tm with
   | .bool a, .bool b => some (.bool (if neg then !(a == b) else a == b), m, n)
   | _, _ => none
 | .eqs neg ks x y => match x.ev tm, y.ev tm with
   | .agg xs, .agg ys => match eqvs ks xs.toList ys.toList with
     | some b => some (.bool (if neg then !b else b), m, n)
     | none => none
   | _, _ => none
 | .eqnil neg x => match x.ev tm with
   | .slice a _ _ => some (.bool (if neg then a.isSome else a.isNone), m, n)
   | _ => none
 | .not x => match x.ev tm with
   | .bool b => some (.bool !b, m, n)
   | _ => none
 | .neg x => match x.ev tm with
   | .int k i => some (.int k (k.wrap (0 - i)), m, n)
   | _ => none
 | .len x => match x.ev tm with
   | .slice _ l _ => some (.int .i64 l, m, n)
   | _ => none
 | .lens x => match x.ev tm with
   | .string s => some (.int .i64 s.size, m, n)
   | _ => none
 | .cap _ => none
 | .mk sz bytes z l c => match l.ev tm, c.ev tm with
   | .int .i64 a, .int .i64 b => if 0 ≤ a ∧ a ≤ b ∧ b.toNat * bytes ≤ roomy ∧ b ≤ roomy ∧ z.length = sz then
      some (slc n 0 a.toNat b.toNat, upd m n (some ⟨(List.replicate b.toNat z).flatten, true, sz⟩), n + 1) else none
   | _, _ => none
 | .bs sz k z parts =>
   let ps := parts.map fun p => (p.1 * sz, (p.2.ev tm).cells.toList)
   if z.length = sz ∧ parts.all (fun p => !isJunk (p.2.ev tm)) ∧ ps.all (fun p => p.2.length == sz && p.1 + p.2.length ≤ k * sz) then
    some (slc n 0 k k, upd m n (some ⟨fill (List.replicate k z).flatten ps, true, sz⟩), n + 1) else none
 | .bd z parts =>
   let ps := parts.map fun p => (p.1, (p.2.2.ev tm).cells.toList)
   if parts.all (fun p => !isJunk (p.2.2.ev tm) && (p.2.2.ev tm).cells.size == p.2.1 && p.1 + p.2.1 ≤ z.length) then
    some (.agg (fill z ps).toArray, m, n) else none
 | .fld off k x => match x.ev tm with
   | .agg cs => match k with
     | none => match cs[off]? with
       | some v => some (v, m, n)
       | none => none
     | some k => some (.agg (cs.extract off (off + k)), m, n)
   | _ => none
 | .ext i x => match x.ev tm with
   | .tuple vs => match vs[i]? with
     | some v => some (v, m, n)
     | none => none
   | _ => none
 | .fn f cap => some (.func (.func f) #[] (cap.map (·.ev tm)).toArray, m, n)
 | .call _ _ => none
 | .calli _ _ => none
 | .app sz bytes s x => match s.ev tm, x.ev tm with
   | .slice base len cap, .slice xb xl _ =>
     if (len + xl) * bytes ≤ roomy ∧ len + xl ≤ roomy ∧ len ≤ cap then
      if xl = 0 then some (.slice base len cap, m, n) else
      match xb with
      | none => none
      | some xa => match rdn m xa (xl * sz) with
        | none => none
        | some new => if new.all (fun u => !wideV u) then
           match base with
           | none => if cap = 0 then some (slc n 0 xl xl, upd m n (some ⟨new, true, sz⟩), n + 1) else none
           | some a => if a.spot.isSome then none else match m a.block with
             | none => none
             | some b => if bs ≤ a.block ∧ b.own = true ∧ b.sz = sz ∧ a.off + cap * sz = b.cells.length ∧ cap < len + xl then
                some (slc n 0 (len + xl) (len + xl), upd (upd m a.block none) n (some ⟨(b.cells.drop a.off).take (len * sz) ++ new, true, sz⟩), n + 1)
               else none
          else none
     else none
   | _, _ => none
 | .sl sz x lo hi mx => match x.ev tm with
   | .slice a len cap =>
     match bnd tm mx cap cap with
     | none => none
     | some k => match bnd tm hi len k with
       | none => none
       | some h => match bnd tm lo 0 h with
         | none => none
         | some l => if h ≤ len ∧ len ≤ cap ∧ (mx.isSome = true → hi.isSome = true) ∧ (mx.isSome = true → h = k) then
            match a with
            | none => some (.slice none (h - l) (k - l), m, n)
            | some a => if k = l ∧ mx.isNone = true then some (.slice (some ⟨0, 0, some 0⟩) 0 0, m, n) else
              if a.spot.isSome then none else match m a.block with
              | none => none
              | some b => if b.sz = sz then some (.slice (some (if k = l then a else ⟨a.block, a.off + l * sz, none⟩)) (h - l) (k - l), m, n) else none
           else none
   | _ => none
 | .sls x lo hi => match x.ev tm with
   | .string s => match bnd tm hi s.size s.size with
     | none => none
     | some h => match bnd tm lo 0 h with
       | none => none
       | some l => some (.string (s.extract l h), m, n)
   | _ => none
 | .ix x i => match x.ev tm, i.ev tm with
   | .string s, .int _ j => if 0 ≤ j then match s[j.toNat]? with
      | some b => some (.int .u8 b.toNat, m, n)
      | none => none
     else none
   | _, _ => none
 | .cvi k x => match x.ev tm with
   | .int _ i => some (.int k (k.wrap i), m, n)
   | _ => none
 | .cvsb _ => none
 | .cvbs x => match x.ev tm with
   | .slice (some a) l _ => match rdn m a l with
     | some cs => match bytesV cs with
       | some bs => some (.string ⟨bs.toArray⟩, m, n)
       | none => none
     | none => none
   | _ => none
 | .nilc x => match x.ev tm with
   | .pointer (some a) => some (.pointer (some a), m, n)
   | .func (.func f) a b => some (.func (.func f) a b, m, n)
   | _ => none
 | .mn xs => match xs.map (·.ev tm) with
   | [] => none
   | x :: l => match foldv min2v x l with
     | some v => some (v, m, n)
     | none => none
 | .mx xs => match xs.map (·.ev tm) with
   | [] => none
   | x :: l => match foldv max2v x l with
     | some v => some (v, m, n)
     | none => none
 | .clr sz z x => match x.ev tm with
   | .slice a len _ => if len = 0 then some (junk, m, n) else match a with
     | some ad => if z.length = sz then match wrn bs m ad (List.replicate len z).flatten with
        | some m1 => some (junk, m1, n)
        | none => none
       else none
     | none => none
   | _ => none
 | .cpy _ _ _ => none
def stepA (bs : Nat) (o : O) (tm : Tm) (m : Mem) (n : Nat) : Option (Value × Mem × Nat) :=
 match o with
 | .sl sz x lo hi none => match x.ev tm with
   | .slice (some a) len cap => match bnd tm hi len cap with
     | none => none
     | some h => match bnd tm lo 0 h with
       | none => none
       | some l => if h ≤ len ∧ len ≤ cap ∧ l ≤ h ∧ a.spot.isSome = false then match m a.block with
         | none => none
         | some b => if bs ≤ a.block ∧ b.own = true ∧ b.sz = sz ∧ a.off + h * sz ≤ b.cells.length then
            some (slc n 0 (h - l) (h - l), upd (upd m a.block none) n (some ⟨(b.cells.drop (a.off + l * sz)).take ((h - l) * sz), true, sz⟩), n + 1)
           else none
         else none
   | _ => none
 | _ => none
def O.callee (tm : Tm) : O → Option (Nat × List Value)
 | .call f args => some (f, args.map (·.ev tm))
 | .calli f args => match f.ev tm with
   | .func (.func g) first captured => some (g, first.toList ++ args.map (·.ev tm) ++ captured.toList)
   | _ => none
 | _ => none
def put (tm : Tm) (d : Option Nat) (v : Value) : Tm :=
 match d with
 | some d => upd tm d v
 | none => tm
theorem stepA_inv {bs : Nat} {o : O} {tm : Tm} {m : Mem} {n : Nat} {v : Value} {m1 : Mem} {n1 : Nat} (hs : stepA bs o tm m n = some (v, m1, n1)) :
 ∃ sz x lo hi a len cap h l b, o = .sl sz x lo hi none ∧ x.ev tm = .slice (some a) len cap ∧ bnd tm hi len cap = some h ∧ bnd tm lo 0 h = some l ∧ h ≤ len ∧ len ≤ cap ∧ l ≤ h ∧ a.spot = none ∧ m a.block = some b ∧ bs ≤ a.block ∧ b.own = true ∧ b.sz = sz ∧
   a.off + h * sz ≤ b.cells.length ∧ v = slc n 0 (h - l) (h - l) ∧ m1 = upd (upd m a.block none) n (some ⟨(b.cells.drop (a.off + l * sz)).take ((h - l) * sz), true, sz⟩) ∧ n1 = n + 1 := by
 unfold stepA at hs
 split at hs
 · rename_i sz x lo hi
   split at hs
   · rename_i a len cap he
     split at hs
     · cases hs
     · rename_i h hh
       split at hs
       · cases hs
       · rename_i l hl
         split at hs
         · rename_i hc
           split at hs
           · cases hs
           · rename_i b hb
             split at hs
             · rename_i hc2
               cases hs
               exact ⟨sz, x, lo, hi, a, len, cap, h, l, b, rfl, he, hh, hl, hc.1, hc.2.1, hc.2.2.1, by simpa using hc.2.2.2, hb, hc2.1, hc2.2.1, hc2.2.2.1, hc2.2.2.2, rfl, rfl, rfl⟩
             · cases hs
         · cases hs
   · cases hs
 · cases hs
def retv1 (tm : Tm) (m : Mem) : RV → Option Value
 | .tmp t => some (tm t)
 | .cell t => match tm t with
   | .pointer (some a) => rd m a
   | _ => none
 | .celln t n => match tm t with
   | .pointer (some a) => match rdn m a n with
     | some vs => some (.agg vs.toArray)
     | none => none
   | _ => none
def retvs (tm : Tm) (m : Mem) : List RV → Option (List Value)
 | [] => some []
 | r :: l => match retv1 tm m r, retvs tm m l with
   | some v, some vs => some (v :: vs)
   | _, _ => none
def retv (res : List RV) (tm : Tm) (m : Mem) : Option Value :=
 match retvs tm m res with
 | some [v] => some v
 | some vs => some (.tuple vs.toArray)
 | none => none
def tm0 (args : List Value) : Tm := fun i => args.getD i junk
def dstsO (l : List IOp) : List Nat := l.filterMap (·.d)
def C.dsts : C → List Nat
 | .rg l => dstsO l
 | .seq a b => a.dsts ++ b.dsts
 | .cond _ a b => a.dsts ++ b.dsts
 | .block _ c => c.dsts
 | .loop c => c.dsts
 | _ => []
abbrev Xs := List (Nat × Bool)
inductive Task where
 | code (c : C) (tm : Tm)
 | ops (l : List IOp) (tm : Tm)
 | opsH (h : Mem) (X : Xs) (l : List IOp) (tm : Tm)
 | call (f : Nat) (args : List Value)
inductive Res where
 | exit (e : Ex) (tm : Tm)
 | ret (v : Value)
def Fresh (m : Mem) (n : Nat) : Prop := ∀ b, n ≤ b → m b = none
def mrg (h m : Mem) : Mem := fun b => match h b with
 | some x => some x
 | none => m b
def O.at (o : O) (tm : Tm) : Option (Nat × Addr) := match o with
 | .st (.t s) _ | .stn _ (.t s) _ => match tm s with
   | .pointer (some a) => some (s, a)
   | _ => none
 | _ => none
def offG (o : IOp) (tm : Tm) : Prop := ∃ g b, o.g = some (g, b) ∧ ((∃ c, tm g = .bool c ∧ c ≠ b) ∨ ∃ vs, tm g = .tuple vs)
def onG (o : IOp) (tm : Tm) : Prop := ∀ g b, o.g = some (g, b) → tm g = .bool b
def E.slots : E → List Nat
 | .t i => [i]
 | .k _ => []
def oslots (e : Option E) : List Nat := match e with | some e => e.slots | none => []
def O.slots : O → List Nat
 | .mv x | .box x | .ld x | .ldn _ x | .fa _ x | .eqnil _ x | .not x | .neg x | .len x | .lens x | .cap x | .fld _ _ x | .ext _ x | .cvi _ x | .cvsb x | .cvbs x | .nilc x | .clr _ _ x => x.slots
 | .pick c a b => c.slots ++ a.slots ++ b.slots
 | .new _ => []
 | .st x v | .stn _ x v | .ia _ x v | .bin _ x v | .eqb _ x v | .eqs _ _ x v | .app _ _ x v | .ix x v | .cpy _ x v => x.slots ++ v.slots
 | .mk _ _ _ l c => l.slots ++ c.slots
 | .bs _ _ _ ps => ps.flatMap fun p => p.2.slots
 | .bd _ ps => ps.flatMap fun p => p.2.2.slots
 | .fn _ es | .call _ es | .mn es | .mx es => es.flatMap E.slots
 | .calli f es => f.slots ++ es.flatMap E.slots
 | .sl _ x a b c => x.slots ++ oslots a ++ oslots b ++ oslots c
 | .sls x a b => x.slots ++ oslots a ++ oslots b
def Leads (o : O) (tm : Tm) (b : Nat) : Prop := ∃ s a, s ∈ o.slots ∧ a.block = b ∧ a.spot = none ∧ (tm s = .pointer (some a) ∨ ∃ l c, tm s = .slice (some a) l c)
def O.isCall : O → Bool
 | .call _ _ | .calli _ _ => true
 | _ => false
def XOk (o : O) (X : Xs) (b : Nat) : Prop := (b, false) ∉ X ∧ (o.isCall = false → (b, true) ∉ X)
def XAdd (o : O) (T : List Nat) (X : Xs) : Xs := T.map (fun b => (b, o.isCall)) ++ X
def XIn (X : Xs) (b : Nat) : Prop := ∃ c, (b, c) ∈ X
theorem XAdd.mem {o : O} {T : List Nat} {X : Xs} {b : Nat} {c : Bool} : (b, c) ∈ XAdd o T X ↔ (b ∈ T ∧ c = o.isCall) ∨ (b, c) ∈ X := by
 unfold XAdd
 simp only [List.mem_append, List.mem_map, Prod.mk.injEq]
 constructor
 · rintro (⟨x, h1, rfl, rfl⟩ | h)
   · exact .inl ⟨h1, rfl⟩
   · exact .inr h
 · rintro (⟨h1, rfl⟩ | h)
   · exact .inl ⟨b, h1, rfl, rfl⟩
   · exact .inr h
theorem XAdd.xin {o : O} {T : List Nat} {X : Xs} {b : Nat} : XIn (XAdd o T X) b ↔ b ∈ T ∨ XIn X b := by
 unfold XIn
 constructor
 · rintro ⟨c, h⟩
   rcases XAdd.mem.1 h with ⟨h1, _⟩ | h
   · exact .inl h1
   · exact .inr ⟨c, h⟩
 · rintro (h | ⟨c, h⟩)
   · exact ⟨_, XAdd.mem.2 (.inl ⟨h, rfl⟩)⟩
   · exact ⟨c, XAdd.mem.2 (.inr h)⟩
structure HvR (o : O) (tm : Tm) (n : Nat) (h : Mem) (X : Xs) (T : List Nat) (m mh mh' h2 m2 : Mem) : Prop where
 sub : ∀ b x, mh b = some x → (b ∈ T ∧ h b = some x) ∨ m b = some x
 tgt : ∀ b, b ∈ T → XOk o X b ∧ m b = none ∧ (∃ x, h b = some x ∧ mh b = some x) ∧ Leads o tm b
 keep : ∀ b x, mh b = some x → b ∉ T → mh' b = some x
 stay : ∀ b x, h b = some x → b ∉ T → h2 b = some x
 outH : ∀ b x, h2 b = some x → (b < n ∧ b ∉ T ∧ h b = some x) ∨ ((b ∈ T ∨ n ≤ b) ∧ mh' b = some x)
 outM : ∀ b x, m2 b = some x → (b < n ∧ m b = some x) ∨ (n ≤ b ∧ mh' b = some x)
 dis : ∀ b x, h2 b = some x → m2 b = none
def numN (l : List UInt8) (d : Int) : Int × Bool := match Lib.atoiAll l with
 | .ok v => if Lib.itoa v = l ∧ (((match l with
   | 45 :: r => r
   | _ => l).length : Nat) : Int) ≤ d then (v, true) else (0, false)
 | _ => (0, false)
def natS (f : Nat) (s : ByteArray) (y : Value) : Option Value := match y with
 | .int .i64 d => if f = 408 ∧ s.size ≤ 140737488355328 then some (.tuple #[.int .i64 (numN s.data.toList d).1, .bool (numN s.data.toList d).2]) else none
 | .int .u8 c => if f = 273 then some (.int .i64 (Lib.indexByte s.data.toList c.toNat.toUInt8)) else none
 | .string p => match p.data.toList with
   | [c] => if f = 473 then some (.int .i64 (Lib.indexByte s.data.toList c)) else if f = 472 then some (.int .i64 (Lib.countByte s.data.toList c)) else none
   | _ => none
 | _ => none
def nat (f : Nat) (args : List Value) : Option Value := match args with
 | [.string s, y] => natS f s y
 | [.int .i64 n] => if f = 272 ∧ -9223372036854775808 ≤ n ∧ n ≤ 9223372036854775807 then some (.string ⟨(Lib.itoa n).toArray⟩) else none
 | _ => none
theorem natS_inv {f : Nat} {s : ByteArray} {y v : Value} (h : natS f s y = some v) : flat v = true ∧ (∀ g a b, v ≠ .func g a b) ∧ ((∃ s, y = .string s) ∨ ∃ k n, y = .int k n) := by
 unfold natS at h
 split at h
 · split at h
   · cases h; exact ⟨rfl, nofun, .inr ⟨_, _, rfl⟩⟩
   · cases h
 · split at h
   · cases h; exact ⟨rfl, nofun, .inr ⟨_, _, rfl⟩⟩
   · cases h
 · split at h
   · split at h
     · cases h; exact ⟨rfl, nofun, .inl ⟨_, rfl⟩⟩
     · split at h
       · cases h; exact ⟨rfl, nofun, .inl ⟨_, rfl⟩⟩
       · cases h
   · cases h
 · cases h
theorem nat_inv {f : Nat} {args : List Value} {v : Value} (h : nat f args = some v) : flat v = true ∧ (∀ g a b, v ≠ .func g a b) ∧ ∀ x, x ∈ args → (∃ s, x = .string s) ∨ ∃ k n, x = .int k n := by
 unfold nat at h
 split at h
 · obtain ⟨h1, h2, h3⟩ := natS_inv h
   refine ⟨h1, h2, fun x hx => ?_⟩
   simp only [List.mem_cons, List.not_mem_nil, or_false] at hx
   rcases hx with rfl | rfl
   · exact .inl ⟨_, rfl⟩
   · exact h3
 · split at h
   · cases h
     refine ⟨rfl, nofun, fun x hx => ?_⟩
     simp only [List.mem_cons, List.not_mem_nil, or_false] at hx
     subst hx; exact .inr ⟨_, _, rfl⟩
   · cases h
 · cases h
theorem nat_flat {f : Nat} {args : List Value} {v : Value} (h : nat f args = some v) : flat v = true := (nat_inv h).1
theorem nat_args {f : Nat} {args : List Value} {v : Value} (h : nat f args = some v) : ∀ x, x ∈ args → (∃ s, x = .string s) ∨ ∃ k n, x = .int k n := (nat_inv h).2.2
theorem nat_nofunc {f : Nat} {args : List Value} {v : Value} (h : nat f args = some v) : ∀ g a b, v ≠ .func g a b := (nat_inv h).2.1
def strsV : List Value → Option (List ByteArray)
 | [] => some []
 | .string s :: l => match strsV l with
   | some r => some (s :: r)
   | none => none
 | _ => none
theorem strsV_at : ∀ {cs : List Value} {xs : List ByteArray}, strsV cs = some xs → xs.length = cs.length ∧ ∀ (j : Nat) x, xs[j]? = some x → cs[j]? = some (.string x)
 | [], xs, h => by cases h; exact ⟨rfl, fun j b h => by simp at h⟩
 | .string s :: l, xs, h => by
   simp only [strsV] at h
   split at h
   · rename_i r hr
     cases h
     obtain ⟨h1, h2⟩ := strsV_at hr
     refine ⟨by simp [h1], fun j x hj => ?_⟩
     cases j with
     | zero => simp only [List.getElem?_cons_zero, Option.some.injEq] at hj ⊢; rw [hj]
     | succ j => simp only [List.getElem?_cons_succ] at hj ⊢; exact h2 j x hj
   · cases h
def joinB (xs : List ByteArray) (sep : ByteArray) : List UInt8 := Lib.join (xs.map (·.data.toList)) sep.data.toList
def natJ (f : Nat) (args : List Value) (m : Mem) : Option Value := match args with
 | [.slice (some a) l c, .string s] => match rdn m a l with
   | some vs => match strsV vs with
     | some xs => if f = 407 ∧ xs.length ≤ 140737488355328 ∧ (joinB xs s).length ≤ 140737488355328 ∧ l ≤ c then some (.string ⟨(joinB xs s).toArray⟩) else none
     | none => none
   | none => none
 | _ => none
theorem natJ_inv {f : Nat} {args : List Value} {m : Mem} {v : Value} (h : natJ f args m = some v) : f = 407 ∧ ∃ a l c s vs xs, args = [.slice (some a) l c, .string s] ∧ rdn m a l = some vs ∧ strsV vs = some xs ∧
 xs.length ≤ 140737488355328 ∧ (joinB xs s).length ≤ 140737488355328 ∧ l ≤ c ∧ v = .string ⟨(joinB xs s).toArray⟩ := by
 unfold natJ at h
 split at h
 · split at h
   · split at h
     · split at h
       · rename_i hk
         cases h
         exact ⟨hk.1, _, _, _, _, _, _, rfl, by assumption, by assumption, hk.2.1, hk.2.2.1, hk.2.2.2, rfl⟩
       · cases h
     · cases h
   · cases h
 · cases h
inductive Big (G : Prg) : Nat → Task → Mem → Nat → Res → Mem → Nat → Prop
 | skip {bs tm m n} : Big G bs (.code .skip tm) m n (.exit .normal tm) m n
 | ret {bs tm m n} : Big G bs (.code .ret tm) m n (.exit .ret tm) m n
 | exit {bs tm m n i} : Big G bs (.code (.exit i) tm) m n (.exit (.exit i) tm) m n
 | seqN {bs a b tm m n tm1 m1 n1 r m2 n2} : Big G bs (.code a tm) m n (.exit .normal tm1) m1 n1 → Big G bs (.code b tm1) m1 n1 r m2 n2 →
    Big G bs (.code (.seq a b) tm) m n r m2 n2
 | seqE {bs a b tm m n e tm1 m1 n1} : Big G bs (.code a tm) m n (.exit e tm1) m1 n1 → e ≠ .normal →
    Big G bs (.code (.seq a b) tm) m n (.exit e tm1) m1 n1
 | cond {bs c a b tm m n t r m1 n1} : c.ev tm = .bool t → Big G bs (.code (if t = true then a else b) tm) m n r m1 n1 →
    Big G bs (.code (.cond c a b) tm) m n r m1 n1
 | block {bs i c tm m n e tm1 m1 n1} : Big G bs (.code c tm) m n (.exit e tm1) m1 n1 →
    Big G bs (.code (.block i c) tm) m n (.exit (e.out i) tm1) m1 n1
 | loopN {bs c tm m n tm1 m1 n1 r m2 n2} : Big G bs (.code c tm) m n (.exit .normal tm1) m1 n1 → Big G bs (.code (.loop c) tm1) m1 n1 r m2 n2 →
    Big G bs (.code (.loop c) tm) m n r m2 n2
 | loopE {bs c tm m n e tm1 m1 n1} : Big G bs (.code c tm) m n (.exit e tm1) m1 n1 → e ≠ .normal →
    Big G bs (.code (.loop c) tm) m n (.exit e tm1) m1 n1
 | rg {bs l tm m n tm1 m1 n1} : Big G bs (.ops l tm) m n (.exit .normal tm1) m1 n1 →
    Big G bs (.code (.rg l) tm) m n (.exit .normal tm1) m1 n1
 | opsNil {bs tm m n} : Big G bs (.ops [] tm) m n (.exit .normal tm) m n
 | opsSkip {bs o l tm m n g b c r m1 n1} : o.g = some (g, b) → tm g = .bool c → c ≠ b → Big G bs (.ops l (put tm o.d nov)) m n r m1 n1 →
    Big G bs (.ops (o :: l) tm) m n r m1 n1
 | opsNone {bs o l tm m n g b vs r m1 n1} : o.g = some (g, b) → tm g = .tuple vs → Big G bs (.ops l (put tm o.d nov)) m n r m1 n1 →
    Big G bs (.ops (o :: l) tm) m n r m1 n1
 | opsPure {bs o l tm m n v m1 n1 r m2 n2} : (∀ g b, o.g = some (g, b) → tm g = .bool b) → stepO (if o.q then n else bs) o.o tm m n = some (v, m1, n1) →
    Big G bs (.ops l (put tm o.d v)) m1 n1 r m2 n2 → Big G bs (.ops (o :: l) tm) m n r m2 n2
 | opsAlt {bs o l tm m n v m1 n1 r m2 n2} : onG o tm → o.q = false → stepA bs o.o tm m n = some (v, m1, n1) →
    Big G bs (.ops l (put tm o.d v)) m1 n1 r m2 n2 → Big G bs (.ops (o :: l) tm) m n r m2 n2
 | opsCall {bs o l tm m n f args v m1 n1 r m2 n2} : (∀ g b, o.g = some (g, b) → tm g = .bool b) → o.o.callee tm = some (f, args) →
    Big G (if o.q then n else bs) (.call f args) m n (.ret v) m1 n1 →
    Big G bs (.ops l (put tm o.d v)) m1 n1 r m2 n2 → Big G bs (.ops (o :: l) tm) m n r m2 n2
 | rgH {bs h l tm m n tm1 m1 n1} : (∀ b x, h b = some x → m b = none) → Big G bs (.opsH h [] l tm) m n (.exit .normal tm1) m1 n1 →
    Big G bs (.code (.rg l) tm) (mrg h m) n (.exit .normal tm1) m1 n1
 | opsPureH {bs h o l tm m n v m1 n1 r m2 n2} : onG o tm → o.q = false → stepO bs o.o tm m n = some (v, mrg h m1, n1) → (∀ b x, h b = some x → m1 b = none) →
    Big G bs (.opsH h [] l (put tm o.d v)) m1 n1 r m2 n2 → Big G bs (.ops (o :: l) tm) m n r m2 n2
 | opsNewH {bs o l tm m n v blk r m2 n2} : onG o tm → o.q = true → stepO n o.o tm m n = some (v, upd m n (some blk), n + 1) →
    Big G bs (.opsH (upd (fun _ => none) n (some blk)) [] l (put tm o.d v)) m (n + 1) r m2 n2 → Big G bs (.ops (o :: l) tm) m n r m2 n2
 | hNil {bs h X tm m n} : Big G bs (.opsH h X [] tm) m n (.exit .normal tm) (mrg h m) n
 | hBar {bs h X o l tm m n r m1 n1} : o.q = false → Big G bs (.ops (o :: l) tm) (mrg h m) n r m1 n1 → Big G bs (.opsH h X (o :: l) tm) m n r m1 n1
 | hSkip {bs h X o l tm m n r m1 n1} : o.q = true → offG o tm → Big G bs (.opsH h X l (put tm o.d nov)) m n r m1 n1 → Big G bs (.opsH h X (o :: l) tm) m n r m1 n1
 | hPure {bs h X o l tm m n v m1 n1 r m2 n2} : o.q = true → onG o tm → stepO n o.o tm m n = some (v, m1, n1) →
    Big G bs (.opsH h X l (put tm o.d v)) m1 n1 r m2 n2 → Big G bs (.opsH h X (o :: l) tm) m n r m2 n2
 | hCall {bs h X o l tm m n f args v m1 n1 r m2 n2} : o.q = true → onG o tm → o.o.callee tm = some (f, args) →
    Big G n (.call f args) m n (.ret v) m1 n1 → Big G bs (.opsH h X l (put tm o.d v)) m1 n1 r m2 n2 → Big G bs (.opsH h X (o :: l) tm) m n r m2 n2
 | hNew {bs h X o l tm m n v blk r m2 n2} : o.q = true → onG o tm → stepO n o.o tm m n = some (v, upd m n (some blk), n + 1) →
    Big G bs (.opsH (upd h n (some blk)) X l (put tm o.d v)) m (n + 1) r m2 n2 → Big G bs (.opsH h X (o :: l) tm) m n r m2 n2
 | hSide {bs h X o l tm m n b0 blk blk1 s a v r m2 n2} : o.q = true → onG o tm → XOk o.o X b0 → h b0 = some blk → bs ≤ b0 → o.o.at tm = some (s, a) → a.block = b0 →
    (∀ m' n', m' b0 = some blk → stepO bs o.o tm m' n' = some (v, upd m' b0 (some blk1), n')) →
    Big G bs (.opsH (upd h b0 (some blk1)) (XAdd o.o [b0] X) l (put tm o.d v)) m n r m2 n2 → Big G bs (.opsH h X (o :: l) tm) m n r m2 n2
 | hHvO {bs h X T o l tm m mh n v mh' h2 m2 n1 r m3 n3} : o.q = true → onG o tm → stepO bs o.o tm mh n = some (v, mh', n1) → HvR o.o tm n h X T m mh mh' h2 m2 →
    Big G bs (.opsH h2 (XAdd o.o T X) l (put tm o.d v)) m2 n1 r m3 n3 → Big G bs (.opsH h X (o :: l) tm) m n r m3 n3
 | hHvC {bs h X T o l tm m mh n f args v mh' h2 m2 n1 r m3 n3} : o.q = true → onG o tm → o.o.callee tm = some (f, args) → Big G bs (.call f args) mh n (.ret v) mh' n1 → HvR o.o tm n h X T m mh mh' h2 m2 →
    Big G bs (.opsH h2 (XAdd o.o T X) l (put tm o.d v)) m2 n1 r m3 n3 → Big G bs (.opsH h X (o :: l) tm) m n r m3 n3
 | call {bs f args fn m n e tm1 m1 n1 v} : G f = some fn → Big G bs (.code fn.body (tm0 args)) m n (.exit e tm1) m1 n1 → (e = .normal ∨ e = .ret) →
    retv fn.res tm1 m1 = some v → Big G bs (.call f args) m n (.ret v) m1 n1
 | callS {bs f args m n v m1 n1} : Big G bs (.call f args) m n (.ret v) m1 n1 → flat v = true → sub m m1 → Big G bs (.call f args) m n (.ret v) m n
 | callN {bs f args m n v} : nat f args = some v → Big G bs (.call f args) m n (.ret v) m n
 | callJ {bs f args m n v} : natJ f args m = some v → Big G bs (.call f args) m n (.ret v) m n
 | drop {bs T m n r m1 n1 m2} : Big G bs T m n r m1 n1 → sub m2 m1 → Big G bs T m n r m2 n1
 | rst {bs c tm m n e tm1 m1 n1 tm2} : Big G bs (.code c tm) m n (.exit e tm1) m1 n1 → sub m m1 →
    (∀ t, (t ∉ c.dsts → tm2 t = tm1 t) ∧ (tm2 t = junk ∨ tm2 t = tm1 t ∧ (tm1 t = tm t ∨ flat (tm1 t) = true))) →
    Big G bs (.code c tm) m n (.exit e tm2) m n
 | jk {bs c tm m n e tm1 m1 n1 tm2} : Big G bs (.code c tm) m n (.exit e tm1) m1 n1 →
    (∀ t, (t ∉ c.dsts → tm2 t = tm1 t) ∧ (tm2 t = junk ∨ tm2 t = tm1 t)) →
    Big G bs (.code c tm) m n (.exit e tm2) m1 n1
 | wk {bs c tm m n r m1 n1 tm2} : Big G bs (.code c tm2) m n r m1 n1 →
    (∀ t, (t ∉ c.dsts → tm2 t = tm t) ∧ (tm2 t = junk ∨ tm2 t = tm t)) →
    Big G bs (.code c tm) m n r m1 n1
def W (G : Prg) (bs : Nat) (c : C) (Q : Ex → Tm → Mem → Nat → Prop) (tm : Tm) (m : Mem) (n : Nat) : Prop :=
 ∃ e tm1 m1 n1, Big G bs (.code c tm) m n (.exit e tm1) m1 n1 ∧ Q e tm1 m1 n1
def CallW (G : Prg) (f : Nat) (args : List Value) (bs : Nat) (m : Mem) (n : Nat) (K : Value → Mem → Nat → Prop) : Prop :=
 ∃ v m1 n1, Big G bs (.call f args) m n (.ret v) m1 n1 ∧ K v m1 n1
theorem CallW.mono {G f args bs m n K K'} (h : CallW G f args bs m n K) (hk : ∀ v m1 n1, K v m1 n1 → K' v m1 n1) : CallW G f args bs m n K' :=
 let ⟨v, m1, n1, b, k⟩ := h; ⟨v, m1, n1, b, hk _ _ _ k⟩
theorem W.mono {G bs c Q Q' tm m n} (h : W G bs c Q tm m n) (hq : ∀ e tm m n, Q e tm m n → Q' e tm m n) : W G bs c Q' tm m n :=
 let ⟨e, tm1, m1, n1, b, k⟩ := h; ⟨e, tm1, m1, n1, b, hq _ _ _ _ k⟩
abbrev Sm := Nat → List Value → Option Value
def SmOk (G : Prg) (S : Sm) : Prop := ∀ f args v, S f args = some v → ∀ bs m n, ∃ m1 n1, Big G bs (.call f args) m n (.ret v) m1 n1 ∧ m1 = m ∧ n1 = n
def hd (D : List Nat) (tm : Tm) (S : List (Nat × Value)) : Tm := fun t =>
 match S.lookup t with
 | some v => v
 | none => if D.contains t then junk else tm t
def Task.kept : Task → Res → Prop
 | .code c tm, .exit _ tm1 => ∀ t, t ∉ c.dsts → tm1 t = tm t
 | .ops l tm, .exit _ tm1 => ∀ t, t ∉ dstsO l → tm1 t = tm t
 | .opsH _ _ l tm, .exit _ tm1 => ∀ t, t ∉ dstsO l → tm1 t = tm t
 | _, _ => True
theorem put_kept (o : IOp) (l : List IOp) (tm : Tm) (v : Value) (t : Nat) (ht : t ∉ dstsO (o :: l)) : put tm o.d v t = tm t ∧ t ∉ dstsO l := by
 unfold dstsO at *
 cases hd : o.d with
 | none => simp [hd, put] at *; exact ht
 | some d =>
   simp only [List.filterMap_cons, hd, List.mem_cons, not_or] at ht
   exact ⟨by simp [put, upd, ht.1], ht.2⟩
theorem kept_cons {o : IOp} {l : List IOp} {tm : Tm} {v : Value} {r : Res} (h : Task.kept (.ops l (put tm o.d v)) r) : Task.kept (.ops (o :: l) tm) r := by
 cases r with
 | ret v => trivial
 | exit e tm1 => intro t ht; have := put_kept o l tm v t ht; rw [h t this.2, this.1]
theorem kept_consH {h h' : Mem} {X X' : Xs} {o : IOp} {l : List IOp} {tm : Tm} {v : Value} {r : Res} (k : Task.kept (.opsH h X l (put tm o.d v)) r) : Task.kept (.opsH h' X' (o :: l) tm) r := by
 cases r with
 | ret v => trivial
 | exit e tm1 => intro t ht; have := put_kept o l tm v t ht; rw [k t this.2, this.1]
theorem Big.kept {G bs T m n r m1 n1} (h : Big G bs T m n r m1 n1) : Task.kept T r := by
 induction h with
 | seqN _ _ ih1 ih2 =>
   rename_i r _ _ _ _
   cases r with
   | ret v => trivial
   | exit e tm => intro t ht; simp only [C.dsts, List.mem_append, not_or] at ht; rw [ih2 t ht.2, ih1 t ht.1]
 | seqE _ _ ih => intro t ht; simp only [C.dsts, List.mem_append, not_or] at ht; exact ih t ht.1
 | @cond bs c a b tm m n t r m1 n1 _ _ ih =>
   cases r with
   | ret v => trivial
   | exit e tm =>
     intro u hu; simp only [C.dsts, List.mem_append, not_or] at hu
     cases t
     · exact ih u (by simpa using hu.2)
     · exact ih u (by simpa using hu.1)
 | block _ ih => exact ih
 | loopN _ _ ih1 ih2 =>
   rename_i r _ _ _ _
   cases r with
   | ret v => trivial
   | exit e tm => intro t ht; rw [ih2 t ht, ih1 t ht]
 | loopE _ _ ih => exact ih
 | rg _ ih => exact ih
 | opsSkip _ _ _ _ ih => exact kept_cons ih
 | opsNone _ _ _ ih => exact kept_cons ih
 | opsPure _ _ _ ih => exact kept_cons ih
 | opsAlt _ _ _ _ ih => exact kept_cons ih
 | opsCall _ _ _ _ _ ih => exact kept_cons ih
 | rgH _ _ ih => exact ih
 | @opsPureH bs h o l tm m n v m1 n1 r m2 n2 _ _ _ _ _ ih =>
   cases r with
   | ret v => trivial
   | exit e tm1 => exact kept_cons (o := o) ih
 | @opsNewH bs o l tm m n v blk r m2 n2 _ _ _ _ ih =>
   cases r with
   | ret v => trivial
   | exit e tm1 => exact kept_cons (o := o) ih
 | hBar _ _ ih =>
   rename_i r _ _ _ _
   cases r with
   | ret v => trivial
   | exit e tm1 => exact ih
 | hSkip _ _ _ ih => exact kept_consH ih
 | hPure _ _ _ _ ih => exact kept_consH ih
 | hCall _ _ _ _ _ _ ih => exact kept_consH ih
 | hNew _ _ _ _ ih => exact kept_consH ih
 | hSide _ _ _ _ _ _ _ _ _ ih => exact kept_consH ih
 | hHvO _ _ _ _ _ ih => exact kept_consH ih
 | hHvC _ _ _ _ _ _ _ ih => exact kept_consH ih
 | drop _ _ ih => exact ih
 | rst _ _ h ih => intro t ht; rw [(h t).1 ht, ih t ht]
 | jk _ h ih => intro t ht; rw [(h t).1 ht, ih t ht]
 | @wk bs c tm m n r m1 n1 tm2 _ h ih =>
   cases r with
   | ret v => trivial
   | exit e tm => intro t ht; rw [ih t ht, (h t).1 ht]
 | _ => first | trivial | exact fun t _ => rfl
theorem Big.dsts {G bs c tm m n e tm1 m1 n1} (h : Big G bs (.code c tm) m n (.exit e tm1) m1 n1) : ∀ t, t ∉ c.dsts → tm1 t = tm t := Big.kept h
theorem SmOk.of {G S} (h : ∀ f args v, S f args = some v → ∀ bs m n, CallW G f args bs m n fun v' m1 n1 => v' = v ∧ m1 = m ∧ n1 = n) : SmOk G S := by
 intro f args v hv bs m n
 obtain ⟨v', m1, n1, b, rfl, rfl, rfl⟩ := h f args v hv bs m n
 exact ⟨m1, n1, b, rfl, rfl⟩
end Go.Proofs.YtoppcdecolponaaDoor.AL
