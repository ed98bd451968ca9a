/- From the translated code to the small language: a function that tells, for code of the kinds that the language has, the code in it. -/
import Derived.Test.YtoppcdecolponaaDoorAlQ
import GoSem.Machine.Frame
import GoSem.Core.Region
import GoSem.Core.Made
import GoSem.Op.Equal
namespace Go.Proofs.YtoppcdecolponaaDoor.AL
open Go
set_option linter.unusedVariables false
def notFn : Value → Bool
 | .func _ _ _ => false
 | _ => true
section
variable (P : Program) (no : Nat → Option Nat)
def cE : Operand → Option E
 | .tmp t => some (.t t)
 | .const v => if flat v && notFn v then some (.k v) else none
 | .global _ => none
 | .func f => (no f).map fun g => .k (.func (.func g) #[] #[])
def cEs (xs : Array Operand) : Option (List E) := xs.toList.mapM (cE no)
def aggT (t : TypeId) : Option Bool :=
 match P.underlying t with
 | some (.struct _) => some true
 | some (.array _ _) => some true
 | some _ => some false
 | none => none
def flats (vs : List Value) : Bool := vs.all flatW
def zeroOf (t : TypeId) : Option (List Value) := do
 let i ← P.info? t
 let z ← i.zero
 if flats z.cells.toList && z.cells.size == i.size then some z.cells.toList else none
def sizeT (t : TypeId) : Option Nat := (P.info? t).map (·.size)
def fieldT (s : TypeId) (f : Nat) : Option Field :=
 match P.underlying s with
 | some (.struct fs) => fs[f]?
 | _ => none
def elemT (t : TypeId) : Option TypeId :=
 match P.underlying t with
 | some (.slice e) => some e
 | _ => none
def basicK (t : TypeId) : Option BK :=
 match P.underlying t with
 | some .bool => some .b
 | some (.int _) => some .i
 | some .string => some .s
 | _ => none
def plainStruct (t : TypeId) : Option (List BK) :=
 match P.underlying t with
 | some (.struct fs) =>
   if (fs.toList.zipIdx.all fun (f, i) => f.offset == i && f.name != "_") && !P.stoodInHeld t && !P.eqGuardType P.depth t then
    fs.toList.mapM fun f => basicK P f.type
   else none
 | _ => none
def nilSlice : Operand → Bool
 | .const (.slice none 0 0) => true
 | _ => false
def cO : Op → Option O
 | .move x | .assign x => (cE no x).map .mv
 | .pick c a b => do some (.pick (← cE no c) (← cE no a) (← cE no b))
 | .alloc t => (zeroOf P t).map .new
 | .box t x => (cE no x).map .box
 | .load t x => do
   if ← aggT P t then some (.ldn (← sizeT P t) (← cE no x)) else some (.ld (← cE no x))
 | .store t a x => do
   if ← aggT P t then some (.stn (← sizeT P t) (← cE no a) (← cE no x))
   else if (← sizeT P t) == 1 then some (.st (← cE no a) (← cE no x)) else none
 | .nilCheck x => (cE no x).map .nilc
 | .binOp op t x y _ =>
   match P.underlying t with
   | some (.int _) => do some (.bin op (← cE no x) (← cE no y))
   | some .string => do some (.bin op (← cE no x) (← cE no y))
   | some .bool => do
     match op with
     | .eql => some (.eqb false (← cE no x) (← cE no y))
     | .neq => some (.eqb true (← cE no x) (← cE no y))
     | _ => none
   | some (.struct _) => do
     let ks ← plainStruct P t
     match op with
     | .eql => some (.eqs false ks (← cE no x) (← cE no y))
     | .neq => some (.eqs true ks (← cE no x) (← cE no y))
     | _ => none
   | some (.slice _) => do
     if nilSlice y then
      match op with
      | .eql => some (.eqnil false (← cE no x))
      | .neq => some (.eqnil true (← cE no x))
      | _ => none
     else none
   | _ => none
 | .unOp .not _ x => (cE no x).map .not
 | .unOp .neg _ x => (cE no x).map .neg
 | .convert src dst x =>
   match P.underlying src, P.underlying dst with
   | some (.int _), some (.int k) => (cE no x).map (.cvi k)
   | some .string, some .string => none
   | some .string, some (.slice _) => (cE no x).map .cvsb
   | some (.slice e), some .string => match P.underlying e with
     | some (.int .u8) => (cE no x).map .cvbs
     | _ => none
   | _, _ => none
 | .makeFunc (.func f) first captured => do
   if first.size == 0 then some (.fn (← no f) (← cEs no captured)) else none
 | .makeSlice t l c => do
   let e ← elemT P t
   let i ← P.info? e
   some (.mk i.size i.bytes (← zeroOf P e) (← cE no l) (← cE no c))
 | .buildSlice t len parts => do
   let e ← elemT P t
   let z ← zeroOf P e
   if len * z.length ≤ 2 ^ 24 && z.length != 0 then
    some (.bs z.length len z (← parts.toList.mapM fun p => do some (p.1, ← cE no p.2)))
   else none
 | .build t parts =>
   match P.underlying t with
   | some (.struct fs) =>
     if fs.toList.all (fun f => (sizeT P f.type).isSome) then do
      some (.bd (← zeroOf P t) (← parts.toList.mapM fun p => do
       let f ← fs[p.1]?
       some (f.offset, ← sizeT P f.type, ← cE no p.2)))
     else none
   | _ => none
 | .slice t x lo hi mx => do
   let x ← cE no x
   let lo ← lo.elim (some none) fun y => (cE no y).map some
   let hi ← hi.elim (some none) fun y => (cE no y).map some
   let mx ← mx.elim (some none) fun y => (cE no y).map some
   match P.underlying t with
   | some .string => if mx.isNone then some (.sls x lo hi) else none
   | some (.slice e) => some (.sl (← sizeT P e) x lo hi mx)
   | _ => none
 | .fieldAddr s x f => do
   let fd ← fieldT P s f
   if (← sizeT P fd.type) == 0 then none else some (.fa fd.offset (← cE no x))
 | .field s x f => do
   let fd ← fieldT P s f
   let k ← if ← aggT P fd.type then (sizeT P fd.type).map some else some none
   some (.fld fd.offset k (← cE no x))
 | .indexAddr t x i => do
   let e ← elemT P t
   some (.ia (← sizeT P e) (← cE no x) (← cE no i))
 | .index t x i =>
   match P.underlying t with
   | some .string => do some (.ix (← cE no x) (← cE no i))
   | _ => none
 | .extract x i => (cE no x).map (.ext i)
 | .call { callee := .value (.func f), args, .. } => do some (.call (← no f) (← cEs no args))
 | .call { callee := .value (.tmp t), args, .. } => do some (.calli (.t t) (← cEs no args))
 | .call { callee := .builtin b, args, argTypes } => do
   match b, ← cEs no args with
   | .len, [x] => match (argTypes[0]?).bind P.underlying with
     | some .string => some (.lens x)
     | some (.slice _) => some (.len x)
     | _ => none
   | .cap, [x] => match (argTypes[0]?).bind P.underlying with
     | some (.slice _) => some (.cap x)
     | _ => none
   | .min, xs => some (.mn xs)
   | .max, xs => some (.mx xs)
   | .append, [s, x] => match (argTypes[0]?).bind P.underlying, (argTypes[1]?).bind P.underlying with
     | some (.slice e), some (.slice _) => do
       let i ← P.info? e
       if i.bytes == 0 || i.size == 0 || i.bytes > 1048576 || (zeroOf P e).isNone then none else some (.app i.size i.bytes s x)
     | _, _ => none
   | .clear, [x] => match (argTypes[0]?).bind P.underlying with
     | some (.slice e) => do
       let z ← zeroOf P e
       some (.clr z.length z x)
     | _ => none
   | .copy, [d, s] => match (argTypes[0]?).bind P.underlying, (argTypes[1]?).bind P.underlying with
     | some (.slice e), some (.slice _) => do some (.cpy (← sizeT P e) d s)
     | _, _ => none
   | _, _ => none
 | _ => none
def edgesOk (ops : Array Oper) : Bool := ops.toList.zipIdx.all fun (o, i) => o.after.all fun e => e.on < i || !Region.binds .any e
def IOp.names (o : IOp) : List Nat := o.d.toList ++ o.o.slots ++ (match o.g with | some (g, _) => [g] | none => [])
def slotsOk (l : List IOp) (b : Array Nat) : Bool :=
 l.zipIdx.all fun (y, j) => l.zipIdx.all fun (x, i) => !(i < j) || (b.getD j 0).testBit i ||
  ((match x.d with | some d => !y.names.contains d | none => true) && (match y.d with | some d => !x.names.contains d | none => true))
def callsOk (l : List IOp) (b : Array Nat) : Bool :=
 l.zipIdx.all fun (y, j) => l.zipIdx.all fun (x, i) => !(i < j) || !(x.o.isCall && y.o.isCall) || (b.getD j 0).testBit i
def barrier (ops : Array Oper) (b : Array Nat) (j : Nat) : Bool :=
 ops.toList.zipIdx.all fun (_, i) => i == j || (if i < j then (b.getD j 0).testBit i else (b.getD i 0).testBit j)
def cG (ops : Array Oper) (g : Option (Nat × Bool)) : Option (Option (Nat × Bool)) :=
 match g with
 | none => some none
 | some (j, b) => match (ops[j]?).bind (·.dst) with
   | some t => some (some (t, b))
   | none => none
def opIsCall : Op → Bool
 | .call { callee := .value _, .. } => true
 | _ => false
def cI (nt : Nat) (ops : Array Oper) (q : Bool) (o : Oper) : Option IOp := do
 let g ← cG ops o.guard
 let op ← cO P no o.op
 if op.isCall && !opIsCall o.op then none else
 match o.dst with
 | some d => if d < nt then some ⟨o.dst, op, g, q⟩ else none
 | none => some ⟨o.dst, op, g, q⟩
def cL (nt : Nat) (ops : Array Oper) (draw : Bool) : Option (List IOp) :=
 if draw then
  (ops.toList.zipIdx.mapM fun (p : Oper × Nat) => cI P no nt ops (!barrier ops (Region.before ops) p.2) p.1).bind fun l =>
    if edgesOk ops && (slotsOk l (Region.before ops) && callsOk l (Region.before ops)) then some l else none
 else ops.toList.mapM (cI P no nt ops false)
def cC (nt : Nat) : Code → Option C
 | .skip => some .skip
 | .region _ ops draw => (cL P no nt ops draw).map .rg
 | .seq a b => do some (.seq (← cC nt a) (← cC nt b))
 | .cond c a b => do some (.cond (← cE no c) (← cC nt a) (← cC nt b))
 | .block i c => do some (.block i (← cC nt c))
 | .loop c => do some (.loop (← cC nt c))
 | .exit i => some (.exit i)
 | .ret => some .ret
 | _ => none
def cR : ResultVar → Option RV
 | .tmp t => some (.tmp t)
 | .cell t ty => do if ← aggT P ty then some (.celln t (← sizeT P ty)) else some (.cell t)
def cF (f : Func) : Option Fnc := do
 let c ← f.body
 if f.name == "runtime.NumGoroutine" then none
 let b ← cC P no f.ntmps c
 if b.ok then some ⟨b, ← f.results.toList.mapM (cR P)⟩ else none
end
end Go.Proofs.YtoppcdecolponaaDoor.AL
