/- A list of steps, in the order of the text. -/
import Derived.Test.YtoppcdecolponaaDoorAlS8
import Derived.Test.YtoppcdecolponaaDoorAlQ
namespace Go.Proofs.YtoppcdecolponaaDoor.AL
open Go
set_option linter.unusedVariables false
set_option linter.unusedSimpArgs false
variable {no : No} {P : Program}
def BLt (β : Inj) (n : Nat) : Prop := ∀ b, n ≤ b → β b = none
theorem BLt.ext {β β1 : Inj} {m : Mem} {bs n n1 : Nat} {w : World} (h : BLt β n) (e : Ext β β1 m bs n n1 w) (hn : n ≤ n1) : BLt β1 n1 := by
 intro b hb
 have h0 := h b (by omega)
 by_cases e1 : β1 b = β b
 · rw [e1, h0]
 · have := e.only b e1; omega
def CallSim (P : Program) (no : No) (bs : Nat) (f : Nat) (args : List Value) (m : Mem) (n : Nat) (v : Value) (m1 : Mem) (n1 : Nat) : Prop :=
 ∀ (β : Inj) (w : World) (rargs : Array Value) (fr : Nat), no fr = some f → BLt β n → MRel no β m w → rargs.size = args.length → (∀ (i : Nat) x y, args[i]? = some x → rargs[i]? = some y → VRel no β x y) →
   Calls P fr rargs w fun e w' => ∃ rv β1, e = .returned rv ∧ VRel no β1 v rv ∧ Ext β β1 m bs n n1 w ∧ MRel no β1 m1 w' ∧ Frm β m bs n w w'
structure FRelS (no : No) (nt : Nat) (β : Inj) (sl : List Nat) (tm : Tm) (a : Act) : Prop where
 size : nt ≤ a.tmps.size
 defers : a.defers = []
 slots : ∀ t, t ∈ sl → VRel no β (tm t) (a.tmps.getD t undef)
def OpS (P : Program) (no : No) (bs : Nat) (o : O) (tm : Tm) (m : Mem) (n : Nat) (v : Value) (m2 : Mem) (n2 : Nat) : Prop :=
 ∀ (nt : Nat) (oper : Oper) (β : Inj) (w : World) (a : Act) (K : Act → World → Prop) (Q : Exit → Act → World → Prop), cO P no oper.op = some o → (o.isCall = true → opIsCall oper.op = true) → BLt β n → FRelS no nt β o.slots tm a → MRel no β m w →
   (∀ rv β1 w1, Ext β β1 m bs n n2 w → VRel no β1 v rv → MRel no β1 m2 w1 → Frm β m bs n w w1 → K (a.put oper.dst rv) w1) → oper.wp P a w K Q
theorem OpS.pure {bs n n2 : Nat} {o : O} {tm : Tm} {m m2 : Mem} {v : Value} (hM0 : MLt m n) (hs : stepO bs o tm m n = some (v, m2, n2)) : OpS P no bs o tm m n v m2 n2 := by
 intro nt oper β w a K Q hc hic hβ hF hM hK
 let tm' : Tm := fun t => if t ∈ o.slots then tm t else junk
 have hcg : ∀ t, t ∈ o.slots → tm t = tm' t := fun t ht => by simp [tm', ht]
 have hF' : FRel no nt β tm' a := ⟨hF.size, hF.defers, fun t => by
  simp only [tm']
  split
  · rename_i ht; exact hF.slots t ht
  · exact .junk⟩
 rw [step_congr hcg] at hs
 obtain ⟨nx, rv, w', β1, hrun, hnx, hv, he, hM1, hf⟩ := step_sim (P := P) hc hF' hM hM0.fresh hs (fun b hb _ => hβ b hb)
 unfold Oper.wp
 rw [hrun]
 rcases hnx with rfl | ⟨rfl, rfl⟩
 · exact hK rv β1 w' he hv hM1 hf
 · exact hK undef β1 w' he hv hM1 hf
theorem bind_ne {α β : Type} {x : Option α} {f : α → Option β} {r : β} (h : ∀ a, f a ≠ some r) : x.bind f ≠ some r := by
 cases x with
 | none => intro e; cases e
 | some a => exact h a
theorem map_ne {α β : Type} {x : Option α} {f : α → β} {r : β} (h : ∀ a, some (f a) ≠ some r) : x.map f ≠ some r := by
 cases x with
 | none => intro e; cases e
 | some a => exact h a
theorem cO_sl {op : Op} {sz : Nat} {ex : E} {el eh : Option E} (h : cO P no op = some (.sl sz ex el eh none)) :
 ∃ t x lo hi e, op = .slice t x lo hi none ∧ P.underlying t = some (.slice e) ∧ sizeT P e = some sz ∧ cE no x = some ex ∧ lo.elim (some none) (fun y => (cE no y).map some) = some el ∧ hi.elim (some none) (fun y => (cE no y).map some) = some eh := by
 cases op with
 | slice t x lo hi mx =>
   simp only [cO, Option.bind_eq_bind, Option.bind_eq_some_iff] at h
   obtain ⟨ex', hex, el', hel, eh', heh, em, hem, hc⟩ := h
   split at hc
   · split at hc
     · cases hc
     · cases hc
   · rename_i e ht
     simp only [Option.bind_eq_some_iff, Option.some.injEq] at hc
     obtain ⟨k, hk, hc⟩ := hc
     cases hc
     have : mx = none := by
      cases mx with
      | none => rfl
      | some u =>
        simp only [Option.elim_some, Option.map_eq_some_iff] at hem
        obtain ⟨_, _, hem⟩ := hem; cases hem
     subst this
     exact ⟨t, x, lo, hi, e, rfl, ht, hk, hex, hel, heh⟩
   · cases hc
 | _ =>
   exfalso
   revert h
   simp only [cO, Option.bind_eq_bind]
   repeat' first
    | refine bind_ne fun _ => ?_
    | refine map_ne fun _ => ?_
    | (intro h; cases h; done)
    | (exfalso; contradiction)
    | split
theorem OpS.alt {bs n n2 : Nat} {o : O} {tm : Tm} {m m2 : Mem} {v : Value} (hM0 : MLt m n) (hs : stepA bs o tm m n = some (v, m2, n2)) : OpS P no bs o tm m n v m2 n2 := by
 intro nt oper β w a K Q hc hic hβ hF hM hK
 let tm' : Tm := fun t => if t ∈ o.slots then tm t else junk
 have hcg : ∀ t, t ∈ o.slots → tm t = tm' t := fun t ht => by simp [tm', ht]
 have hF' : FRel no nt β tm' a := ⟨hF.size, hF.defers, fun t => by
  simp only [tm']
  split
  · rename_i ht; exact hF.slots t ht
  · exact .junk⟩
 rw [stepA_congr hcg] at hs
 obtain ⟨sz, x, lo, hi, ho2⟩ : ∃ sz x lo hi, o = .sl sz x lo hi none := by
  obtain ⟨sz, x, lo, hi, _, _, _, _, _, _, h1, _⟩ := stepA_inv hs
  exact ⟨sz, x, lo, hi, h1⟩
 subst ho2
 have hrun : Runs P no β m bs n n2 w (execOp a.eval oper) v m2 := by
  obtain ⟨t, x', lo', hi', e, ho, ht, hsz, hx, hl, hh⟩ := cO_sl hc
  exact s_slA ho ht hsz hx hl hh hF' hM hM0.fresh (hβ n (Nat.le_refl _)) hs
 obtain ⟨nx, rv, w', β1, hrun, hnx, hv, he, hM1, hf⟩ := hrun
 unfold Oper.wp
 rw [hrun]
 rcases hnx with rfl | ⟨rfl, rfl⟩
 · exact hK rv β1 w' he hv hM1 hf
 · exact hK undef β1 w' he hv hM1 hf
def NatSim (P : Program) (no : No) (f : Nat) (args : List Value) (v : Value) : Prop :=
 (∀ (rargs : Array Value) (w : World), (callFunc f rargs).run P w = .ok (.enter f rargs) w) ∧
 ∀ w : World, (no.S ≤ w.heap.size ∧ ∀ B, B < no.S → w.heap[B]? = no.W.heap[B]?) → Calls P f args.toArray w fun e w' => e = .returned v ∧ Go.RowKit.Below w.heap.size w w'
def JoinSim (P : Program) (no : No) (f : Nat) : Prop :=
 (∀ (rargs : Array Value) (w : World), (callFunc f rargs).run P w = .ok (.enter f rargs) w) ∧
 ∀ w : World, (no.S ≤ w.heap.size ∧ ∀ B, B < no.S → w.heap[B]? = no.W.heap[B]?) → ∀ (bk o c : Nat) (xs : List ByteArray) (s : ByteArray),
   (∀ (j : Nat) x, xs[j]? = some x → w.cell? ⟨bk, o + j, none⟩ = some (.string x)) → bk < w.heap.size → xs.length ≤ 140737488355328 → xs.length ≤ c → (joinB xs s).length ≤ 140737488355328 →
   Calls P f #[.slice (some ⟨bk, o, none⟩) xs.length c, .string s] w fun e w' => e = .returned (.string ⟨(joinB xs s).toArray⟩) ∧ Go.RowKit.Below w.heap.size w w'
def Link (P : Program) (no : No) (G : Prg) : Prop :=
 (∀ g fn, G g = some fn → fn.body.ok = true ∧ ∀ f, no f = some g → ∃ pf, P.funcs[f]? = some pf ∧ cF P no pf = some fn) ∧ (∀ g args v, nat g args = some v → ∀ f, no f = some g → NatSim P no f args v) ∧ ∀ f, no f = some 407 → JoinSim P no f
theorem call_enter {f : FuncId} {pf : Func} {fn : Fnc} (hf : P.funcs[f]? = some pf) (hc : cF P no pf = some fn) (args : Array Value) (w : World) : (callFunc f args).run P w = .ok (.enter f args) w := by
 unfold cF at hc
 simp only [Option.bind_eq_bind, Option.bind_eq_some_iff] at hc
 obtain ⟨c, hb, hc⟩ := hc
 split at hc
 · cases hc
 · rename_i hn
   have hn' : pf.name ≠ "runtime.NumGoroutine" := by simpa using hn
   simp [callFunc, hf, hn', hb]
theorem OpS.call {bs n n2 : Nat} {o : O} {tm : Tm} {m m2 : Mem} {v : Value} {f : Nat} {args : List Value} (hE : ∀ fr, no fr = some f → ∀ (rargs : Array Value) (w : World), (callFunc fr rargs).run P w = .ok (.enter fr rargs) w) (hcal : o.callee tm = some (f, args)) (hs : CallSim P no bs f args m n v m2 n2) :
 OpS P no bs o tm m n v m2 n2 := by
 intro nt oper β w a K Q hc hic hβ hF hM hK
 let tm' : Tm := fun t => if t ∈ o.slots then tm t else junk
 have hcg : ∀ t, t ∈ o.slots → tm t = tm' t := fun t ht => by simp [tm', ht]
 have hF' : FRel no nt β tm' a := ⟨hF.size, hF.defers, fun t => by
  simp only [tm']
  split
  · rename_i ht; exact hF.slots t ht
  · exact .junk⟩
 rw [callee_congr hcg] at hcal
 have fin : ∀ (fr : Nat) (rargs : Array Value), no fr = some f → rargs.size = args.length → (∀ (i : Nat) x y, args[i]? = some x → rargs[i]? = some y → VRel no β x y) →
  (execOp a.eval oper).run P w = (callFunc fr rargs).run P w → oper.wp P a w K Q := by
  intro fr rargs hno hsz hrel hrun
  unfold Oper.wp
  rw [hrun, hE fr hno, Oper.upon_enter]
  refine Calls.mono (hs β w rargs fr hno hβ hM hsz hrel) ?_
  rintro e w' ⟨rv, β1, rfl, hv, he, hM1, hf⟩
  exact hK rv β1 w' he hv hM1 hf
 cases hop : oper.op with
 | call c =>
   rw [hop] at hc
   obtain ⟨callee, cargs, ts⟩ := c
   cases callee with
   | value fv =>
     cases fv with
     | func fr =>
       simp only [cO, Option.bind_eq_bind, Option.bind_eq_some_iff, Option.some.injEq] at hc
       obtain ⟨g, hg, es, hes, rfl⟩ := hc
       simp only [O.callee, Option.some.injEq, Prod.mk.injEq] at hcal
       obtain ⟨rfl, rfl⟩ := hcal
       obtain ⟨hl, hrel⟩ := Es.sim hF' hes
       refine fin fr (cargs.map a.eval) hg (by simp [hl]) (fun i x y hx hy => hrel i x y hx (by simpa [Array.getElem?_map] using hy)) ?_
       simp [execOp, hop, resolve, Deferred.ofValue, Act.eval, invoke]
     | tmp t =>
       simp only [cO, Option.bind_eq_bind, Option.bind_eq_some_iff, Option.some.injEq] at hc
       obtain ⟨es, hes, rfl⟩ := hc
       simp only [O.callee] at hcal
       split at hcal
       · rename_i g first captured hfv
         simp only [Option.some.injEq, Prod.mk.injEq] at hcal
         obtain ⟨rfl, rfl⟩ := hcal
         have hv := hF'.slots t
         rw [show tm' t = .func (.func g) first captured from hfv] at hv
         obtain ⟨fr, ys, hno, hfirst, hr, hsz, hcap⟩ := hv.inv_func
         subst hfirst
         obtain ⟨hl, hrel⟩ := Es.sim hF' hes
         have hl' : cargs.size = es.length := by rw [hl]; simp
         refine fin fr (cargs.map a.eval ++ ys) hno (by simp [hl', hsz]) ?_ ?_
         · intro i x y hx hy
           simp only [List.nil_append] at hx
           by_cases hi : i < es.length
           · rw [List.getElem?_append_left (by simpa using hi)] at hx
             rw [Array.getElem?_append_left (by simp; omega)] at hy
             exact hrel i x y hx (by simpa [Array.getElem?_map] using hy)
           · rw [List.getElem?_append_right (by simp; omega)] at hx
             rw [Array.getElem?_append_right (by simp; omega)] at hy
             refine hcap (i - es.length) x y (by simpa using hx) ?_
             have : (cargs.map a.eval).size = es.length := by simp [hl']
             rw [this] at hy
             exact hy
         · have he : a.eval (.tmp t) = .func (.func fr) #[] ys := hr
           simp [execOp, hop, resolve, Deferred.ofValue, he, invoke]
       · cases hcal
     | const v => cases hc
     | global g => cases hc
   | invoke r mt => cases hc
   | builtin b =>
     have hi : o.isCall = true := by
      cases o <;> first | rfl | (cases hcal; done)
     have := hic hi
     rw [hop] at this
     cases this
 | _ =>
   have hi : o.isCall = true := by
    cases o <;> first | rfl | (cases hcal; done)
   have := hic hi
   rw [hop] at this
   cases this
def Nx (q : Bool) (n : Nat) (H : Nat → Prop) (X : Xs) (H' : Nat → Prop) (X' : Xs) : Prop :=
 q = true → (∀ b, H b → H' b) ∧ (∀ b, H' b → H b ∨ n ≤ b) ∧ ∀ p, p ∈ X → p ∈ X'
def Qt (q : Bool) (n : Nat) (H : Nat → Prop) (m mi mi' m2 : Mem) : Prop :=
 (q = false → mi = m ∧ m2 = mi') ∧
 (q = true → (∀ b x, mi b = some x → m b = some x ∧ ¬ H b) ∧ ∀ b x, m2 b = some x → (b < n ∧ m b = some x) ∨ (n ≤ b ∧ mi' b = some x)) ∧
 ∀ b, b < n → Own m2 b → Own m b
structure Hv (o : O) (tm : Tm) (n : Nat) (H : Nat → Prop) (X : Xs) (T : List Nat) (m mh mh' m2 : Mem) : Prop where
 sub : ∀ b x, mh b = some x → m b = some x
 hid : ∀ b x, mh b = some x → b ∈ T ∨ ¬ H b
 tgt : ∀ b, b ∈ T → H b ∧ XOk o X b ∧ b < n ∧ (∃ x, mh b = some x) ∧ Leads o tm b
 keep : ∀ b x, mh b = some x → b ∉ T → mh' b = some x
 out : ∀ b x, m2 b = some x → (b < n ∧ b ∉ T ∧ m b = some x) ∨ (b ∈ T ∧ mh' b = some x) ∨ (n ≤ b ∧ mh' b = some x)
 own : ∀ b, b < n → Own m2 b → Own m b
inductive TrL (P : Program) (no : No) : Nat → (Nat → Prop) → Xs → List IOp → Tm → Mem → Nat → Tm → Mem → Nat → Prop
 | nil {bs H X tm m n} : TLt tm n → MLt m n → TrL P no bs H X [] tm m n tm m n
 | skip {bs H X H' X' o l tm m n g b tm1 m1 n1} : o.g = some (g, b) → ((∃ c, tm g = .bool c ∧ c ≠ b) ∨ ∃ vs, tm g = .tuple vs) → TLt tm n → MLt m n → Nx o.q n H X H' X' → TrL P no bs H' X' l (put tm o.d nov) m n tm1 m1 n1 →
    TrL P no bs H X (o :: l) tm m n tm1 m1 n1
 | step {bs H X H' X' o l tm m n v mi mi' m2 n2 tm1 m1 n1} : (∀ g b, o.g = some (g, b) → tm g = .bool b) → OpS P no (if o.q then n else bs) o.o tm mi n v mi' n2 → n ≤ n2 →
    Qt o.q n H m mi mi' m2 → TLt tm n → MLt m n → Nx o.q n H X H' X' →
    TrL P no bs H' X' l (put tm o.d v) m2 n2 tm1 m1 n1 → TrL P no bs H X (o :: l) tm m n tm1 m1 n1
 | heavy {bs H X H' X' T o l tm m n v mh mh' m2 n2 tm1 m1 n1} : o.q = true → (∀ g b, o.g = some (g, b) → tm g = .bool b) → OpS P no bs o.o tm mh n v mh' n2 → n ≤ n2 → Hv o.o tm n H X T m mh mh' m2 → TLt tm n → MLt m n →
    Nx o.q n H X H' X' → (∀ b, b ∈ T → (b, o.o.isCall) ∈ X') → TrL P no bs H' X' l (put tm o.d v) m2 n2 tm1 m1 n1 → TrL P no bs H X (o :: l) tm m n tm1 m1 n1
theorem TrL.bar {bs : Nat} {H H' : Nat → Prop} {X X' : Xs} {o : IOp} {l : List IOp} {tm tm1 : Tm} {m m1 : Mem} {n n1 : Nat} (hq : o.q = false) (h : TrL P no bs H X (o :: l) tm m n tm1 m1 n1) : TrL P no bs H' X' (o :: l) tm m n tm1 m1 n1 := by
 cases h with
 | skip h1 h2 h3 h4 h5 h6 => exact .skip h1 h2 h3 h4 (fun e => by rw [hq] at e; cases e) h6
 | step h1 h2 h3 h4 h5 h6 h7 h8 => exact .step h1 h2 h3 ⟨h4.1, fun e => absurd e (by rw [hq]; decide), h4.2.2⟩ h5 h6 (fun e => by rw [hq] at e; cases e) h8
 | heavy h1 => rw [hq] at h1; cases h1
theorem cI_inv {nt : Nat} {ops : Array Oper} {q : Bool} {o : Oper} {io : IOp} (h : cI P no nt ops q o = some io) :
 cG ops o.guard = some io.g ∧ cO P no o.op = some io.o ∧ io.d = o.dst ∧ io.q = q ∧ (∀ d, o.dst = some d → d < nt) ∧ (io.o.isCall = true → opIsCall o.op = true) := by
 unfold cI at h
 simp only [Option.bind_eq_bind, Option.bind_eq_some_iff] at h
 obtain ⟨g, hg, op, hop, h⟩ := h
 split at h
 · cases h
 · rename_i hcall
   have hcc : op.isCall = true → opIsCall o.op = true := by
    intro e
    simp only [e, Bool.true_and, Bool.not_eq_true', Bool.not_eq_false] at hcall
    exact hcall
   split at h
   · rename_i d hd
     split at h
     · rename_i hlt
       cases h
       exact ⟨hg, hop, rfl, rfl, (fun d' e => by rw [hd] at e; cases e; exact hlt), hcc⟩
     · cases h
   · rename_i hd
     cases h
     exact ⟨hg, hop, rfl, rfl, (fun d' e => by rw [hd] at e; cases e), hcc⟩
theorem wanted_iff {nt : Nat} {ops : Array Oper} {o : Oper} {io : IOp} {β : Inj} {tm : Tm} {a : Act} (hg : cG ops o.guard = some io.g)
 (hs : ∀ g b, io.g = some (g, b) → VRel no β (tm g) (a.tmps.getD g undef)) :
 (io.g = none → Region.wanted o (yielded ops a.tmps) = true) ∧
 (∀ g b, io.g = some (g, b) → tm g = .bool b → Region.wanted o (yielded ops a.tmps) = true) ∧
 (∀ g b, io.g = some (g, b) → ((∃ c, tm g = .bool c ∧ c ≠ b) ∨ ∃ vs, tm g = .tuple vs) → Region.wanted o (yielded ops a.tmps) = false) := by
 unfold cG at hg
 split at hg
 · rename_i hgn
   have : io.g = none := by simpa using hg.symm
   refine ⟨fun _ => by simp [Region.wanted, hgn], (fun g b e => by rw [this] at e; cases e), (fun g b e => by rw [this] at e; cases e)⟩
 · rename_i j b hgs
   split at hg
   · rename_i t ht
     have hio : io.g = some (t, b) := by simpa using hg.symm
     refine ⟨fun e => (by rw [hio] at e; cases e), fun g b' e hv => ?_, fun g b' e hv => ?_⟩
     · rw [hio] at e
       cases e
       have := hs t b hio
       rw [hv] at this
       have hr : a.tmps.getD t undef = .bool b := by generalize a.tmps.getD t undef = r at this; cases this; rfl
       have hget : a.tmps[t]? = some (.bool b) := by
        cases h : a.tmps[t]? with
        | none => simp [Array.getD_eq_getD_getElem?, h, undef] at hr
        | some x => simp [Array.getD_eq_getD_getElem?, h] at hr; rw [hr]
       simp [Region.wanted, hgs, yielded, ht, hget]
     · rw [hio] at e
       cases e
       have := hs t b hio
       rcases hv with ⟨c, hc, hne⟩ | ⟨vs, hvs⟩
       · rw [hc] at this
         have hr : a.tmps.getD t undef = .bool c := by generalize a.tmps.getD t undef = r at this; cases this; rfl
         have hget : a.tmps[t]? = some (.bool c) := by
          cases h : a.tmps[t]? with
          | none => simp [Array.getD_eq_getD_getElem?, h, undef] at hr
          | some x => simp [Array.getD_eq_getD_getElem?, h] at hr; rw [hr]
         simp [Region.wanted, hgs, yielded, ht, hget, hne]
       · rw [hvs] at this
         have hr : ∃ rs, a.tmps.getD t undef = .tuple rs := by generalize a.tmps.getD t undef = r at this; cases this; exact ⟨_, rfl⟩
         obtain ⟨rs, hr⟩ := hr
         have : ∀ x, a.tmps[t]? = some x → x = .tuple rs := by
          intro x h
          simp [Array.getD_eq_getD_getElem?, h] at hr; exact hr
         cases h : a.tmps[t]? with
         | none => simp [Region.wanted, hgs, yielded, ht, h]
         | some x => rw [this x h] at h; simp [Region.wanted, hgs, yielded, ht, h]
   · cases hg
def CompL (P : Program) (no : No) (nt : Nat) (ops : Array Oper) : List Oper → List IOp → Prop
 | [], [] => True
 | o :: lo, io :: l => cI P no nt ops false o = some io ∧ CompL P no nt ops lo l
 | _, _ => False
theorem tr_mono {bs n n1 : Nat} {H : Nat → Prop} {X : Xs} {l : List IOp} {tm tm1 : Tm} {m m1 : Mem} (h : TrL P no bs H X l tm m n tm1 m1 n1) : n ≤ n1 := by
 induction h with
 | nil _ _ => exact Nat.le_refl _
 | skip _ _ _ _ _ _ ih => exact ih
 | step _ _ h _ _ _ _ _ ih => omega
 | heavy _ _ _ h _ _ _ _ _ _ ih => omega
theorem tr_text {bs n n1 : Nat} {H : Nat → Prop} {X : Xs} {l : List IOp} {tm tm1 : Tm} {m m1 : Mem} (h : TrL P no bs H X l tm m n tm1 m1 n1) : ∀ (nt : Nat) (ops : Array Oper) (lo : List Oper), CompL P no nt ops lo l → ∀ (β : Inj) (w : World) (a : Act) (Q : Exit → Act → World → Prop),
 BLt β n → FRel no nt β tm a → MRel no β m w → (∀ β1 a' w', Ext β β1 m bs n n1 w → FRel no nt β1 tm1 a' → MRel no β1 m1 w' → Frm β m bs n w w' → Q .normal a' w') → wpList P ops Q lo a w := by
 induction h with
 | nil _ _ =>
   intro nt ops lo hc β w a Q hβ hF hM hQ
   cases lo with
   | nil => exact hQ β a w (Ext.refl ..) hF hM (Frm.refl ..)
   | cons => exact hc.elim
 | @skip H X H' X' o l tm m n g b tm1 m1 n1 hg hsk _ _ _ hrest ih =>
   intro nt ops lo hc β w a Q hβ hF hM hQ
   cases lo with
   | nil => exact hc.elim
   | cons oo lo =>
     obtain ⟨hci, hc⟩ := hc
     obtain ⟨h1, h2, h3, h4, h5, h6⟩ := cI_inv hci
     have hw := (wanted_iff (nt := nt) (β := β) (tm := tm) (a := a) h1 fun g b _ => hF.slots g).2.2 g b hg hsk
     have hF1 : FRel no nt β (put tm o.d nov) (a.put oo.dst undef) := by
      rw [h3]; exact hF.put h5 (VRel.tuple rfl fun i x y hx => by simp at hx)
     have i1 := ih nt ops lo hc β w (a.put oo.dst undef) Q hβ hF1 hM hQ
     unfold wpList
     rw [if_neg (by rw [hw]; decide)]
     exact i1
 | @step H X H' X' o l tm m n v mi mi' m2 n2 tm1 m1 n1 hg hop hn hq _ _ _ hrest ih =>
   intro nt ops lo hc β w a Q hβ hF hM hQ
   cases lo with
   | nil => exact hc.elim
   | cons oo lo =>
     obtain ⟨hci, hc⟩ := hc
     obtain ⟨h1, h2, h3, h4, h5, h6⟩ := cI_inv hci
     obtain ⟨rfl, rfl⟩ := hq.1 h4
     rw [h4] at hop
     have hww := wanted_iff (nt := nt) (β := β) (tm := tm) (a := a) h1 fun g b _ => hF.slots g
     have hw : Region.wanted oo (yielded ops a.tmps) = true := by
      cases e : o.g with
      | none => exact hww.1 e
      | some p => obtain ⟨g, b⟩ := p; exact hww.2.1 g b e (hg g b e)
     have hle := tr_mono hrest
     unfold wpList
     rw [if_pos hw]
     refine .inl (hop nt oo β w a _ Q h2 h6 hβ ⟨hF.size, hF.defers, fun t _ => hF.slots t⟩ hM ?_)
     intro rv β1 w1 he' hv hM1 hf'
     have he' : Ext β β1 mi bs n n2 w := he'
     have hf' : Frm β mi bs n w w1 := hf'
     have hF1 : FRel no nt β1 (put tm o.d v) (a.put oo.dst rv) := by
      rw [h3]; exact (hF.mono he'.old).put h5 hv
     refine ih nt ops lo hc β1 w1 (a.put oo.dst rv) Q (hβ.ext he' hn) hF1 hM1 ?_
     intro β2 a' w' e2 hF2 hM2 hf2
     exact hQ β2 a' w' (he'.trans e2 hq.2.2 hn hle hf'.size fun b hb _ => hβ b hb) hF2 hM2 (hf'.trans he' hf2 hq.2.2 fun b hb _ => hβ b hb)
 | heavy hq _ _ _ _ _ _ _ _ _ ih =>
   intro nt ops lo hc β w a Q hβ hF hM hQ
   cases lo with
   | nil => exact hc.elim
   | cons oo lo =>
     obtain ⟨hci, hc⟩ := hc
     obtain ⟨h1, h2, h3, h4, h5, h6⟩ := cI_inv hci
     rw [hq] at h4; cases h4
end Go.Proofs.YtoppcdecolponaaDoor.AL
