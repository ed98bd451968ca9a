/- A list of steps, in whatever order the model draws: what the runs come to. -/
import Derived.Test.YtoppcdecolponaaDoorAlS10
namespace Go.Proofs.YtoppcdecolponaaDoor.AL
open Go
set_option linter.unusedVariables false
set_option linter.unusedSimpArgs false
variable {no : No} {P : Program}
def SameSeg (bar : Nat → Bool) (j k : Nat) : Prop := ∀ x, bar x = true → ¬ (j < x ∧ x < k) ∧ ¬ (k ≤ x ∧ x ≤ j)
def Wr (len : Nat) (bar : Nat → Bool) (tgt : Nat → List Nat) (k b j : Nat) : Prop := j < len ∧ b ∈ tgt j ∧ SameSeg bar j k
def At (len : Nat) (bar : Nat → Bool) (tgt : Nat → List Nat) (MM : Nat → Mem) (L : Nat → Bool) (k b : Nat) (blk : Blk) : Prop :=
 (∃ j, Wr len bar tgt k b j ∧ L j = false ∧ (∀ j', Wr len bar tgt k b j' → j' < j → L j' = true) ∧ MM j b = some blk) ∨
 (∃ j, Wr len bar tgt k b j ∧ (∀ j', Wr len bar tgt k b j' → L j' = true) ∧ (∀ j', Wr len bar tgt k b j' → j' ≤ j) ∧ MM (j + 1) b = some blk) ∨
 ((∀ j, ¬ Wr len bar tgt k b j) ∧ MM k b = some blk)
theorem exists_max {p : Nat → Prop} : ∀ (n : Nat), (∃ j, j < n ∧ p j) → ∃ j, j < n ∧ p j ∧ ∀ j', j' < n → p j' → j' ≤ j
 | 0, ⟨_, h, _⟩ => by omega
 | n + 1, ⟨j, h1, h2⟩ => by
   by_cases hn : p n
   · exact ⟨n, by omega, hn, fun j' h _ => by omega⟩
   · have : j < n := by
      rcases Nat.lt_or_ge j n with h | h
      · exact h
      · have : j = n := by omega
        subst this; exact absurd h2 hn
     obtain ⟨i, h3, h4, h5⟩ := exists_max n ⟨j, this, h2⟩
     refine ⟨i, by omega, h4, fun j' h6 h7 => ?_⟩
     rcases Nat.lt_or_ge j' n with h | h
     · exact h5 j' h h7
     · have : j' = n := by omega
       subst this; exact absurd h7 hn
theorem At.less {len : Nat} {bar : Nat → Bool} {tgt : Nat → List Nat} {MM : Nat → Mem} {L L' : Nat → Bool} {k b : Nat} {blk : Blk} (h : At len bar tgt MM L' k b blk) (he : ∀ j, Wr len bar tgt k b j → L j = L' j) : At len bar tgt MM L k b blk := by
 rcases h with ⟨j, hw, hL, hpre, h6⟩ | ⟨j, hw, hdn, hmax, h6⟩ | h
 · exact .inl ⟨j, hw, by rw [he j hw]; exact hL, fun j' hw' hlt => by rw [he j' hw']; exact hpre j' hw' hlt, h6⟩
 · exact .inr (.inl ⟨j, hw, fun j' hw' => by rw [he j' hw']; exact hdn j' hw', hmax, h6⟩)
 · exact .inr (.inr h)
theorem wr_last {len : Nat} {bar : Nat → Bool} {tgt : Nat → List Nat} {k b : Nat} (h : ∃ j, Wr len bar tgt k b j) : ∃ j, Wr len bar tgt k b j ∧ ∀ j', Wr len bar tgt k b j' → j' ≤ j := by
 obtain ⟨j, hj⟩ := h
 obtain ⟨i, h1, h2, h3⟩ := exists_max (p := Wr len bar tgt k b) len ⟨j, hj.1, hj⟩
 exact ⟨i, h2, fun j' hj' => h3 j' hj'.1 hj'⟩
def Plc (len : Nat) (bar : Nat → Bool) (tgt : Nat → List Nat) (MM : Nat → Mem) (L : Nat → Bool) (b : Nat) (blk : Blk) : Prop :=
 ∃ k, k ≤ len ∧ (∀ j, j < k → bar j = true → L j = true) ∧ (∀ j, j < len → L j = true → bar j = true → j < k) ∧ At len bar tgt MM L k b blk
structure Mid (no : No) (nt : Nat) (bs len : Nat) (bar : Nat → Bool) (bef : Nat → Nat → Bool) (d : Nat → Option Nat) (TM : Nat → Tm) (MM : Nat → Mem) (NN : Nat → Nat) (VV : Nat → Value) (tgt : Nat → List Nat) (β0 : Inj) (w0 : World)
 (L : Nat → Bool) (β : Inj) (w : World) (a : Act) : Prop where
 size : nt ≤ a.tmps.size
 defers : a.defers = []
 closed : ∀ j k, j < len → L j = true → bef j k = true → L k = true
 dom : ∀ b, β b ≠ none → b < NN 0 ∨ ∃ k, k < len ∧ L k = true ∧ NN k ≤ b ∧ b < NN (k + 1)
 ext : Ext β0 β (MM 0) bs (NN 0) (NN len) w0
 frm : Frm β0 (MM 0) bs (NN 0) w0 w
 mem : ∀ m', (∀ b blk, m' b = some blk → Plc len bar tgt MM L b blk) → MRel no β m' w
 sdv : ∀ j b, j < len → L j = true → b ∈ tgt j → β b ≠ none
 slots : ∀ t, VRel no β (lv (TM 0) d VV L len t) (a.tmps.getD t undef)
theorem mono_le {NN : Nat → Nat} {len : Nat} (h : ∀ i, i < len → NN i ≤ NN (i + 1)) {i : Nat} : ∀ j, i ≤ j → j ≤ len → NN i ≤ NN j := by
 intro j
 induction j with
 | zero => intro hij _; have : i = 0 := by omega
           subst this; exact Nat.le_refl _
 | succ j ih =>
   intro hij hj
   by_cases e : i = j + 1
   · subst e; exact Nat.le_refl _
   · exact Nat.le_trans (ih (by omega) (by omega)) (h j (by omega))
section
variable {bs : Nat} {l : List IOp} {TM : Nat → Tm} {MM : Nat → Mem} {NN : Nat → Nat} {VV : Nat → Value} {HH : Nat → Nat → Prop} {XX : Nat → Xs} {tgt : Nat → List Nat}
theorem Stps.down (hS : Stps P no bs l TM MM NN VV HH XX tgt) {bar : Nat → Bool} (hbq : ∀ i io, l[i]? = some io → io.q = !bar i) {b : Nat} {blk : Blk} {i : Nat} (hb : b < NN i) :
 ∀ k, i ≤ k → k ≤ l.length → (∀ x, i ≤ x → x < k → bar x = false ∧ b ∉ tgt x) → MM k b = some blk → MM i b = some blk := by
 intro k
 induction k with
 | zero => intro h _ _ e; have : i = 0 := by omega
           subst this; exact e
 | succ k ih =>
   intro hik hk hx e
   by_cases hi : i = k + 1
   · subst hi; exact e
   · obtain ⟨io, hio⟩ : ∃ io, l[k]? = some io := ⟨_, List.getElem?_eq_getElem (by omega)⟩
     obtain ⟨hx1, hx2⟩ := hx k (by omega) (by omega)
     have hb' : b < NN k := Nat.lt_of_lt_of_le hb (@mono_le NN l.length hS.mono i k (by omega) (by omega))
     have hq : io.q = true := by rw [hbq k io hio, hx1]; rfl
     refine ih (by omega) (by omega) (fun x h1 h2 => hx x h1 (by omega)) ?_
     rcases hS.act k io hio with ⟨_, _, _, h2, _⟩ | ⟨_, _, mi, mi', _, h2⟩ | ⟨_, _, _, mh, mh', _, hv⟩
     · rw [h2] at e; exact e
     · rcases (h2.2.1 hq).2 b blk e with ⟨_, h3⟩ | ⟨h3, _⟩
       · exact h3
       · omega
     · rcases hv.out b blk e with ⟨_, _, h3⟩ | ⟨h3, _⟩ | ⟨h3, _⟩
       · exact h3
       · exact absurd h3 hx2
       · omega
theorem Stps.dom0 (hS : Stps P no bs l TM MM NN VV HH XX tgt) : ∀ i, i ≤ l.length → ∀ b, b < NN 0 → Own (MM i) b → Own (MM 0) b := by
 intro i
 induction i with
 | zero => intro _ b _ e; exact e
 | succ i ih =>
   intro hi b hb e
   refine ih (by omega) b hb ?_
   obtain ⟨io, hio⟩ : ∃ io, l[i]? = some io := ⟨_, List.getElem?_eq_getElem (by omega)⟩
   have hb' : b < NN i := Nat.lt_of_lt_of_le hb (@mono_le NN l.length hS.mono 0 i (Nat.zero_le _) (by omega))
   rcases hS.act i io hio with ⟨_, _, _, h2, _⟩ | ⟨_, _, mi, mi', _, h2⟩ | ⟨_, _, _, mh, mh', _, hv⟩
   · rw [h2] at e; exact e
   · exact h2.2.2 b hb' e
   · exact hv.own b hb' e
theorem Stps.hv (hS : Stps P no bs l TM MM NN VV HH XX tgt) {i b : Nat} {io : IOp} (hio : l[i]? = some io) (ht : b ∈ tgt i) :
 (∀ g b, io.g = some (g, b) → TM i g = .bool b) ∧ io.q = true ∧ (∀ b, b ∈ tgt i → (b, io.o.isCall) ∈ XX (i + 1)) ∧ ∃ mh mh', OpS P no bs io.o (TM i) mh (NN i) (VV i) mh' (NN (i + 1)) ∧ Hv io.o (TM i) (NN i) (HH i) (XX i) (tgt i) (MM i) mh mh' (MM (i + 1)) := by
 rcases hS.act i io hio with ⟨_, h, _⟩ | ⟨_, h, _⟩ | h
 · rw [h] at ht; cases ht
 · rw [h] at ht; cases ht
 · exact h
theorem Stps.segs (hS : Stps P no bs l TM MM NN VV HH XX tgt) {bar : Nat → Bool} (hbq : ∀ i io, l[i]? = some io → io.q = !bar i) {i : Nat} :
 ∀ k, i ≤ k → k ≤ l.length → (∀ x, i ≤ x → x < k → bar x = false) → (∀ b, HH i b → HH k b) ∧ (∀ b, HH k b → HH i b ∨ NN i ≤ b) ∧ ∀ p, p ∈ XX i → p ∈ XX k := by
 intro k
 induction k with
 | zero => intro h _ _; have : i = 0 := by omega
           subst this; exact ⟨fun b h => h, fun b h => .inl h, fun b h => h⟩
 | succ k ih =>
   intro hik hk hx
   by_cases hi : i = k + 1
   · subst hi; exact ⟨fun b h => h, fun b h => .inl h, fun b h => h⟩
   · obtain ⟨io, hio⟩ : ∃ io, l[k]? = some io := ⟨_, List.getElem?_eq_getElem (by omega)⟩
     have hq : io.q = true := by rw [hbq k io hio, hx k (by omega) (by omega)]; rfl
     obtain ⟨i1, i2, i3⟩ := ih (by omega) (by omega) (fun x h1 h2 => hx x h1 (by omega))
     obtain ⟨j1, j2, j3⟩ := hS.nx k io hio hq
     have hmn := @mono_le NN l.length hS.mono i k (by omega) (by omega)
     refine ⟨fun b h => j1 b (i1 b h), fun b h => ?_, fun b h => j3 b (i3 b h)⟩
     rcases j2 b h with h | h
     · exact i2 b h
     · exact .inr (by omega)
theorem Stps.twice (hS : Stps P no bs l TM MM NN VV HH XX tgt) {bar : Nat → Bool} (hbq : ∀ i io, l[i]? = some io → io.q = !bar i) {i j b : Nat} {io jo : IOp} (hio : l[i]? = some io) (hjo : l[j]? = some jo) (hij : i < j) (hx : ∀ x, i < x → x < j → bar x = false)
 (hi : b ∈ tgt i) (hjt : b ∈ tgt j) : io.o.isCall = true ∧ jo.o.isCall = true := by
 have hj : j < l.length := (List.getElem?_eq_some_iff.1 hjo).1
 have h1 := (hS.hv hio hi).2.2.1 b hi
 have h2 := (hS.segs hbq (i := i + 1) j (by omega) (by omega) (fun x h1 h2 => hx x (by omega) h2)).2.2 _ h1
 obtain ⟨_, _, _, mh, mh', _, hv⟩ := hS.hv hjo hjt
 obtain ⟨h3, h4⟩ := (hv.tgt b hjt).2.1
 cases e : io.o.isCall with
 | false => rw [e] at h2; exact absurd h2 h3
 | true =>
   refine ⟨rfl, ?_⟩
   cases e2 : jo.o.isCall with
   | false => rw [e] at h2; exact absurd h2 (h4 e2)
   | true => rfl
theorem Stps.tlt' (hS : Stps P no bs l TM MM NN VV HH XX tgt) {j b : Nat} (hj : j < l.length) (ht : b ∈ tgt j) : b < NN j := by
 obtain ⟨io, hio⟩ : ∃ io, l[j]? = some io := ⟨_, List.getElem?_eq_getElem hj⟩
 obtain ⟨_, _, _, mh, mh', _, hv⟩ := hS.hv hio ht
 exact (hv.tgt b ht).2.2.1
theorem callsOk_at {l : List IOp} {b : Array Nat} (h : callsOk l b = true) {i j : Nat} {x y : IOp} (hx : l[i]? = some x) (hy : l[j]? = some y) (hij : i < j) (h1 : x.o.isCall = true) (h2 : y.o.isCall = true) : (b.getD j 0).testBit i = true := by
 unfold callsOk at h
 have h3 := List.all_eq_true.1 h (y, j) (List.mk_mem_zipIdx_iff_getElem?.2 hy)
 have h4 := List.all_eq_true.1 h3 (x, i) (List.mk_mem_zipIdx_iff_getElem?.2 hx)
 simpa [hij, h1, h2] using h4
theorem tr_draw (hS : Stps P no bs l TM MM NN VV HH XX tgt) {nt : Nat} {ops : Array Oper} (hlen : l.length = ops.size)
 (hci : ∀ i o io, ops[i]? = some o → l[i]? = some io → cI P no nt ops (!barrier ops (Region.before ops) i) o = some io) (hed : edgesOk ops = true) (hsl : slotsOk l (Region.before ops) = true) (hco : callsOk l (Region.before ops) = true)
 {β0 : Inj} {w0 : World} (hβ0 : BLt β0 (NN 0)) {Q : Exit → Act → World → Prop}
 (hQ : ∀ β1 a' w', Ext β0 β1 (MM 0) bs (NN 0) (NN l.length) w0 → FRel no nt β1 (TM l.length) a' → MRel no β1 (MM l.length) w' → Frm β0 (MM 0) bs (NN 0) w0 w' → Q .normal a' w') :
 ∀ (fuel : Nat) (listed : Array Bool) (β : Inj) (w : World) (a : Act), listed.size = ops.size → cnt (fun k => listed.getD k false) l.length ≤ fuel →
   Mid no nt bs l.length (barrier ops (Region.before ops)) (fun j k => ((Region.before ops).getD j 0).testBit k) (fun i => (l[i]?).bind (·.d)) TM MM NN VV tgt β0 w0 (fun k => listed.getD k false) β w a →
   wpAny P .any ops Q fuel listed a w := by
 have hbq : ∀ i io, l[i]? = some io → io.q = !barrier ops (Region.before ops) i := by
  intro i io hio
  have hil : i < l.length := (List.getElem?_eq_some_iff.1 hio).1
  exact (cI_inv (hci i ops[i] io (Array.getElem?_eq_getElem (by omega)) hio)).2.2.2.1
 have hmono := @mono_le NN l.length hS.mono
 have fin : ∀ (listed : Array Bool) (β : Inj) (w : World) (a : Act), listed.size = ops.size → (∀ k, k < l.length → listed.getD k false = true) →
  Mid no nt bs l.length (barrier ops (Region.before ops)) (fun j k => ((Region.before ops).getD j 0).testBit k) (fun i => (l[i]?).bind (·.d)) TM MM NN VV tgt β0 w0 (fun k => listed.getD k false) β w a → Q .normal a w := by
  intro listed β w a hsz hall hI
  refine hQ β a w hI.ext ⟨hI.size, hI.defers, fun t => ?_⟩ (hI.mem _ fun b blk e => ⟨l.length, Nat.le_refl _, fun j hj _ => hall j hj, fun j hj _ _ => hj, ?_⟩) hI.frm
  rotate_left
  · by_cases hex : ∃ j, Wr l.length (barrier ops (Region.before ops)) tgt l.length b j
    · obtain ⟨j, hw, hmax⟩ := wr_last hex
      refine .inr (.inl ⟨j, hw, fun j' hw' => hall j' hw'.1, hmax, ?_⟩)
      obtain ⟨hj, ht, hs⟩ := hw
      have hb := hS.tlt' hj ht
      have hbx : ∀ y, j < y → y < l.length → barrier ops (Region.before ops) y = false := fun y h3 h4 => by
       cases e2 : barrier ops (Region.before ops) y with
       | false => rfl
       | true => exact absurd ⟨h3, h4⟩ (hs y e2).1
      refine hS.down hbq (Nat.lt_of_lt_of_le hb (hS.mono j hj)) l.length (by omega) (Nat.le_refl _) (fun x h1 h2 => ⟨hbx x (by omega) h2, fun e3 => ?_⟩) e
      have := hmax x ⟨h2, e3, fun y hy => ⟨(fun h5 => by rw [hbx y (by omega) h5.2] at hy; cases hy), fun h5 => by omega⟩⟩
      omega
    · exact .inr (.inr ⟨fun j hw => hex ⟨j, hw⟩, e⟩)
  have := hI.slots t
  rw [lv_eq (TM := TM) (len := l.length) rfl (fun i hi => ?_) (Nat.le_refl _) (fun k hk _ => hall k hk) (fun k hk hk' _ => by omega) _ (Nat.le_refl _) (Nat.le_refl _)] at this
  · exact this
  · have hg : l[i]? = some l[i] := List.getElem?_eq_getElem hi
    rw [hS.tm i _ hg]
    simp [hg]
 intro fuel
 induction fuel with
 | zero =>
   intro listed β w a hsz hc hI
   have hall : ∀ k, k < l.length → listed.getD k false = true := cnt_zero (Nat.le_zero.1 hc)
   refine ⟨?_, fin listed β w a hsz hall hI⟩
   apply List.eq_nil_iff_forall_not_mem.2
   intro j hj
   obtain ⟨h1, o, ho, _⟩ := mem_ready.1 hj
   have hjl : j < ops.size := (Array.getElem?_eq_some_iff.1 ho).1
   have := hall j (by omega)
   simp only [Array.getD_eq_getD_getElem?] at h1 this
   rw [Array.getElem?_eq_getElem (by omega)] at h1 this
   simp only [Option.getD_some] at h1 this
   rw [h1] at this; cases this
 | succ fuel ih =>
   intro listed β w a hsz hc hI
   refine ⟨fun hnil => fin listed β w a hsz ?_ hI, fun i hi => ?_⟩
   · intro k
     induction k using Nat.strongRecOn with
     | _ k ihk =>
       intro hk
       cases e : listed.getD k false with
       | true => rfl
       | false =>
         exfalso
         have hk' : k < ops.size := by omega
         have ho : ops[k]? = some ops[k] := Array.getElem?_eq_getElem hk'
         have : k ∈ Region.ready .any ops listed := by
          refine mem_ready.2 ⟨?_, _, ho, fun e' he' hb => ihk e'.on (edgesOk_at hed ho e' he' hb) (by have := edgesOk_at hed ho e' he' hb; omega)⟩
          simp only [Array.getD_eq_getD_getElem?] at e ⊢
          rw [Array.getElem?_eq_getElem (by omega)] at e ⊢
          simpa using e
         rw [hnil] at this; cases this
   · obtain ⟨h1, o, ho, hedge⟩ := mem_ready.1 hi
     have hil : i < ops.size := (Array.getElem?_eq_some_iff.1 ho).1
     have hil' : i < l.length := by omega
     obtain ⟨io, hio⟩ : ∃ io, l[i]? = some io := ⟨_, List.getElem?_eq_getElem hil'⟩
     have hci' := hci i o io ho hio
     obtain ⟨hg, hop, hd, hq, hdlt, hcall⟩ := cI_inv hci'
     have hLi : listed.getD i false = false := by
      simp only [Array.getD_eq_getD_getElem?] at h1 ⊢
      rw [Array.getElem?_eq_getElem (by omega)] at h1 ⊢
      simpa using h1
     let L : Nat → Bool := fun k => listed.getD k false
     let L' : Nat → Bool := fun k => (listed.setIfInBounds i true).getD k false
     let bef : Nat → Nat → Bool := fun j k => ((Region.before ops).getD j 0).testBit k
     let d : Nat → Option Nat := fun i => (l[i]?).bind (·.d)
     have hLi0 : L i = false := hLi
     have hcon : ∀ k, L k = true → L k = false → False := fun k h1 h2 => by rw [h1] at h2; cases h2
     have hcon' : ∀ k, L' k = true → L' k = false → False := fun k h1 h2 => by rw [h1] at h2; cases h2
     have hLi1 : L' i = true := by simp [L', hsz, hil]
     have hne : ∀ k, k ≠ i → L' k = L k := fun k hk => getD_set_ne false (Ne.symm hk)
     have hsub : ∀ k, L k = true → L' k = true := fun k hk => getD_set_true hk
     have hbef : ∀ k, bef i k = true → L k = true := by
      intro k hk
      obtain ⟨e, he, hb, h2⟩ := before_bit ho hk
      have hon := hedge e (by simpa using he) hb
      rcases h2 with h2 | ⟨h2, h3⟩
      · rw [← h2]; exact hon
      · exact hI.closed e.on k (by omega) hon h3
     have hafter : ∀ k, k < l.length → bef k i = true → L k = false := by
      intro k hk hb
      cases e : L k with
      | false => rfl
      | true =>
        exact (hcon i (hI.closed k i hk e hb) hLi0).elim
     have hdi : d i = io.d := by simp [d, hio]
     have hx : ∀ t, d i = some t → ∀ k, i < k → k < l.length → d k = some t → L k = false := by
      intro t h2 k hik hk h3
      obtain ⟨y, hy⟩ : ∃ y, l[k]? = some y := ⟨_, List.getElem?_eq_getElem hk⟩
      rw [hdi] at h2
      have h3' : y.d = some t := by simpa [d, hy] using h3
      rcases slotsOk_at hsl hio hy hik with h4 | h4
      · exact hafter k hk h4
      · exact absurd (by simp [IOp.names, h3']) (h4.1 t h2)
     have hlvi : ∀ t, t ∈ io.names → lv (TM 0) d VV L l.length t = TM i t := by
      intro t ht
      refine lv_eq (TM := TM) (len := l.length) rfl (fun j hj => ?_) (Nat.le_of_lt hil') (fun k hk h2 => ?_) (fun k hk hk' h2 => ?_) _ (Nat.le_of_lt hil') (Nat.le_refl _)
      · have hg : l[j]? = some l[j] := List.getElem?_eq_getElem hj
        rw [hS.tm j _ hg]; simp [d, hg]
      · obtain ⟨x, hxx⟩ : ∃ x, l[k]? = some x := ⟨_, List.getElem?_eq_getElem (by omega)⟩
        have h2' : x.d = some t := by simpa [d, hxx] using h2
        rcases slotsOk_at hsl hxx hio hk with h4 | h4
        · exact hbef k h4
        · exact absurd ht (h4.1 t h2')
      · by_cases e : k = i
        · subst e; exact hLi0
        · obtain ⟨y, hy⟩ : ∃ y, l[k]? = some y := ⟨_, List.getElem?_eq_getElem hk'⟩
          have h2' : y.d = some t := by simpa [d, hy] using h2
          rcases slotsOk_at hsl hio hy (by omega : i < k) with h4 | h4
          · exact hafter k hk' h4
          · exact absurd ht (h4.2 t h2')
     have hvt : ∀ t, t ∈ io.names → VRel no β (TM i t) (a.tmps.getD t undef) := fun t ht => by rw [← hlvi t ht]; exact hI.slots t
     have hwant := wanted_iff (nt := nt) (β := β) (tm := TM i) (a := a) hg fun g b e => hvt g (by simp [IOp.names, e])
     have hclosed' : ∀ j k, j < l.length → L' j = true → bef j k = true → L' k = true := by
      intro j k hj hLj hb
      by_cases e : j = i
      · subst e; exact hsub k (hbef k hb)
      · exact hsub k (hI.closed j k hj (by have h9 := hLj; rw [hne j e] at h9; exact h9) hb)
     have hcnt : cnt L' l.length ≤ fuel := by
      have h2 := cnt_add hLi0 hLi1 hne l.length
      rw [if_pos hil'] at h2
      have h3 : cnt L l.length ≤ fuel + 1 := hc
      omega
     have hsz' : (listed.setIfInBounds i true).size = ops.size := by simp [hsz]
     let bar : Nat → Bool := barrier ops (Region.before ops)
     have hord : ∀ i j b k, i < j → Wr l.length bar tgt k b i → Wr l.length bar tgt k b j → bef j i = true := by
      intro i j b k hij hwi hwj
      obtain ⟨io, hio⟩ : ∃ io, l[i]? = some io := ⟨_, List.getElem?_eq_getElem hwi.1⟩
      obtain ⟨jo, hjo⟩ : ∃ jo, l[j]? = some jo := ⟨_, List.getElem?_eq_getElem hwj.1⟩
      obtain ⟨h1, h2⟩ := hS.twice hbq hio hjo hij (fun x hx1 hx2 => by
       cases e : bar x with
       | false => exact e
       | true =>
         have := hwi.2.2 x e
         have := hwj.2.2 x e
         omega) hwi.2.1 hwj.2.1
      exact callsOk_at hco hio hjo hij h1 h2
     -- eligible places and operation i lie in one stretch
     have hbarL : ∀ x, bar x = true → x < l.length → x ≠ i → (L x = true ↔ x < i) := by
      intro x hx hxl hxi
      obtain ⟨h2, h3⟩ := barrier_at hx hil (Ne.symm hxi)
      constructor
      · intro h4
        rcases Nat.lt_or_ge x i with h5 | h5
        · exact h5
        · exact (hcon x h4 (hafter x hxl (h2 (by omega)))).elim
      · intro h4; exact hbef x (h3 h4)
     -- the step of the slots
     have slots' : ∀ (β2 : Inj) (rv : Value), Ext0 β β2 → VRel no β2 (VV i) rv → ∀ t, VRel no β2 (lv (TM 0) d VV L' l.length t) ((a.put o.dst rv).tmps.getD t undef) := by
      intro β2 rv hex hv t
      rw [lv_add hil' hLi0 hLi1 hne (hx t) l.length hil' (Nat.le_refl _)]
      have hF : FRel no nt β2 (lv (TM 0) d VV L l.length) a := ⟨hI.size, hI.defers, fun t => (hI.slots t).mono hex⟩
      have := (hF.put (d := io.d) (fun d' e => by rw [hd] at e; exact hdlt d' e) hv).slots t
      rw [put_at, ← hd] at *
      rw [hdi]
      exact this
     by_cases hbar : barrier ops (Region.before ops) i = true
     · -- an operation in order with all others
       have hlt : ∀ k, k < l.length → k ≠ i → (L k = true ↔ k < i) := by
        intro k hk hki
        obtain ⟨h2, h3⟩ := barrier_at hbar (by omega : k < ops.size) hki
        constructor
        · intro hL
          rcases Nat.lt_or_ge k i with h4 | h4
          · exact h4
          · exact (hcon k hL (hafter k hk (h3 (by omega)))).elim
        · intro h4; exact hbef k (h2 h4)
       have hdomi : ∀ b, β b ≠ none → b < NN i := by
        intro b hb
        rcases hI.dom b hb with h2 | ⟨k, hk, hLk, h2, h3⟩
        · exact Nat.lt_of_lt_of_le h2 (hmono i (Nat.zero_le _) (Nat.le_of_lt hil'))
        · have hki : k ≠ i := by intro e; subst e; exact hcon _ hLk hLi0
          have := (hlt k hk hki).1 hLk
          exact Nat.lt_of_lt_of_le h3 (hmono i (by omega) (Nat.le_of_lt hil'))
       have hti : tgt i = [] := by
        rcases hS.act i io hio with ⟨_, h, _⟩ | ⟨_, h, _⟩ | ⟨_, h, _⟩
        · exact h
        · exact h
        · rw [hq, hbar] at h; cases h
       have hMi : MRel no β (MM i) w := by
        refine hI.mem _ fun b blk e => ⟨i, Nat.le_of_lt hil', fun j hj _ => (hlt j (by omega) (by omega)).2 hj, fun j hj hLj _ => (hlt j hj (by intro e; subst e; exact hcon _ hLj hLi0)).1 hLj, ?_⟩
        have hwlt : ∀ j, Wr l.length bar tgt i b j → j < i := fun j hw => by
         rcases Nat.lt_or_ge j i with h2 | h2
         · exact h2
         · exact absurd ⟨Nat.le_refl _, h2⟩ (hw.2.2 i hbar).2
        by_cases hex : ∃ j, Wr l.length bar tgt i b j
        · obtain ⟨j, hw, hmax⟩ := wr_last hex
          refine .inr (.inl ⟨j, hw, fun j' hw' => (hlt j' hw'.1 (by have := hwlt j' hw'; omega)).2 (hwlt j' hw'), hmax, ?_⟩)
          have hji := hwlt j hw
          obtain ⟨hj, ht, hs⟩ := hw
          have hbx : ∀ y, j < y → y < i → bar y = false := fun y h3 h4 => by
           cases e2 : bar y with
           | false => rfl
           | true => exact absurd ⟨h3, h4⟩ (hs y e2).1
          refine hS.down hbq (Nat.lt_of_lt_of_le (hS.tlt' hj ht) (hS.mono j hj)) i (by omega) (by omega) (fun x h1 h2 => ⟨hbx x (by omega) h2, fun e3 => ?_⟩) e
          have := hmax x ⟨by omega, e3, fun y hy => ⟨(fun h5 => by rw [hbx y (by omega) h5.2] at hy; cases hy), fun h5 => by omega⟩⟩
          omega
        · exact .inr (.inr ⟨fun j hw => hex ⟨j, hw⟩, e⟩)
       have hexti : Ext β0 β (MM 0) bs (NN 0) (NN i) w0 := by
        refine ⟨hI.ext.old, fun b e => ?_, hI.ext.fresh⟩
        have h2 := (hI.ext.only b e).1
        refine ⟨h2, hdomi b fun e' => ?_⟩
        rw [e', hβ0 b h2] at e; exact e rfl
       have hBi : BLt β (NN i) := by
        intro b hb
        cases e : β b with
        | none => rfl
        | some L => have := hdomi b (by rw [e]; simp); omega
       -- what follows once the operation is done
       have go : ∀ (β1 : Inj) (w1 : World) (rv : Value), Ext β β1 (MM i) bs (NN i) (NN (i + 1)) w → VRel no β1 (VV i) rv → MRel no β1 (MM (i + 1)) w1 → Frm β (MM i) bs (NN i) w w1 → wpAny P .any ops Q fuel (listed.setIfInBounds i true) (a.put o.dst rv) w1 := by
        intro β1 w1 rv he hv hM1 hf
        have hB1 : BLt β1 (NN (i + 1)) := hBi.ext he (hS.mono i hil')
        refine ih _ β1 w1 _ hsz' hcnt ⟨?_, ?_, hclosed', ?_, ?_, ?_, ?_, ?_, slots' β1 rv he.old hv⟩
        · exact ((⟨hI.size, hI.defers, fun t => hI.slots t⟩ : FRel no nt β (lv (TM 0) d VV L l.length) a).mono he.old).put hdlt hv |>.size
        · exact ((⟨hI.size, hI.defers, fun t => hI.slots t⟩ : FRel no nt β (lv (TM 0) d VV L l.length) a).mono he.old).put hdlt hv |>.defers
        · intro b hb
          by_cases e : β1 b = β b
          · rw [e] at hb
            rcases hI.dom b hb with h2 | ⟨k, hk, hLk, h2, h3⟩
            · exact .inl h2
            · exact .inr ⟨k, hk, hsub k hLk, h2, h3⟩
          · obtain ⟨h2, h3⟩ := he.only b e
            exact .inr ⟨i, hil', hLi1, h2, h3⟩
        · have := hexti.trans he (hS.dom0 i (Nat.le_of_lt hil')) (hmono i (Nat.zero_le _) (Nat.le_of_lt hil')) (hS.mono i hil') hI.frm.size fun b hb _ => hβ0 b hb
          exact ⟨this.old, fun b e => ⟨(this.only b e).1, Nat.lt_of_lt_of_le (this.only b e).2 (hmono l.length (by omega) (Nat.le_refl _))⟩, this.fresh⟩
        · exact hI.frm.trans hexti hf (hS.dom0 i (Nat.le_of_lt hil')) fun b hb _ => hβ0 b hb
        · intro m' hm'
          refine hM1.ofDom fun b Lb blk e hb => ?_
          obtain ⟨k, hk, hk1, hk2, hAt⟩ := hm' b blk hb
          have hAt : At l.length bar tgt MM L' k b blk := hAt
          have hik : i < k := hk2 i hil' hLi1 hbar
          have hnb : ∀ j, i < j → j < k → bar j = false := by
           intro j h2 h3
           cases e : bar j with
           | false => rfl
           | true =>
             have h4 := hk1 j h3 e
             have h5 : L j = true := by rw [← hne j (by omega)]; exact h4
             have := (hlt j (by omega) (by omega)).1 h5
             omega
          have hbn : b < NN (i + 1) := by
           rcases Nat.lt_or_ge b (NN (i + 1)) with h2 | h2
           · exact h2
           · rw [hB1 b h2] at e; cases e
          have hwgt : ∀ j, Wr l.length bar tgt k b j → i < j ∧ L' j = false := fun j hw => by
           have hji : i < j := by
            rcases Nat.lt_trichotomy j i with h2 | h2 | h2
            · exact absurd ⟨h2, hik⟩ (hw.2.2 i hbar).1
            · subst h2; have := hw.2.1; rw [hti] at this; cases this
            · exact h2
           refine ⟨hji, ?_⟩
           cases e2 : L' j with
           | false => rfl
           | true =>
             have h5 : L j = true := by rw [← hne j (by omega)]; exact e2
             have := (hlt j hw.1 (by omega)).1 h5
             omega
          rcases hAt with ⟨j, hw, _, hpre, h6⟩ | ⟨j, hw, hdn, _⟩ | ⟨hnw, h6⟩
          · obtain ⟨hji, _⟩ := hwgt j hw
            obtain ⟨hj, ht, hs⟩ := hw
            have hbx : ∀ y, i < y → y < j → bar y = false := fun y h3 h4 => by
             cases e2 : bar y with
             | false => rfl
             | true =>
               rcases Nat.lt_or_ge y k with h5 | h5
               · rw [hnb y h3 h5] at e2; cases e2
               · exact absurd ⟨h5, by omega⟩ (hs y e2).2
            refine hS.down hbq hbn j (by omega) (by omega) (fun x h1 h2 => ⟨hbx x (by omega) h2, fun e3 => ?_⟩) h6
            have hwx : Wr l.length bar tgt k b x := ⟨by omega, e3, fun y hy => by
             have := hs y hy
             refine ⟨fun h5 => ?_, fun h5 => ?_⟩
             · rcases Nat.lt_or_ge y j with h7 | h7
               · rw [hbx y (by omega) h7] at hy; cases hy
               · by_cases h8 : y = j
                 · subst h8; obtain ⟨jo, hjo⟩ : ∃ jo, l[y]? = some jo := ⟨_, List.getElem?_eq_getElem hj⟩
                   have h9 := (hS.hv hjo ht).2.1
                   rw [hbq y jo hjo] at h9; have h10 : bar y = true := hy; rw [show barrier ops (Region.before ops) y = true from h10] at h9; cases h9
                 · exact this.1 ⟨by omega, h5.2⟩
             · rw [hbx y (by omega) (by omega)] at hy; cases hy⟩
            have := hpre x hwx h2
            rw [(hwgt x hwx).2] at this; cases this
          · have := hdn j hw
            rw [(hwgt j hw).2] at this; cases this
          · refine hS.down hbq hbn k (by omega) hk (fun x h1 h2 => ⟨hnb x (by omega) h2, fun e3 => hnw x ⟨by omega, e3, fun y hy => ⟨fun h3 => ?_, fun h3 => by omega⟩⟩⟩) h6
            have := hnb y (by omega) h3.2
            rw [this] at hy; cases hy
        · intro j b hj hLj ht
          have hji : j ≠ i := by intro e; subst e; rw [hti] at ht; cases ht
          have := hI.sdv j b hj (by show L j = true; rw [← hne j hji]; exact hLj) ht
          cases e : β b with
          | none => exact absurd e this
          | some Lb => rw [he.old b Lb e]; simp
       unfold wpOp
       rw [ho]
       rcases hS.act i io hio with ⟨⟨g, b, hgd, hsk⟩, _, hv0, hm0, hn0⟩ | ⟨hgd, _, mi, mi', hopS, hQt⟩ | ⟨_, hq2, _⟩
       rotate_right
       · rw [hq, hbar] at hq2; cases hq2
       · have hwn := hwant.2.2 g b hgd hsk
         simp only []
         rw [if_neg (by rw [hwn]; decide)]
         refine go β w undef (Ext.refl ..) ?_ (by rw [hm0]; exact hMi) (Frm.refl ..)
         rw [hv0]; exact VRel.tuple rfl fun i x y hx => by simp at hx
       · have hwn : Region.wanted o (yielded ops a.tmps) = true := by
          cases e : io.g with
          | none => exact hwant.1 e
          | some p => obtain ⟨g, b⟩ := p; exact hwant.2.1 g b e (hgd g b e)
         simp only []
         rw [if_pos hwn]
         obtain ⟨rfl, hmm⟩ := hQt.1 (by rw [hq, hbar]; rfl)
         subst hmm
         rw [hq, hbar] at hopS
         refine .inl (hopS nt o β w a _ Q hop hcall hBi ⟨hI.size, hI.defers, fun t ht => hvt t (by simp [IOp.names, ht])⟩ hMi ?_)
         intro rv β1 w1 he hv hM1 hf
         exact go β1 w1 rv he hv hM1 hf
     · -- an operation that touches nothing of what was there
       have hbar' : barrier ops (Region.before ops) i = false := by simpa using hbar
       have hel1 : ∀ j, j < i → bar j = true → L j = true := fun j hj hb => (hbarL j hb (by omega) (by omega)).2 hj
       have hel2 : ∀ j, j < l.length → L j = true → bar j = true → j < i := fun j hj hLj hb => by
        have hji : j ≠ i := by intro e; subst e; have h9 : bar j = false := hbar'; rw [h9] at hb; cases hb
        exact (hbarL j hb hj hji).1 hLj
       have hbars : ∀ k, (∀ j, j < k → bar j = true → L' j = true) → (∀ j, j < l.length → L' j = true → bar j = true → j < k) →
        (∀ j, j < k → bar j = true → L j = true) ∧ ∀ j, j < l.length → L j = true → bar j = true → j < k := by
        intro k h2 h3
        refine ⟨fun j hj hb => ?_, fun j hj hLj hb => h3 j hj (hsub j hLj) hb⟩
        have hji : j ≠ i := by intro e; subst e; have h9 : bar j = false := hbar'; rw [h9] at hb; cases hb
        rw [← hne j hji]; exact h2 j hj hb
       -- no barrier lies between i and an eligible place
       have hbi : ∀ k, k ≤ l.length → (∀ j, j < k → bar j = true → L j = true) → (∀ j, j < l.length → L j = true → bar j = true → j < k) → SameSeg bar i k := by
        intro k hk h2 h3 x hxb
        have hxi : x ≠ i := by intro e; subst e; have h9 : bar x = false := hbar'; rw [h9] at hxb; cases hxb
        refine ⟨fun h4 => ?_, fun h4 => ?_⟩
        · have := (hbarL x hxb (by omega) hxi).1 (h2 x h4.2 hxb); omega
        · have := h3 x (by omega) ((hbarL x hxb (by omega) hxi).2 (by omega)) hxb; omega
       have hquiet : ∀ {b j k : Nat} (x : Nat), i < j → i + 1 ≤ x → x < j → SameSeg bar i k → Wr l.length bar tgt k b j → (Wr l.length bar tgt k b x → False) → bar x = false ∧ b ∉ tgt x := by
        intro b j k x hij h1 h2 hsi hw hno
        have hbx : ∀ y, i < y → y < j → bar y = false := fun y h3 h4 => by
         cases e2 : bar y with
         | false => rfl
         | true =>
           have := hsi y e2
           have := hw.2.2 y e2
           omega
        refine ⟨hbx x (by omega) h2, fun e3 => hno ⟨by have := hw.1; omega, e3, fun y hy => ?_⟩⟩
        have h5 := hsi y hy
        have h6 := hw.2.2 y hy
        have h7 : ¬ (i < y ∧ y < j) := fun h8 => by rw [hbx y h8.1 h8.2] at hy; cases hy
        omega
       have hhv := hS.act i io hio
       rw [← or_assoc] at hhv
       rcases hhv with hact | ⟨hgd, hq1, hTX, mh, mh', hopS, hv⟩
       rotate_left
       · -- a step that writes rows that were put aside
         have hwn : Region.wanted o (yielded ops a.tmps) = true := by
          cases e : io.g with
          | none => exact hwant.1 e
          | some p => obtain ⟨g, b⟩ := p; exact hwant.2.1 g b e (hgd g b e)
         unfold wpOp
         rw [ho]
         simp only []
         rw [if_pos hwn]
         have hsii : SameSeg bar i i := fun x hxb => ⟨fun h4 => by omega, fun h4 => by
          have h5 : x = i := by omega
          rw [h5] at hxb; have h9 : bar i = false := hbar'; rw [h9] at hxb; cases hxb⟩
         have hbetw : ∀ {j k : Nat}, SameSeg bar i k → SameSeg bar j k → ∀ x, bar x = true → ¬ (i < x ∧ x < j) ∧ ¬ (j < x ∧ x < i) := by
          intro j k h2 h3 x hxb
          have := h2 x hxb
          have := h3 x hxb
          omega
         -- rows that the step reads only are no target of this stretch
         have hnt : ∀ b x, mh b = some x → b ∉ tgt i → ∀ j k, SameSeg bar i k → ¬ Wr l.length bar tgt k b j := by
          intro b x hbx hbT j k hsi hw
          obtain ⟨hj, ht, hsj⟩ := hw
          obtain ⟨jo, hjo⟩ : ∃ jo, l[j]? = some jo := ⟨_, List.getElem?_eq_getElem hj⟩
          obtain ⟨_, hjq', _, mhj, mhj', _, hvj⟩ := hS.hv hjo ht
          have hHj := (hvj.tgt b ht).1
          have hjq : bar j = false := by
           have := hbq j jo hjo
           rw [hjq'] at this
           simpa using this.symm
          have hno : ¬ HH i b := (hv.hid b x hbx).resolve_left hbT
          have hbw := hbetw hsi hsj
          rcases Nat.lt_trichotomy j i with h2 | h2 | h2
          · refine hno ((hS.segs hbq i (by omega) (by omega) fun x h3 h4 => ?_).1 b hHj)
            by_cases hxj : x = j
            · subst hxj; exact hjq
            · cases e2 : bar x with
              | false => exact e2
              | true => exact absurd ⟨by omega, h4⟩ (hbw x e2).2
          · subst h2; exact hbT ht
          · rcases (hS.segs hbq (i := i) j (by omega) (by omega) fun x h3 h4 => by
             by_cases hxi : x = i
             · subst hxi; exact hbar'
             · cases e2 : bar x with
               | false => exact e2
               | true => exact absurd ⟨by omega, h4⟩ (hbw x e2).1).2.1 b hHj with h3 | h3
            · exact hno h3
            · have := (hS.mlt i (Nat.le_of_lt hil') b x (hv.sub b x hbx)).1; omega
         have hplc : ∀ b blk, mh b = some blk → Plc l.length bar tgt MM L b blk := by
          intro b blk e
          refine ⟨i, Nat.le_of_lt hil', hel1, hel2, ?_⟩
          by_cases hbT : b ∈ tgt i
          · exact .inl ⟨i, ⟨hil', hbT, hsii⟩, hLi0, fun j' hw' hlt => hbef j' (hord j' i b i hlt hw' ⟨hil', hbT, hsii⟩), hv.sub b blk e⟩
          · exact .inr (.inr ⟨fun j => hnt b blk e hbT j i hsii, hv.sub b blk e⟩)
         have hMh : MRel no β mh w := hI.mem mh hplc
         have hcb : BLt (cut β (NN i)) (NN i) := fun b hb => by simp only [cut]; rw [if_neg (by omega)]
         have hTi := hS.tlt i (Nat.le_of_lt hil')
         have hmi := hS.mlt i (Nat.le_of_lt hil')
         have hMl : MLt mh (NN i) := hmi.sub fun b x e => hv.sub b x e
         refine .inl (hopS nt o (cut β (NN i)) w a _ Q hop hcall hcb ⟨hI.size, hI.defers, fun t ht => (hvt t (by simp [IOp.names, ht])).cut (hTi t)⟩ (hMh.cut hMl) ?_)
         intro rv β1 w1 he hvr hM1 hf
         have cutb : ∀ b Lb, cut β (NN i) b = some Lb → β b = some Lb ∧ b < NN i := by
          intro b Lb e
          simp only [cut] at e
          split at e
          · exact ⟨e, by assumption⟩
          · cases e
         have hnone : ∀ b, NN i ≤ b → b < NN (i + 1) → β b = none := by
          intro b h2 h3
          cases e : β b with
          | none => rfl
          | some Lb =>
            rcases hI.dom b (by rw [e]; simp) with h4 | ⟨k, hk, hLk, h4, h5⟩
            · have := hmono i (Nat.zero_le _) (Nat.le_of_lt hil'); omega
            · have hki : k ≠ i := by intro e; subst e; exact hcon _ hLk hLi0
              rcases Nat.lt_or_ge k i with h6 | h6
              · have := @hmono (k + 1) i (by omega) (Nat.le_of_lt hil'); omega
              · have := @hmono (i + 1) k (by omega) (Nat.le_of_lt hk); omega
         let β2 : Inj := fun b => if NN i ≤ b ∧ b < NN (i + 1) then β1 b else β b
         have ex : Ext0 β β2 := by
          intro b Lb e
          simp only [β2]
          split
          · rename_i h2; rw [hnone b h2.1 h2.2] at e; cases e
          · exact e
         have ex1 : Ext0 β1 β2 := by
          intro b Lb e
          simp only [β2]
          split
          · exact e
          · rename_i h2
            have h3 : β1 b = cut β (NN i) b := by
             by_cases e3 : β1 b = cut β (NN i) b
             · exact e3
             · exact absurd (he.only b e3) h2
            rw [e] at h3
            exact (cutb b Lb h3.symm).1
         have hTlt : ∀ b, b ∈ tgt i → b < NN i := fun b hb => (hv.tgt b hb).2.2.1
         -- behind the step a row that it wrote is as it left it
         have hwT : ∀ b blk k, b ∈ tgt i → SameSeg bar i k → At l.length bar tgt MM L' k b blk → MM (i + 1) b = some blk := by
          intro b blk k hbT hsi hAt
          have hwi : Wr l.length bar tgt k b i := ⟨hil', hbT, hsi⟩
          have hafter' : ∀ j, Wr l.length bar tgt k b j → i < j → L' j = false := fun j hw hij => by
           cases e2 : L' j with
           | false => rfl
           | true =>
             have h5 : L j = true := by rw [← hne j (by omega)]; exact e2
             exact (hcon i (hI.closed j i hw.1 h5 (hord i j b k hij hwi hw)) hLi0).elim
          rcases hAt with ⟨j, hw, hLj, hpre, h6⟩ | ⟨j, hw, hdn, hmax, h6⟩ | ⟨hnw, _⟩
          · have hij : i < j := by
             rcases Nat.lt_trichotomy i j with h8 | h8 | h8
             · exact h8
             · subst h8; exact (hcon' _ hLi1 hLj).elim
             · have := hsub j (hbef j (hord j i b k h8 hw hwi))
               exact (hcon' j this hLj).elim
            refine hS.down hbq (Nat.lt_of_lt_of_le (hTlt b hbT) (hS.mono i hil')) j (by omega) (by have := hw.1; omega) (fun x h1 h2 => hquiet x hij h1 h2 hsi hw fun hwx => ?_) h6
            exact hcon' x (hpre x hwx h2) (hafter' x hwx (by omega))
          · have h7 := hmax i hwi
            have : j = i := by
             rcases Nat.lt_or_ge i j with h8 | h8
             · exact (hcon' j (hdn j hw) (hafter' j hw h8)).elim
             · omega
            subst this; exact h6
          · exact (hnw i hwi).elim
         -- of which rows of the model's nothing may have changed
         have hext0 : ∀ b L0, cut β (NN i) b = some L0 → Own mh b → bs ≤ b → w0.heap.size ≤ L0.B ∨ ∃ b1 L1, β0 b1 = some L1 ∧ Own (MM 0) b1 ∧ bs ≤ b1 ∧ b1 < NN 0 ∧ L1.B = L0.B := by
          intro b L0 e ho1 hbs
          obtain ⟨e1, hlt⟩ := cutb b L0 e
          cases e0 : β0 b with
          | some L00 =>
            have h2 := hI.ext.old b L00 e0
            rw [e1] at h2; cases h2
            have h3 : b < NN 0 := by
             rcases Nat.lt_or_ge b (NN 0) with h3 | h3
             · exact h3
             · rw [hβ0 b h3] at e0; cases e0
            obtain ⟨x, hx1, hx2⟩ := ho1
            exact .inr ⟨b, L0, e0, hS.dom0 i (Nat.le_of_lt hil') b h3 ⟨x, hv.sub b x hx1, hx2⟩, hbs, h3, rfl⟩
          | none => exact hI.ext.fresh b L0 e1 e0
         refine ih _ β2 w1 _ hsz' hcnt ⟨?_, ?_, hclosed', ?_, ?_, ?_, ?_, ?_, slots' β2 rv ex (hvr.mono ex1)⟩
         · exact ((⟨hI.size, hI.defers, fun t => hI.slots t⟩ : FRel no nt β (lv (TM 0) d VV L l.length) a).mono ex).put hdlt (hvr.mono ex1) |>.size
         · exact ((⟨hI.size, hI.defers, fun t => hI.slots t⟩ : FRel no nt β (lv (TM 0) d VV L l.length) a).mono ex).put hdlt (hvr.mono ex1) |>.defers
         · intro b hb
           by_cases h2 : NN i ≤ b ∧ b < NN (i + 1)
           · exact .inr ⟨i, hil', hLi1, h2.1, h2.2⟩
           · simp only [β2] at hb
             rw [if_neg h2] at hb
             rcases hI.dom b hb with h2 | ⟨k, hk, hLk, h2, h3⟩
             · exact .inl h2
             · exact .inr ⟨k, hk, hsub k hLk, h2, h3⟩
         · refine ⟨fun b Lb e => ex b Lb (hI.ext.old b Lb e), fun b e => ?_, fun b Lb e e0 => ?_⟩
           · by_cases h2 : NN i ≤ b ∧ b < NN (i + 1)
             · have h3 := hmono i (Nat.zero_le _) (Nat.le_of_lt hil')
               have h4 := @hmono (i + 1) l.length (by omega) (Nat.le_refl _)
               omega
             · simp only [β2] at e
               rw [if_neg h2] at e
               exact hI.ext.only b e
           · by_cases h2 : NN i ≤ b ∧ b < NN (i + 1)
             · simp only [β2] at e
               rw [if_pos h2] at e
               rcases he.fresh b Lb e (by simp only [cut]; rw [if_neg (by omega)]) with h4 | ⟨b0, L0, h5, h6, h7, h8, h9⟩
               · have := hI.frm.size
                 exact .inl (by omega)
               · rcases hext0 b0 L0 h5 h6 h7 with h10 | ⟨b1, L1, q1, q2, q3, q4, q5⟩
                 · exact .inl (by omega)
                 · exact .inr ⟨b1, L1, q1, q2, q3, q4, by omega⟩
             · simp only [β2] at e
               rw [if_neg h2] at e
               exact hI.ext.fresh b Lb e e0
         · have h2 := hI.frm
           refine ⟨hf.os.trans h2.os, hf.tape.trans h2.tape, hf.output.trans h2.output, Nat.le_trans h2.size hf.size, fun B hB hne' => ?_⟩
           rw [hf.block B (Nat.lt_of_lt_of_le hB h2.size) ?_, h2.block B hB hne']
           intro b L0 e ho1 hbs hlt heq
           rcases hext0 b L0 e ho1 hbs with h10 | ⟨b1, L1, q1, q2, q3, q4, q5⟩
           · omega
           · exact hne' b1 L1 q1 q2 q3 q4 (by omega)
         · intro m' hm'
           let M0 : Mem := mrg mh fun b => if (β b).isSome then m' b else none
           have hM0 : MRel no β M0 w := by
            refine hI.mem M0 fun b blk e => ?_
            rcases mrg_inv e with e | ⟨e0, e⟩
            · exact hplc b blk e
            · split at e
              · obtain ⟨k, hk, hk1, hk2, hAt⟩ := hm' b blk e
                obtain ⟨h2, h3⟩ := hbars k hk1 hk2
                refine ⟨k, hk, h2, h3, hAt.less (fun j hw => ?_)⟩
                refine (hne j ?_).symm
                intro e1; subst e1
                obtain ⟨x, hx⟩ := (hv.tgt b hw.2.1).2.2.2.1
                rw [hx] at e0; cases e0
              · cases e
           have hM0h : ∀ b x, mh b = some x → M0 b = some x := fun b x e => mrg_some e
           refine MRel.glue2 hM0 hM1 hf.size ex ex1 (fun b Lb e => ?_) (fun b => mh b = none ∧ β b ≠ none) (fun b blk Lb hb e => ?_) (fun b blk Lb b0 blk0 L0 hmb hb e hnF hF0 hb0 e0 hoo => ?_)
           · simp only [β2] at e
             split at e
             · exact .inr e
             · exact .inl e
           · obtain ⟨k, hk, hk1, hk2, hAt⟩ := hm' b blk hb
             have hAt : At l.length bar tgt MM L' k b blk := hAt
             obtain ⟨h2, h3⟩ := hbars k hk1 hk2
             have hsi := hbi k hk h2 h3
             by_cases hnew : NN i ≤ b ∧ b < NN (i + 1)
             · -- a row that the step made
               simp only [β2] at e
               rw [if_pos hnew] at e
               refine .inl ⟨?_, e, fun hF => hF.2 (hnone b hnew.1 hnew.2)⟩
               have key : MM (i + 1) b = some blk → mh' b = some blk := fun e => by
                rcases hv.out b blk e with ⟨h6, _⟩ | ⟨_, h6⟩ | ⟨_, h6⟩
                · omega
                · exact h6
                · exact h6
               apply key
               have hnoi : b ∉ tgt i := fun ht => by have := hTlt b ht; omega
               have hnoL : ∀ j, Wr l.length bar tgt k b j → j ≠ i → L' j = true → False := fun j hw hji e2 =>
                absurd (hnone b hnew.1 hnew.2) (hI.sdv j b hw.1 (by show L j = true; rw [← hne j hji]; exact e2) hw.2.1)
               rcases hAt with ⟨j, hw, hLj, hpre, h6⟩ | ⟨j, hw, hdn, _⟩ | ⟨hnw, h6⟩
               · have h7 := hS.tlt' hw.1 hw.2.1
                 have hij : i < j := by
                  rcases Nat.lt_or_ge i j with h8 | h8
                  · exact h8
                  · have := hmono i h8 (Nat.le_of_lt hil'); omega
                 refine hS.down hbq hnew.2 j (by omega) (by have := hw.1; omega) (fun x h1 h2 => hquiet x hij h1 h2 hsi hw fun hwx => ?_) h6
                 have := hpre x hwx h2
                 exact hnoL x hwx (by omega) this
               · exact (hnoL j hw (by intro e; subst e; exact hnoi hw.2.1) (hdn j hw)).elim
               · rcases Nat.lt_or_ge i k with h7 | h7
                 · have hbx : ∀ y, i < y → y < k → bar y = false := fun y h8 h9 => by
                    cases e2 : bar y with
                    | false => rfl
                    | true => exact absurd ⟨h8, h9⟩ (hsi y e2).1
                   refine hS.down hbq hnew.2 k (by omega) hk (fun x h1 h2 => ⟨hbx x (by omega) h2, fun e3 => hnw x ⟨by omega, e3, fun y hy => ⟨fun h8 => ?_, fun h8 => by omega⟩⟩⟩) h6
                   rw [hbx y (by omega) h8.2] at hy; cases hy
                 · have h8 := (hS.mlt k hk b blk h6).1
                   have := @hmono k i h7 (Nat.le_of_lt hil')
                   omega
             · simp only [β2] at e
               rw [if_neg hnew] at e
               have hβ1 : b < NN i → β1 b = some Lb := fun h4 => he.old b Lb (by simp only [cut]; rw [if_pos h4]; exact e)
               by_cases hbT : b ∈ tgt i
               · -- a row that the step was to write
                 have hlt := hTlt b hbT
                 have hwi : Wr l.length bar tgt k b i := ⟨hil', hbT, hsi⟩
                 have h6 : MM (i + 1) b = some blk := hwT b blk k hbT hsi hAt
                 obtain ⟨x, hx⟩ := (hv.tgt b hbT).2.2.2.1
                 refine .inl ⟨?_, hβ1 hlt, fun hF => by rw [hF.1] at hx; cases hx⟩
                 rcases hv.out b blk h6 with ⟨_, h7, _⟩ | ⟨_, h7⟩ | ⟨_, h7⟩
                 · exact absurd hbT h7
                 · exact h7
                 · exact h7
               · cases hmb : mh b with
                 | some x =>
                   -- a row that the step reads
                   have hlt : b < NN i := (hMl b x hmb).1
                   refine .inl ⟨?_, hβ1 hlt, fun hF => nomatch hF.1⟩
                   have hnw : ∀ j, ¬ Wr l.length bar tgt k b j := fun j => hnt b x hmb hbT j k hsi
                   have h6 : MM k b = some blk := by
                    rcases hAt with ⟨j, hw, _⟩ | ⟨j, hw, _⟩ | ⟨_, h6⟩
                    · exact (hnw j hw).elim
                    · exact (hnw j hw).elim
                    · exact h6
                   have hx := hv.sub b x hmb
                   have hnj : ∀ j, j < l.length → b ∈ tgt j → ¬ SameSeg bar j k := fun j hj ht hs => hnw j ⟨hj, ht, hs⟩
                   have hxe : x = blk := by
                    rcases Nat.lt_or_ge i k with h7 | h7
                    · have hbx : ∀ y, i ≤ y → y < k → bar y = false := fun y h8 h9 => by
                       by_cases hy : y = i
                       · subst hy; exact hbar'
                       · cases e2 : bar y with
                         | false => rfl
                         | true => exact absurd ⟨by omega, h9⟩ (hsi y e2).1
                      have h8 := hS.down hbq hlt k (by omega) hk (fun y h1 h2 => ⟨hbx y h1 h2, fun e3 => hnj y (by omega) e3 fun z hz => ⟨fun h8 => ?_, fun h8 => by omega⟩⟩) h6
                      · rw [hx] at h8; cases h8; rfl
                      · rw [hbx z (by omega) h8.2] at hz; cases hz
                    · have hlk : b < NN k := (hS.mlt k hk b blk h6).1
                      have hbx : ∀ y, k ≤ y → y < i → bar y = false := fun y h8 h9 => by
                       cases e2 : bar y with
                       | false => rfl
                       | true => exact absurd ⟨h8, by omega⟩ (hsi y e2).2
                      have h8 := hS.down hbq hlk i (by omega) (by omega) (fun y h1 h2 => ⟨hbx y h1 h2, fun e3 => hnj y (by omega) e3 fun z hz => ⟨fun h8 => by omega, fun h8 => ?_⟩⟩) hx
                      · rw [h6] at h8; cases h8; rfl
                      · rw [hbx z (by omega) (by omega)] at hz; cases hz
                   rw [← hxe]; exact hv.keep b x hmb hbT
                 | none =>
                   -- a row that the step does not know of
                   have hm0 : M0 b = some blk := by
                    show mrg mh _ b = some blk
                    rw [mrg_none hmb, if_pos (by rw [e]; rfl)]; exact hb
                   refine .inr ⟨⟨rfl, by rw [e]; simp⟩, hm0, e, ?_⟩
                   refine hf.block Lb.B (hM0.bound b Lb e) fun b1 L1 q1 q2 q3 q4 => ?_
                   obtain ⟨x, hx1, hx2⟩ := q2
                   exact hM0.apart b1 b x blk L1 Lb (hM0h b1 x hx1) hx2 (cutb b1 L1 q1).1 hm0 e (fun e1 => by subst e1; rw [hmb] at hx1; cases hx1)
           · -- rows that the step knew of lie apart from those that it did not
             have hne0 : ∀ b1 x, mh b1 = some x → b1 ≠ b0 := fun b1 x hx e1 => by subst e1; rw [hF0.1] at hx; cases hx
             by_cases hnew : NN i ≤ b ∧ b < NN (i + 1)
             · rcases he.fresh b Lb e (by simp only [cut]; rw [if_neg (by omega)]) with h4 | ⟨b1, L1, h5, ⟨x, h6, h6'⟩, h7, h8, h9⟩
               · have := hM0.bound b0 L0 e0; omega
               · have := hM0.apart b1 b0 x blk0 L1 L0 (hM0h b1 x h6) h6' (cutb b1 L1 h5).1 hb0 e0 (hne0 b1 x h6)
                 omega
             · have h3 : β1 b = cut β (NN i) b := by
                by_cases e3 : β1 b = cut β (NN i) b
                · exact e3
                · exact absurd (he.only b e3) hnew
               rw [e] at h3
               obtain ⟨h4, hlt⟩ := cutb b Lb h3.symm
               obtain ⟨x, hx⟩ : ∃ x, mh b = some x := by
                cases e1 : mh b with
                | some x => exact ⟨x, rfl⟩
                | none => exact absurd ⟨e1, by rw [h4]; simp⟩ hnF
               rcases hoo with ho1 | ho1
               · refine hM0.apart b b0 x blk0 Lb L0 (hM0h b x hx) ?_ h4 hb0 e0 (hne0 b x hx)
                 by_cases hbT : b ∈ tgt i
                 · obtain ⟨k, hk, hk1, hk2, hAt⟩ := hm' b blk hmb
                   have hAt : At l.length bar tgt MM L' k b blk := hAt
                   obtain ⟨h2, h3⟩ := hbars k hk1 hk2
                   have h6 : MM (i + 1) b = some blk := hwT b blk k hbT (hbi k hk h2 h3) hAt
                   obtain ⟨y, hy1, hy2⟩ := hv.own b hlt ⟨blk, h6, ho1⟩
                   rw [hv.sub b x hx] at hy1; cases hy1; exact hy2
                 · have := hv.keep b x hx hbT
                   rw [hb] at this; cases this; exact ho1
               · exact (hM0.apart b0 b blk0 x L0 Lb hb0 ho1 e0 (hM0h b x hx) h4 (Ne.symm (hne0 b x hx))).symm
         · intro j b hj hLj ht
           by_cases hji : j = i
           · subst hji
             obtain ⟨_, _, _, _, s, ad, hs, hab, hsp, hlead⟩ := hv.tgt b ht
             have hvs := hvt s (by simp [IOp.names, hs])
             have : ∃ Lb, β b = some Lb := by
              obtain ⟨ab, ao, asp⟩ := ad
              simp only at hab hsp
              subst hab hsp
              rcases hlead with hl | ⟨ln, cp, hl⟩
              · rw [hl] at hvs
                generalize a.tmps.getD s undef = r at hvs
                cases hvs with | ptr e => exact ⟨_, e⟩
              · rw [hl] at hvs
                generalize a.tmps.getD s undef = r at hvs
                cases hvs with | slice e _ _ => exact ⟨_, e⟩
             obtain ⟨Lb, e⟩ := this
             rw [ex b Lb e]; simp
           · have := hI.sdv j b hj (by show L j = true; rw [← hne j hji]; exact hLj) ht
             cases e : β b with
             | none => exact absurd e this
             | some Lb => rw [ex b Lb e]; simp
       have hti : tgt i = [] := by rcases hact with ⟨_, h, _⟩ | ⟨_, h, _⟩ <;> exact h
       have hAtL : ∀ k b blk, At l.length bar tgt MM L' k b blk → At l.length bar tgt MM L k b blk := by
        intro k b blk hAt
        exact hAt.less fun j hw => (hne j (by intro e; subst e; have := hw.2.1; rw [hti] at this; cases this)).symm
       have hPlc : ∀ b blk, Plc l.length bar tgt MM L' b blk → Plc l.length bar tgt MM L b blk := by
        rintro b blk ⟨k, hk, hk1, hk2, hAt⟩
        obtain ⟨h2, h3⟩ := hbars k hk1 hk2
        exact ⟨k, hk, h2, h3, hAtL k b blk hAt⟩
       have hsdv' : ∀ (β2 : Inj), Ext0 β β2 → ∀ j b, j < l.length → L' j = true → b ∈ tgt j → β2 b ≠ none := by
        intro β2 hex j b hj hLj ht
        have hji : j ≠ i := by intro e; subst e; rw [hti] at ht; cases ht
        have := hI.sdv j b hj (by show L j = true; rw [← hne j hji]; exact hLj) ht
        cases e : β b with
        | none => exact absurd e this
        | some Lb => rw [hex b Lb e]; simp
       unfold wpOp
       rw [ho]
       rcases hact with ⟨⟨g, b, hgd, hsk⟩, _, hv0, hm0, hn0⟩ | ⟨hgd, _, mi, mi', hopS, hQt⟩
       · have hwn := hwant.2.2 g b hgd hsk
         simp only []
         rw [if_neg (by rw [hwn]; decide)]
         have hvu : VRel no β (VV i) undef := by rw [hv0]; exact VRel.tuple rfl fun i x y hx => by simp at hx
         refine ih _ β w _ hsz' hcnt ⟨?_, ?_, hclosed', ?_, hI.ext, hI.frm, ?_, hsdv' β (fun _ _ h => h), slots' β undef (fun _ _ h => h) hvu⟩
         · exact ((⟨hI.size, hI.defers, fun t => hI.slots t⟩ : FRel no nt β (lv (TM 0) d VV L l.length) a)).put hdlt hvu |>.size
         · exact ((⟨hI.size, hI.defers, fun t => hI.slots t⟩ : FRel no nt β (lv (TM 0) d VV L l.length) a)).put hdlt hvu |>.defers
         · intro b hb
           rcases hI.dom b hb with h2 | ⟨k, hk, hLk, h2, h3⟩
           · exact .inl h2
           · exact .inr ⟨k, hk, hsub k hLk, h2, h3⟩
         · intro m' hm'
           exact hI.mem m' fun b blk e => hPlc b blk (hm' b blk e)
       · have hwn : Region.wanted o (yielded ops a.tmps) = true := by
          cases e : io.g with
          | none => exact hwant.1 e
          | some p => obtain ⟨g, b⟩ := p; exact hwant.2.1 g b e (hgd g b e)
         simp only []
         rw [if_pos hwn]
         obtain ⟨hQ1, hQ2⟩ := hQt.2.1 (by rw [hq, hbar']; rfl)
         rw [hq, hbar'] at hopS
         have hMi : MRel no β mi w := by
          refine hI.mem _ fun b blk e => ⟨i, Nat.le_of_lt hil', hel1, hel2, .inr (.inr ⟨fun j hw => ?_, (hQ1 b blk e).1⟩)⟩
          obtain ⟨hj, ht, hs⟩ := hw
          obtain ⟨jo, hjo⟩ : ∃ jo, l[j]? = some jo := ⟨_, List.getElem?_eq_getElem hj⟩
          obtain ⟨_, hjq', _, mhj, mhj', _, hvj⟩ := hS.hv hjo ht
          have hHj := (hvj.tgt b ht).1
          rcases Nat.lt_trichotomy j i with h2 | h2 | h2
          · have hjq : bar j = false := by
             have := hbq j jo hjo
             rw [hjq'] at this
             simpa using this.symm
            refine (hQ1 b blk e).2 ((hS.segs hbq i (by omega) (by omega) fun x h3 h4 => ?_).1 b hHj)
            by_cases hxj : x = j
            · subst hxj; exact hjq
            · cases e2 : bar x with
              | false => exact e2
              | true => exact absurd ⟨Nat.lt_of_le_of_ne h3 (Ne.symm hxj), h4⟩ (hs x e2).1
          · subst h2; rw [hti] at ht; cases ht
          · rcases (hS.segs hbq (i := i) j (by omega) (by omega) fun x h3 h4 => by
             cases e2 : bar x with
             | false => exact e2
             | true => exact absurd ⟨h3, Nat.le_of_lt h4⟩ (hs x e2).2).2.1 b hHj with h3 | h3
            · exact (hQ1 b blk e).2 h3
            · have := (hS.mlt i (Nat.le_of_lt hil') b blk (hQ1 b blk e).1).1; omega
         have hcb : BLt (cut β (NN i)) (NN i) := fun b hb => by simp only [cut]; rw [if_neg (by omega)]
         have hTi := hS.tlt i (Nat.le_of_lt hil')
         have hMl : MLt mi (NN i) := (hS.mlt i (Nat.le_of_lt hil')).sub fun b x e => (hQ1 b x e).1
         refine .inl (hopS nt o (cut β (NN i)) w a _ Q hop hcall hcb ⟨hI.size, hI.defers, fun t ht => (hvt t (by simp [IOp.names, ht])).cut (hTi t)⟩ (hMi.cut hMl) ?_)
         intro rv β1 w1 he hv hM1 hf
         have he : Ext (cut β (NN i)) β1 mi (NN i) (NN i) (NN (i + 1)) w := he
         have hf : Frm (cut β (NN i)) mi (NN i) (NN i) w w1 := hf
         have hnone : ∀ b, NN i ≤ b → b < NN (i + 1) → β b = none := by
          intro b h2 h3
          cases e : β b with
          | none => rfl
          | some Lb =>
            rcases hI.dom b (by rw [e]; simp) with h4 | ⟨k, hk, hLk, h4, h5⟩
            · have := hmono i (Nat.zero_le _) (Nat.le_of_lt hil'); omega
            · have hki : k ≠ i := by intro e; subst e; exact hcon _ hLk hLi0
              rcases Nat.lt_or_ge k i with h6 | h6
              · have := @hmono (k + 1) i (by omega) (Nat.le_of_lt hil'); omega
              · have := @hmono (i + 1) k (by omega) (Nat.le_of_lt hk); omega
         let β2 : Inj := fun b => if NN i ≤ b ∧ b < NN (i + 1) then β1 b else β b
         have ex : Ext0 β β2 := by
          intro b Lb e
          simp only [β2]
          split
          · rename_i h2; rw [hnone b h2.1 h2.2] at e; cases e
          · exact e
         have ex1 : Ext0 β1 β2 := by
          intro b Lb e
          simp only [β2]
          split
          · exact e
          · rename_i h2
            have h3 : β1 b = cut β (NN i) b := by
             by_cases e3 : β1 b = cut β (NN i) b
             · exact e3
             · exact absurd (he.only b e3) h2
            rw [e] at h3
            simp only [cut] at h3
            split at h3
            · exact h3.symm
            · cases h3
         have hfr : ∀ b Lb, NN i ≤ b → b < NN (i + 1) → β1 b = some Lb → w.heap.size ≤ Lb.B := by
          intro b Lb h2 h3 e
          rcases he.fresh b Lb e (by simp only [cut]; rw [if_neg (by omega)]) with h4 | ⟨b0, L0, _, _, h5, h6, _⟩
          · exact h4
          · omega
         have hblk : ∀ B, B < w.heap.size → w1.heap[B]? = w.heap[B]? := fun B hB => hf.block B hB fun b L _ _ h2 h3 => by omega
         refine ih _ β2 w1 _ hsz' hcnt ⟨?_, ?_, hclosed', ?_, ?_, ?_, ?_, hsdv' β2 ex, slots' β2 rv ex (hv.mono ex1)⟩
         · exact ((⟨hI.size, hI.defers, fun t => hI.slots t⟩ : FRel no nt β (lv (TM 0) d VV L l.length) a).mono ex).put hdlt (hv.mono ex1) |>.size
         · exact ((⟨hI.size, hI.defers, fun t => hI.slots t⟩ : FRel no nt β (lv (TM 0) d VV L l.length) a).mono ex).put hdlt (hv.mono ex1) |>.defers
         · intro b hb
           by_cases h2 : NN i ≤ b ∧ b < NN (i + 1)
           · exact .inr ⟨i, hil', hLi1, h2.1, h2.2⟩
           · simp only [β2] at hb
             rw [if_neg h2] at hb
             rcases hI.dom b hb with h2 | ⟨k, hk, hLk, h2, h3⟩
             · exact .inl h2
             · exact .inr ⟨k, hk, hsub k hLk, h2, h3⟩
         · refine ⟨fun b Lb e => ex b Lb (hI.ext.old b Lb e), fun b e => ?_, fun b Lb e e0 => ?_⟩
           · by_cases h2 : NN i ≤ b ∧ b < NN (i + 1)
             · have h3 := hmono i (Nat.zero_le _) (Nat.le_of_lt hil')
               have h4 := @hmono (i + 1) l.length (by omega) (Nat.le_refl _)
               omega
             · simp only [β2] at e
               rw [if_neg h2] at e
               exact hI.ext.only b e
           · by_cases h2 : NN i ≤ b ∧ b < NN (i + 1)
             · simp only [β2] at e
               rw [if_pos h2] at e
               have := hfr b Lb h2.1 h2.2 e
               have := hI.frm.size
               exact .inl (by omega)
             · simp only [β2] at e
               rw [if_neg h2] at e
               exact hI.ext.fresh b Lb e e0
         · have h2 := hI.frm
           refine ⟨hf.os.trans h2.os, hf.tape.trans h2.tape, hf.output.trans h2.output, Nat.le_trans h2.size hf.size, fun B hB hne' => ?_⟩
           rw [hblk B (Nat.lt_of_lt_of_le hB h2.size), h2.block B hB hne']
         · intro m' hm'
           have hMk := hI.mem m' fun b blk e => hPlc b blk (hm' b blk e)
           refine hMk.glue hM1 hf.size hblk ?_ (fun _ => rfl) hfr ex ex1
           intro b blk h4 h5 hb
           obtain ⟨k, hk, hk1, hk2, hAt⟩ := hm' b blk hb
           have hAt : At l.length bar tgt MM L' k b blk := hAt
           obtain ⟨h2, h3⟩ := hbars k hk1 hk2
           have hsi := hbi k hk h2 h3
           have key : MM (i + 1) b = some blk → mi' b = some blk := fun e => by
            rcases hQ2 b blk e with ⟨h6, _⟩ | ⟨_, h6⟩
            · omega
            · exact h6
           apply key
           have hnoi : b ∉ tgt i := fun ht => by rw [hti] at ht; cases ht
           have hnoL : ∀ j, Wr l.length bar tgt k b j → j ≠ i → L' j = true → False := fun j hw hji e2 =>
            absurd (hnone b h4 h5) (hI.sdv j b hw.1 (by show L j = true; rw [← hne j hji]; exact e2) hw.2.1)
           rcases hAt with ⟨j, hw, hLj, hpre, h6⟩ | ⟨j, hw, hdn, _⟩ | ⟨hnw, h6⟩
           · have h7 := hS.tlt' hw.1 hw.2.1
             have hij : i < j := by
              rcases Nat.lt_or_ge i j with h8 | h8
              · exact h8
              · have := hmono i h8 (Nat.le_of_lt hil'); omega
             refine hS.down hbq h5 j (by omega) (by have := hw.1; omega) (fun x h1 h2 => hquiet x hij h1 h2 hsi hw fun hwx => ?_) h6
             have := hpre x hwx h2
             exact hnoL x hwx (by omega) this
           · exact (hnoL j hw (by intro e; subst e; exact hnoi hw.2.1) (hdn j hw)).elim
           · rcases Nat.lt_or_ge i k with h7 | h7
             · have hbx : ∀ y, i < y → y < k → bar y = false := fun y h8 h9 => by
                cases e2 : bar y with
                | false => rfl
                | true => exact absurd ⟨h8, h9⟩ (hsi y e2).1
               refine hS.down hbq h5 k (by omega) hk (fun x h1 h2 => ⟨hbx x (by omega) h2, fun e3 => hnw x ⟨by omega, e3, fun y hy => ⟨fun h8 => ?_, fun h8 => by omega⟩⟩⟩) h6
               rw [hbx y (by omega) h8.2] at hy; cases hy
             · have h8 := (hS.mlt k hk b blk h6).1
               have := @hmono k i h7 (Nat.le_of_lt hil')
               omega
end
end Go.Proofs.YtoppcdecolponaaDoor.AL
