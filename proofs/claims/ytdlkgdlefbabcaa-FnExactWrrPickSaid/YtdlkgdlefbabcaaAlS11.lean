/- A list of steps, in whatever order the model draws: what the runs come to. -/
import Derived.Test.YtdlkgdlefbabcaaAlS10
namespace Go.Proofs.Ytdlkgdlefbabcaa.AL
open Go
set_option linter.unusedVariables false
set_option linter.unusedSimpArgs false
variable {no : Nat → Option Nat} {P : Program}

theorem fresh_updA {m : Mem} {n b : Nat} {x : Option Blk} (h : Fresh m n) (hb : b < n) : Fresh (upd m b x) n := fun c hc => by
  simp only [upd, if_neg (by omega : c ≠ b)]; exact h c hc

/-- A store, told of every memory that may be taken for the model's. -/
theorem side_wp {nt : Nat} {oper : Oper} {io : O} {tm : Tm} {β : Inj} {w : World} {a : Act} {bs N b0 : Nat} {blk blk1 : Blk} {v : Value} {K : Act → World → Prop} {Q : Exit → Act → World → Prop} (hc : cO P no oper.op = some io)
    (hF : FRelS no nt β io.slots tm a) (hst : ∀ m' n', m' b0 = some blk → stepO bs io tm m' n' = some (v, upd m' b0 (some blk1), n')) {m0 : Mem} (hm0 : MRel no β m0 w) (h0 : m0 b0 = some blk) (hf0 : Fresh m0 N)
    (hK : ∀ rv w1, VRel no β v rv → (∀ m', MRel no β m' w → m' b0 = some blk → Fresh m' N → MRel no β (upd m' b0 (some blk1)) w1) → Frm β bs N w w1 → K (a.put oper.dst rv) w1) : oper.wp P a w K Q := by
  let tm' : Tm := fun t => if t ∈ io.slots then tm t else junk
  have hcg : ∀ t, t ∈ io.slots → tm t = tm' t := fun t ht => by simp [tm', ht]
  have hF' : FRel no nt β tm' a := ⟨hF.size, hF.defers, fun t => by
    simp only [tm']
    split
    · rename_i ht; exact hF.slots t ht
    · exact .junk⟩
  have hst' : ∀ m' n', m' b0 = some blk → stepO bs io tm' m' n' = some (v, upd m' b0 (some blk1), n') := fun m' n' h => by rw [← step_congr hcg]; exact hst m' n' h
  have hsame : ∀ {β1 : Inj}, Ext β β1 bs N N w → β1 = β := fun {β1} he => funext fun b => Classical.byContradiction fun h => by have := he.only b h; omega
  obtain ⟨nx, rv, w', β1, hrun, hnx, hv, he, hM1, hf⟩ := step_sim (P := P) hc hF' hm0 hf0 (hst' m0 N h0) (fun b h1 h2 => by omega)
  have := hsame he
  subst this
  have all : ∀ m', MRel no β1 m' w → m' b0 = some blk → Fresh m' N → MRel no β1 (upd m' b0 (some blk1)) w' := by
    intro m' hm' hb hf'
    obtain ⟨nx2, rv2, w2, β2, hrun2, _, _, he2, hM2, _⟩ := step_sim (P := P) hc hF' hm' hf' (hst' m' N hb) (fun b h1 h2 => by omega)
    have h2 := hsame he2
    subst h2
    rw [hrun] at hrun2
    cases hrun2
    exact hM2
  unfold Oper.wp
  rw [hrun]
  rcases hnx with rfl | ⟨rfl, rfl⟩
  · exact hK rv w' hv all hf
  · exact hK undef w' hv all hf

/-- No operation in order with all others stands between operation j and place k. -/
def SameSeg (bar : Nat → Bool) (j k : Nat) : Prop := ∀ x, bar x = true → ¬ (j < x ∧ x < k) ∧ ¬ (k ≤ x ∧ x ≤ j)

/-- What is known of row b at place k, when the operations of L are done. -/
def At (len : Nat) (bar : Nat → Bool) (tgt : Nat → Option Nat) (MM : Nat → Mem) (L : Nat → Bool) (k b : Nat) (blk : Blk) : Prop :=
  (∀ j, j < len → tgt j = some b → SameSeg bar j k → (if L j = true then MM (j + 1) b else MM j b) = some blk) ∧
  ((∀ j, j < len → tgt j = some b → ¬ SameSeg bar j k) → MM k b = some blk)

/-- What holds when the operations of L, and no others, are done. -/
structure Mid (no : Nat → Option Nat) (nt : Nat) (bs len : Nat) (bar : Nat → Bool) (bef : Nat → Nat → Bool) (d : Nat → Option Nat) (TM : Nat → Tm) (MM : Nat → Mem) (NN : Nat → Nat) (VV : Nat → Value) (tgt : Nat → Option Nat) (β0 : Inj) (w0 : World)
    (L : Nat → Bool) (β : Inj) (w : World) (a : Act) : Prop where
  size : nt ≤ a.tmps.size
  defers : a.defers = []
  closed : ∀ j k, j < len → L j = true → bef j k = true → L k = true
  dom : ∀ b, β b ≠ none → b < NN 0 ∨ ∃ k, k < len ∧ L k = true ∧ NN k ≤ b ∧ b < NN (k + 1)
  ext : Ext β0 β bs (NN 0) (NN len) w0
  frm : Frm β0 bs (NN 0) w0 w
  mem : ∀ k, k ≤ len → (∀ j, j < k → bar j = true → L j = true) → (∀ j, j < len → L j = true → bar j = true → j < k) → ∀ m', (∀ b blk, m' b = some blk → At len bar tgt MM L k b blk) → MRel no β m' w
  sdv : ∀ j b, j < len → L j = true → tgt j = some b → β b ≠ none
  slots : ∀ t, VRel no β (lv (TM 0) d VV L len t) (a.tmps.getD t undef)

theorem mono_le {NN : Nat → Nat} {len : Nat} (h : ∀ i, i < len → NN i ≤ NN (i + 1)) {i : Nat} : ∀ j, i ≤ j → j ≤ len → NN i ≤ NN j := by
  intro j
  induction j with
  | zero => intro hij _; have : i = 0 := by omega
            subst this; exact Nat.le_refl _
  | succ j ih =>
    intro hij hj
    by_cases e : i = j + 1
    · subst e; exact Nat.le_refl _
    · exact Nat.le_trans (ih (by omega) (by omega)) (h j (by omega))

theorem At.neg {len : Nat} {bar : Nat → Bool} {tgt : Nat → Option Nat} {MM : Nat → Mem} {L : Nat → Bool} {k b : Nat} {blk : Blk} (h : At len bar tgt MM L k b blk) {j : Nat} (hj : j < len) (ht : tgt j = some b) (hs : SameSeg bar j k) (hL : L j = false) : MM j b = some blk := by
  have := h.1 j hj ht hs
  rwa [if_neg (by rw [hL]; decide)] at this
theorem At.pos {len : Nat} {bar : Nat → Bool} {tgt : Nat → Option Nat} {MM : Nat → Mem} {L : Nat → Bool} {k b : Nat} {blk : Blk} (h : At len bar tgt MM L k b blk) {j : Nat} (hj : j < len) (ht : tgt j = some b) (hs : SameSeg bar j k) (hL : L j = true) : MM (j + 1) b = some blk := by
  have := h.1 j hj ht hs
  rwa [if_pos hL] at this

section
variable {bs : Nat} {l : List IOp} {TM : Nat → Tm} {MM : Nat → Mem} {NN : Nat → Nat} {VV : Nat → Value} {HH : Nat → Nat → Prop} {XX : Nat → List Nat} {tgt : Nat → Option Nat}

theorem Stps.down (hS : Stps P no bs l TM MM NN VV HH XX tgt) {bar : Nat → Bool} (hbq : ∀ i io, l[i]? = some io → io.q = !bar i) {b : Nat} {blk : Blk} {i : Nat} (hb : b < NN i) :
    ∀ k, i ≤ k → k ≤ l.length → (∀ x, i ≤ x → x < k → bar x = false ∧ tgt x ≠ some b) → MM k b = some blk → MM i b = some blk := by
  intro k
  induction k with
  | zero => intro h _ _ e; have : i = 0 := by omega
            subst this; exact e
  | succ k ih =>
    intro hik hk hx e
    by_cases hi : i = k + 1
    · subst hi; exact e
    · obtain ⟨io, hio⟩ : ∃ io, l[k]? = some io := ⟨_, List.getElem?_eq_getElem (by omega)⟩
      obtain ⟨hx1, hx2⟩ := hx k (by omega) (by omega)
      have hb' : b < NN k := Nat.lt_of_lt_of_le hb (@mono_le NN l.length hS.mono i k (by omega) (by omega))
      have hq : io.q = true := by rw [hbq k io hio, hx1]; rfl
      refine ih (by omega) (by omega) (fun x h1 h2 => hx x h1 (by omega)) ?_
      cases ht : tgt k with
      | some b' =>
        obtain ⟨_, _, _, _, _, _, _, blk0, blk1, s, a, _, h2, _⟩ := hS.sd k io b' hio ht
        rw [h2] at e
        have hne : b ≠ b' := fun e' => hx2 (by rw [ht, e'])
        simp only [upd, if_neg hne] at e
        exact e
      | none =>
        rcases hS.act k io hio ht with ⟨_, _, h2, _⟩ | ⟨_, mi, mi', _, h2⟩
        · rw [h2] at e; exact e
        · rcases (h2.2 hq).2 b blk e with ⟨_, h3⟩ | ⟨h3, _⟩
          · exact h3
          · omega

theorem Stps.segs (hS : Stps P no bs l TM MM NN VV HH XX tgt) {bar : Nat → Bool} (hbq : ∀ i io, l[i]? = some io → io.q = !bar i) {i : Nat} :
    ∀ k, i ≤ k → k ≤ l.length → (∀ x, i ≤ x → x < k → bar x = false) → (∀ b, HH i b → HH k b) ∧ (∀ b, HH k b → HH i b ∨ NN i ≤ b) ∧ ∀ b, b ∈ XX i → b ∈ XX k := by
  intro k
  induction k with
  | zero => intro h _ _; have : i = 0 := by omega
            subst this; exact ⟨fun b h => h, fun b h => .inl h, fun b h => h⟩
  | succ k ih =>
    intro hik hk hx
    by_cases hi : i = k + 1
    · subst hi; exact ⟨fun b h => h, fun b h => .inl h, fun b h => h⟩
    · obtain ⟨io, hio⟩ : ∃ io, l[k]? = some io := ⟨_, List.getElem?_eq_getElem (by omega)⟩
      have hq : io.q = true := by rw [hbq k io hio, hx k (by omega) (by omega)]; rfl
      obtain ⟨i1, i2, i3⟩ := ih (by omega) (by omega) (fun x h1 h2 => hx x h1 (by omega))
      obtain ⟨j1, j2, j3⟩ := hS.nx k io hio hq
      have hmn := @mono_le NN l.length hS.mono i k (by omega) (by omega)
      refine ⟨fun b h => j1 b (i1 b h), fun b h => ?_, fun b h => j3 b (i3 b h)⟩
      rcases j2 b h with h | h
      · exact i2 b h
      · exact .inr (by omega)

/-- In one stretch no row is stored to twice. -/
theorem Stps.uniq (hS : Stps P no bs l TM MM NN VV HH XX tgt) {bar : Nat → Bool} (hbq : ∀ i io, l[i]? = some io → io.q = !bar i) {i j b : Nat} (hij : i < j) (hj : j < l.length) (hx : ∀ x, i < x → x < j → bar x = false)
    (hi : tgt i = some b) (hjt : tgt j = some b) : False := by
  obtain ⟨io, hio⟩ : ∃ io, l[i]? = some io := ⟨_, List.getElem?_eq_getElem (by omega)⟩
  obtain ⟨jo, hjo⟩ : ∃ jo, l[j]? = some jo := ⟨_, List.getElem?_eq_getElem (by omega)⟩
  have h1 := (hS.sd i io b hio hi).2.2.2.1
  have h2 := (hS.segs hbq (i := i + 1) j (by omega) (by omega) (fun x h1 h2 => hx x (by omega) h2)).2.2 b h1
  exact (hS.sd j jo b hjo hjt).2.2.1 h2

theorem Stps.uniq2 (hS : Stps P no bs l TM MM NN VV HH XX tgt) {bar : Nat → Bool} (hbq : ∀ i io, l[i]? = some io → io.q = !bar i) {i j b k : Nat} (hi : i < l.length) (hj : j < l.length) (hti : tgt i = some b) (htj : tgt j = some b)
    (hsi : SameSeg bar i k) (hsj : SameSeg bar j k) : i = j := by
  have one : ∀ {i j : Nat}, i < j → SameSeg bar i k → SameSeg bar j k → ∀ x, i < x → x < j → bar x = false := by
    intro i j hij h1 h2 x hx1 hx2
    cases e : bar x with
    | false => rfl
    | true =>
      have := h1 x e
      have := h2 x e
      omega
  rcases Nat.lt_trichotomy i j with h | h | h
  · exact (hS.uniq hbq h hj (one h hsi hsj) hti htj).elim
  · exact h
  · exact (hS.uniq hbq h hi (one h hsj hsi) htj hti).elim

theorem Stps.tlt' (hS : Stps P no bs l TM MM NN VV HH XX tgt) {j b : Nat} (hj : j < l.length) (ht : tgt j = some b) : b < NN j := by
  obtain ⟨io, hio⟩ : ∃ io, l[j]? = some io := ⟨_, List.getElem?_eq_getElem hj⟩
  obtain ⟨_, _, _, _, _, _, _, blk, blk1, s, a, h, _⟩ := hS.sd j io b hio ht
  exact (hS.mlt j (by omega) b blk h).1

theorem tr_draw (hS : Stps P no bs l TM MM NN VV HH XX tgt) {nt : Nat} {ops : Array Oper} (hlen : l.length = ops.size)
    (hci : ∀ i o io, ops[i]? = some o → l[i]? = some io → cI P no nt ops (!barrier ops (Region.before ops) i) o = some io) (hed : edgesOk ops = true) (hsl : slotsOk l (Region.before ops) = true)
    {β0 : Inj} {w0 : World} (hβ0 : BLt β0 (NN 0)) {Q : Exit → Act → World → Prop}
    (hQ : ∀ β1 a' w', Ext β0 β1 bs (NN 0) (NN l.length) w0 → FRel no nt β1 (TM l.length) a' → MRel no β1 (MM l.length) w' → Frm β0 bs (NN 0) w0 w' → Q .normal a' w') :
    ∀ (fuel : Nat) (listed : Array Bool) (β : Inj) (w : World) (a : Act), listed.size = ops.size → cnt (fun k => listed.getD k false) l.length ≤ fuel →
      Mid no nt bs l.length (barrier ops (Region.before ops)) (fun j k => ((Region.before ops).getD j 0).testBit k) (fun i => (l[i]?).bind (·.d)) TM MM NN VV tgt β0 w0 (fun k => listed.getD k false) β w a →
      wpAny P .any ops Q fuel listed a w := by
  have hbq : ∀ i io, l[i]? = some io → io.q = !barrier ops (Region.before ops) i := by
    intro i io hio
    have hil : i < l.length := (List.getElem?_eq_some_iff.1 hio).1
    exact (cI_inv (hci i ops[i] io (Array.getElem?_eq_getElem (by omega)) hio)).2.2.2.1
  have hmono := @mono_le NN l.length hS.mono
  have fin : ∀ (listed : Array Bool) (β : Inj) (w : World) (a : Act), listed.size = ops.size → (∀ k, k < l.length → listed.getD k false = true) →
      Mid no nt bs l.length (barrier ops (Region.before ops)) (fun j k => ((Region.before ops).getD j 0).testBit k) (fun i => (l[i]?).bind (·.d)) TM MM NN VV tgt β0 w0 (fun k => listed.getD k false) β w a → Q .normal a w := by
    intro listed β w a hsz hall hI
    refine hQ β a w hI.ext ⟨hI.size, hI.defers, fun t => ?_⟩ (hI.mem _ (Nat.le_refl _) (fun j hj _ => hall j hj) (fun j hj _ _ => hj) _ fun b blk e => ⟨fun j hj ht hs => ?_, fun _ => e⟩) hI.frm
    rotate_left
    · rw [if_pos (hall j hj)]
      have hb := hS.tlt' hj ht
      refine hS.down hbq (Nat.lt_of_lt_of_le hb (hS.mono j hj)) l.length (by omega) (Nat.le_refl _) (fun x h1 h2 => ?_) e
      have hbx : ∀ y, j < y → y < l.length → barrier ops (Region.before ops) y = false := fun y h3 h4 => by
        cases e2 : barrier ops (Region.before ops) y with
        | false => rfl
        | true => exact absurd ⟨h3, h4⟩ (hs y e2).1
      exact ⟨hbx x (by omega) h2, fun e3 => hS.uniq hbq (by omega : j < x) h2 (fun y h3 h4 => hbx y h3 (by omega)) ht e3⟩
    have := hI.slots t
    rw [lv_eq (TM := TM) (len := l.length) rfl (fun i hi => ?_) (Nat.le_refl _) (fun k hk _ => hall k hk) (fun k hk hk' _ => by omega) _ (Nat.le_refl _) (Nat.le_refl _)] at this
    · exact this
    · have hg : l[i]? = some l[i] := List.getElem?_eq_getElem hi
      rw [hS.tm i _ hg]
      simp [hg]
  intro fuel
  induction fuel with
  | zero =>
    intro listed β w a hsz hc hI
    have hall : ∀ k, k < l.length → listed.getD k false = true := cnt_zero (Nat.le_zero.1 hc)
    refine ⟨?_, fin listed β w a hsz hall hI⟩
    apply List.eq_nil_iff_forall_not_mem.2
    intro j hj
    obtain ⟨h1, o, ho, _⟩ := mem_ready.1 hj
    have hjl : j < ops.size := (Array.getElem?_eq_some_iff.1 ho).1
    have := hall j (by omega)
    simp only [Array.getD_eq_getD_getElem?] at h1 this
    rw [Array.getElem?_eq_getElem (by omega)] at h1 this
    simp only [Option.getD_some] at h1 this
    rw [h1] at this; cases this
  | succ fuel ih =>
    intro listed β w a hsz hc hI
    refine ⟨fun hnil => fin listed β w a hsz ?_ hI, fun i hi => ?_⟩
    · intro k
      induction k using Nat.strongRecOn with
      | _ k ihk =>
        intro hk
        cases e : listed.getD k false with
        | true => rfl
        | false =>
          exfalso
          have hk' : k < ops.size := by omega
          have ho : ops[k]? = some ops[k] := Array.getElem?_eq_getElem hk'
          have : k ∈ Region.ready .any ops listed := by
            refine mem_ready.2 ⟨?_, _, ho, fun e' he' hb => ihk e'.on (edgesOk_at hed ho e' he' hb) (by have := edgesOk_at hed ho e' he' hb; omega)⟩
            simp only [Array.getD_eq_getD_getElem?] at e ⊢
            rw [Array.getElem?_eq_getElem (by omega)] at e ⊢
            simpa using e
          rw [hnil] at this; cases this
    · obtain ⟨h1, o, ho, hedge⟩ := mem_ready.1 hi
      have hil : i < ops.size := (Array.getElem?_eq_some_iff.1 ho).1
      have hil' : i < l.length := by omega
      obtain ⟨io, hio⟩ : ∃ io, l[i]? = some io := ⟨_, List.getElem?_eq_getElem hil'⟩
      have hci' := hci i o io ho hio
      obtain ⟨hg, hop, hd, hq, hdlt, hcall⟩ := cI_inv hci'
      have hLi : listed.getD i false = false := by
        simp only [Array.getD_eq_getD_getElem?] at h1 ⊢
        rw [Array.getElem?_eq_getElem (by omega)] at h1 ⊢
        simpa using h1
      let L : Nat → Bool := fun k => listed.getD k false
      let L' : Nat → Bool := fun k => (listed.setIfInBounds i true).getD k false
      let bef : Nat → Nat → Bool := fun j k => ((Region.before ops).getD j 0).testBit k
      let d : Nat → Option Nat := fun i => (l[i]?).bind (·.d)
      have hLi0 : L i = false := hLi
      have hcon : ∀ k, L k = true → L k = false → False := fun k h1 h2 => by rw [h1] at h2; cases h2
      have hLi1 : L' i = true := by simp [L', hsz, hil]
      have hne : ∀ k, k ≠ i → L' k = L k := fun k hk => getD_set_ne false (Ne.symm hk)
      have hsub : ∀ k, L k = true → L' k = true := fun k hk => getD_set_true hk
      have hbef : ∀ k, bef i k = true → L k = true := by
        intro k hk
        obtain ⟨e, he, hb, h2⟩ := before_bit ho hk
        have hon := hedge e (by simpa using he) hb
        rcases h2 with h2 | ⟨h2, h3⟩
        · rw [← h2]; exact hon
        · exact hI.closed e.on k (by omega) hon h3
      have hafter : ∀ k, k < l.length → bef k i = true → L k = false := by
        intro k hk hb
        cases e : L k with
        | false => rfl
        | true =>
          exact (hcon i (hI.closed k i hk e hb) hLi0).elim
      have hdi : d i = io.d := by simp [d, hio]
      have hx : ∀ t, d i = some t → ∀ k, i < k → k < l.length → d k = some t → L k = false := by
        intro t h2 k hik hk h3
        obtain ⟨y, hy⟩ : ∃ y, l[k]? = some y := ⟨_, List.getElem?_eq_getElem hk⟩
        rw [hdi] at h2
        have h3' : y.d = some t := by simpa [d, hy] using h3
        rcases slotsOk_at hsl hio hy hik with h4 | h4
        · exact hafter k hk h4
        · exact absurd (by simp [IOp.names, h3']) (h4.1 t h2)
      have hlvi : ∀ t, t ∈ io.names → lv (TM 0) d VV L l.length t = TM i t := by
        intro t ht
        refine lv_eq (TM := TM) (len := l.length) rfl (fun j hj => ?_) (Nat.le_of_lt hil') (fun k hk h2 => ?_) (fun k hk hk' h2 => ?_) _ (Nat.le_of_lt hil') (Nat.le_refl _)
        · have hg : l[j]? = some l[j] := List.getElem?_eq_getElem hj
          rw [hS.tm j _ hg]; simp [d, hg]
        · obtain ⟨x, hxx⟩ : ∃ x, l[k]? = some x := ⟨_, List.getElem?_eq_getElem (by omega)⟩
          have h2' : x.d = some t := by simpa [d, hxx] using h2
          rcases slotsOk_at hsl hxx hio hk with h4 | h4
          · exact hbef k h4
          · exact absurd ht (h4.1 t h2')
        · by_cases e : k = i
          · subst e; exact hLi0
          · obtain ⟨y, hy⟩ : ∃ y, l[k]? = some y := ⟨_, List.getElem?_eq_getElem hk'⟩
            have h2' : y.d = some t := by simpa [d, hy] using h2
            rcases slotsOk_at hsl hio hy (by omega : i < k) with h4 | h4
            · exact hafter k hk' h4
            · exact absurd ht (h4.2 t h2')
      have hvt : ∀ t, t ∈ io.names → VRel no β (TM i t) (a.tmps.getD t undef) := fun t ht => by rw [← hlvi t ht]; exact hI.slots t
      have hw := wanted_iff (nt := nt) (β := β) (tm := TM i) (a := a) hg fun g b e => hvt g (by simp [IOp.names, e])
      have hclosed' : ∀ j k, j < l.length → L' j = true → bef j k = true → L' k = true := by
        intro j k hj hLj hb
        by_cases e : j = i
        · subst e; exact hsub k (hbef k hb)
        · exact hsub k (hI.closed j k hj (by have h9 := hLj; rw [hne j e] at h9; exact h9) hb)
      have hcnt : cnt L' l.length ≤ fuel := by
        have h2 := cnt_add hLi0 hLi1 hne l.length
        rw [if_pos hil'] at h2
        have h3 : cnt L l.length ≤ fuel + 1 := hc
        omega
      have hsz' : (listed.setIfInBounds i true).size = ops.size := by simp [hsz]
      let bar : Nat → Bool := barrier ops (Region.before ops)
      -- eligible places and operation i lie in one stretch
      have hbarL : ∀ x, bar x = true → x < l.length → x ≠ i → (L x = true ↔ x < i) := by
        intro x hx hxl hxi
        obtain ⟨h2, h3⟩ := barrier_at hx hil (Ne.symm hxi)
        constructor
        · intro h4
          rcases Nat.lt_or_ge x i with h5 | h5
          · exact h5
          · exact (hcon x h4 (hafter x hxl (h2 (by omega)))).elim
        · intro h4; exact hbef x (h3 h4)
      have fresh' : ∀ {L : Nat → Bool} {k : Nat} {b : Nat} {blk : Blk}, k ≤ l.length → At l.length bar tgt MM L k b blk → b < NN l.length := by
        intro L k b blk hk hAt
        by_cases hex : ∃ j, j < l.length ∧ tgt j = some b ∧ SameSeg bar j k
        · obtain ⟨j, hj, ht, hs⟩ := hex
          exact Nat.lt_of_lt_of_le (hS.tlt' hj ht) (hmono l.length (by omega) (Nat.le_refl _))
        · have := hAt.2 fun j hj ht hs => hex ⟨j, hj, ht, hs⟩
          exact Nat.lt_of_lt_of_le (hS.mlt k hk b blk this).1 (hmono l.length hk (Nat.le_refl _))
      -- the step of the slots
      have slots' : ∀ (β2 : Inj) (rv : Value), Ext0 β β2 → VRel no β2 (VV i) rv → ∀ t, VRel no β2 (lv (TM 0) d VV L' l.length t) ((a.put o.dst rv).tmps.getD t undef) := by
        intro β2 rv hex hv t
        rw [lv_add hil' hLi0 hLi1 hne (hx t) l.length hil' (Nat.le_refl _)]
        have hF : FRel no nt β2 (lv (TM 0) d VV L l.length) a := ⟨hI.size, hI.defers, fun t => (hI.slots t).mono hex⟩
        have := (hF.put (d := io.d) (fun d' e => by rw [hd] at e; exact hdlt d' e) hv).slots t
        rw [put_at, ← hd] at *
        rw [hdi]
        exact this
      by_cases hbar : barrier ops (Region.before ops) i = true
      · -- an operation in order with all others
        have hlt : ∀ k, k < l.length → k ≠ i → (L k = true ↔ k < i) := by
          intro k hk hki
          obtain ⟨h2, h3⟩ := barrier_at hbar (by omega : k < ops.size) hki
          constructor
          · intro hL
            rcases Nat.lt_or_ge k i with h4 | h4
            · exact h4
            · exact (hcon k hL (hafter k hk (h3 (by omega)))).elim
          · intro h4; exact hbef k (h2 h4)
        have hdomi : ∀ b, β b ≠ none → b < NN i := by
          intro b hb
          rcases hI.dom b hb with h2 | ⟨k, hk, hLk, h2, h3⟩
          · exact Nat.lt_of_lt_of_le h2 (hmono i (Nat.zero_le _) (Nat.le_of_lt hil'))
          · have hki : k ≠ i := by intro e; subst e; exact hcon _ hLk hLi0
            have := (hlt k hk hki).1 hLk
            exact Nat.lt_of_lt_of_le h3 (hmono i (by omega) (Nat.le_of_lt hil'))
        have hti : tgt i = none := by
          cases e : tgt i with
          | none => rfl
          | some b => have := (hS.sd i io b hio e).1; rw [hq, hbar] at this; cases this
        have hMi : MRel no β (MM i) w := by
          refine hI.mem i (Nat.le_of_lt hil') (fun j hj _ => (hlt j (by omega) (by omega)).2 hj) (fun j hj hLj _ => (hlt j hj (by intro e; subst e; exact hcon _ hLj hLi0)).1 hLj) _ fun b blk e => ⟨fun j hj ht hs => ?_, fun _ => e⟩
          have hji : j < i := by
            rcases Nat.lt_or_ge j i with h2 | h2
            · exact h2
            · exact absurd ⟨Nat.le_refl _, h2⟩ (hs i hbar).2
          rw [if_pos ((hlt j hj (by omega)).2 hji)]
          have hbx : ∀ y, j < y → y < i → bar y = false := fun y h3 h4 => by
            cases e2 : bar y with
            | false => rfl
            | true => exact absurd ⟨h3, h4⟩ (hs y e2).1
          exact hS.down hbq (Nat.lt_of_lt_of_le (hS.tlt' hj ht) (hS.mono j hj)) i (by omega) (by omega) (fun x h1 h2 => ⟨hbx x (by omega) h2, fun e3 => hS.uniq hbq (by omega : j < x) (by omega) (fun y h3 h4 => hbx y h3 (by omega)) ht e3⟩) e
        have hexti : Ext β0 β bs (NN 0) (NN i) w0 := by
          refine ⟨hI.ext.old, fun b e => ?_, hI.ext.fresh⟩
          have h2 := (hI.ext.only b e).1
          refine ⟨h2, hdomi b fun e' => ?_⟩
          rw [e', hβ0 b h2] at e; exact e rfl
        have hBi : BLt β (NN i) := by
          intro b hb
          cases e : β b with
          | none => rfl
          | some L => have := hdomi b (by rw [e]; simp); omega
        -- what follows once the operation is done
        have go : ∀ (β1 : Inj) (w1 : World) (rv : Value), Ext β β1 bs (NN i) (NN (i + 1)) w → VRel no β1 (VV i) rv → MRel no β1 (MM (i + 1)) w1 → Frm β bs (NN i) w w1 → wpAny P .any ops Q fuel (listed.setIfInBounds i true) (a.put o.dst rv) w1 := by
          intro β1 w1 rv he hv hM1 hf
          have hB1 : BLt β1 (NN (i + 1)) := hBi.ext he (hS.mono i hil')
          refine ih _ β1 w1 _ hsz' hcnt ⟨?_, ?_, hclosed', ?_, ?_, ?_, ?_, ?_, slots' β1 rv he.old hv⟩
          · exact ((⟨hI.size, hI.defers, fun t => hI.slots t⟩ : FRel no nt β (lv (TM 0) d VV L l.length) a).mono he.old).put hdlt hv |>.size
          · exact ((⟨hI.size, hI.defers, fun t => hI.slots t⟩ : FRel no nt β (lv (TM 0) d VV L l.length) a).mono he.old).put hdlt hv |>.defers
          · intro b hb
            by_cases e : β1 b = β b
            · rw [e] at hb
              rcases hI.dom b hb with h2 | ⟨k, hk, hLk, h2, h3⟩
              · exact .inl h2
              · exact .inr ⟨k, hk, hsub k hLk, h2, h3⟩
            · obtain ⟨h2, h3⟩ := he.only b e
              exact .inr ⟨i, hil', hLi1, h2, h3⟩
          · have := hexti.trans he (hmono i (Nat.zero_le _) (Nat.le_of_lt hil')) (hS.mono i hil') hI.frm.size fun b hb _ => hβ0 b hb
            exact ⟨this.old, fun b e => ⟨(this.only b e).1, Nat.lt_of_lt_of_le (this.only b e).2 (hmono l.length (by omega) (Nat.le_refl _))⟩, this.fresh⟩
          · exact hI.frm.trans hexti hf fun b hb _ => hβ0 b hb
          · intro k hk hk1 hk2 m' hm'
            have hik : i < k := hk2 i hil' hLi1 hbar
            have hnb : ∀ j, i < j → j < k → bar j = false := by
              intro j h2 h3
              cases e : bar j with
              | false => rfl
              | true =>
                have h4 := hk1 j h3 e
                have h5 : L j = true := by rw [← hne j (by omega)]; exact h4
                have := (hlt j (by omega) (by omega)).1 h5
                omega
            refine hM1.ofDom fun b Lb blk e hb => ?_
            have hbn : b < NN (i + 1) := by
              rcases Nat.lt_or_ge b (NN (i + 1)) with h2 | h2
              · exact h2
              · rw [hB1 b h2] at e; cases e
            have hAt : At l.length bar tgt MM L' k b blk := hm' b blk hb
            by_cases hex : ∃ j, j < l.length ∧ tgt j = some b ∧ SameSeg bar j k
            · obtain ⟨j, hj, ht, hs⟩ := hex
              have hji : i < j := by
                rcases Nat.lt_trichotomy j i with h2 | h2 | h2
                · exact absurd ⟨h2, hik⟩ (hs i hbar).1
                · subst h2; rw [hti] at ht; cases ht
                · exact h2
              have hLj : L' j = false := by
                cases e2 : L' j with
                | false => rfl
                | true =>
                  have h5 : L j = true := by rw [← hne j (by omega)]; exact e2
                  have := (hlt j hj (by omega)).1 h5
                  omega
              have h6 := hAt.neg hj ht hs hLj
              have hbx : ∀ y, i < y → y < j → bar y = false := fun y h3 h4 => by
                cases e2 : bar y with
                | false => rfl
                | true =>
                  rcases Nat.lt_or_ge y k with h5 | h5
                  · rw [hnb y h3 h5] at e2; cases e2
                  · exact absurd ⟨h5, by omega⟩ (hs y e2).2
              exact hS.down hbq hbn j (by omega) (by omega) (fun x h1 h2 => ⟨hbx x (by omega) h2, fun e3 => hS.uniq hbq h2 hj (fun y h3 h4 => hbx y (by omega) h4) e3 ht⟩) h6
            · have h6 := hAt.2 fun j hj ht hs => hex ⟨j, hj, ht, hs⟩
              refine hS.down hbq hbn k (by omega) hk (fun x h1 h2 => ⟨hnb x (by omega) h2, fun e3 => hex ⟨x, by omega, e3, fun y hy => ⟨fun h3 => ?_, fun h3 => by omega⟩⟩⟩) h6
              have := hnb y (by omega) h3.2
              rw [this] at hy; cases hy
          · intro j b hj hLj ht
            have hji : j ≠ i := by intro e; subst e; rw [hti] at ht; cases ht
            have := hI.sdv j b hj (by show L j = true; rw [← hne j hji]; exact hLj) ht
            cases e : β b with
            | none => exact absurd e this
            | some Lb => rw [he.old b Lb e]; simp
        unfold wpOp
        rw [ho]
        rcases hS.act i io hio hti with ⟨⟨g, b, hgd, hsk⟩, hv0, hm0, hn0⟩ | ⟨hgd, mi, mi', hopS, hQt⟩
        · have hwn := hw.2.2 g b hgd hsk
          simp only []
          rw [if_neg (by rw [hwn]; decide)]
          refine go β w undef (Ext.refl ..) ?_ (by rw [hm0]; exact hMi) (Frm.refl ..)
          rw [hv0]; exact VRel.tuple rfl fun i x y hx => by simp at hx
        · have hwn : Region.wanted o (yielded ops a.tmps) = true := by
            cases e : io.g with
            | none => exact hw.1 e
            | some p => obtain ⟨g, b⟩ := p; exact hw.2.1 g b e (hgd g b e)
          simp only []
          rw [if_pos hwn]
          obtain ⟨rfl, hmm⟩ := hQt.1 (by rw [hq, hbar]; rfl)
          subst hmm
          rw [hq, hbar] at hopS
          refine .inl (hopS nt o β w a _ Q hop hcall hBi ⟨hI.size, hI.defers, fun t ht => hvt t (by simp [IOp.names, ht])⟩ hMi ?_)
          intro rv β1 w1 he hv hM1 hf
          exact go β1 w1 rv he hv hM1 hf
      · -- an operation that touches nothing of what was there
        have hbar' : barrier ops (Region.before ops) i = false := by simpa using hbar
        have hel1 : ∀ j, j < i → bar j = true → L j = true := fun j hj hb => (hbarL j hb (by omega) (by omega)).2 hj
        have hel2 : ∀ j, j < l.length → L j = true → bar j = true → j < i := fun j hj hLj hb => by
          have hji : j ≠ i := by intro e; subst e; have h9 : bar j = false := hbar'; rw [h9] at hb; cases hb
          exact (hbarL j hb hj hji).1 hLj
        have hbars : ∀ k, (∀ j, j < k → bar j = true → L' j = true) → (∀ j, j < l.length → L' j = true → bar j = true → j < k) →
            (∀ j, j < k → bar j = true → L j = true) ∧ ∀ j, j < l.length → L j = true → bar j = true → j < k := by
          intro k h2 h3
          refine ⟨fun j hj hb => ?_, fun j hj hLj hb => h3 j hj (hsub j hLj) hb⟩
          have hji : j ≠ i := by intro e; subst e; have h9 : bar j = false := hbar'; rw [h9] at hb; cases hb
          rw [← hne j hji]; exact h2 j hj hb
        -- no barrier lies between i and an eligible place
        have hbi : ∀ k, k ≤ l.length → (∀ j, j < k → bar j = true → L j = true) → (∀ j, j < l.length → L j = true → bar j = true → j < k) → SameSeg bar i k := by
          intro k hk h2 h3 x hxb
          have hxi : x ≠ i := by intro e; subst e; have h9 : bar x = false := hbar'; rw [h9] at hxb; cases hxb
          refine ⟨fun h4 => ?_, fun h4 => ?_⟩
          · have := (hbarL x hxb (by omega) hxi).1 (h2 x h4.2 hxb); omega
          · have := h3 x (by omega) ((hbarL x hxb (by omega) hxi).2 (by omega)) hxb; omega
        cases hti : tgt i with
        | some b0 =>
          obtain ⟨hq1, hgd, hX, hX1, hHi, hbs0, hNi, blk0, blk1, s0, a0, hb0, hm1, hat, hab, hst⟩ := hS.sd i io b0 hio hti
          have hAt0 : ∀ k, k ≤ l.length → (∀ j, j < k → bar j = true → L j = true) → (∀ j, j < l.length → L j = true → bar j = true → j < k) → At l.length bar tgt MM L k b0 blk0 := by
            intro k hk h2 h3
            refine ⟨fun j hj ht hs => ?_, fun h4 => (h4 i hil' hti (hbi k hk h2 h3)).elim⟩
            have := hS.uniq2 hbq hj hil' ht hti hs (hbi k hk h2 h3)
            subst this
            rw [if_neg (by rw [hLi0]; decide)]; exact hb0
          have hwn : Region.wanted o (yielded ops a.tmps) = true := by
            cases e : io.g with
            | none => exact hw.1 e
            | some p => obtain ⟨g, b⟩ := p; exact hw.2.1 g b e (hgd g b e)
          have hm0 : MRel no β (upd (fun _ => none) b0 (some blk0)) w := by
            refine hI.mem i (Nat.le_of_lt hil') hel1 hel2 _ fun b blk e => ?_
            simp only [upd] at e
            split at e
            · rename_i hb; subst hb; cases e; exact hAt0 i (Nat.le_of_lt hil') hel1 hel2
            · cases e
          have hb0N : b0 < NN l.length := Nat.lt_of_lt_of_le (hS.tlt' hil' hti) (hmono l.length (Nat.le_of_lt hil') (Nat.le_refl _))
          unfold wpOp
          rw [ho]
          simp only []
          rw [if_pos hwn]
          refine .inl (side_wp (nt := nt) (N := NN l.length) hop ⟨hI.size, hI.defers, fun t ht => hvt t (by simp [IOp.names, ht])⟩ hst hm0 (by simp [upd]) (fresh_updA (fun _ _ => rfl) hb0N) ?_)
          intro rv w1 hv hall hf
          have hβb : β b0 ≠ none := by
            have hs0 : TM i s0 = .pointer (some a0) ∧ s0 ∈ io.o.slots := by
              unfold O.at at hat
              split at hat
              · split at hat
                · rename_i h9 _ _ h8; cases hat; exact ⟨h8, by rw [h9]; simp [O.slots, E.slots]⟩
                · cases hat
              · split at hat
                · rename_i h9 _ _ h8; cases hat; exact ⟨h8, by rw [h9]; simp [O.slots, E.slots]⟩
                · cases hat
              · cases hat
            have := hvt s0 (by simp [IOp.names, hs0.2])
            rw [hs0.1] at this
            generalize a.tmps.getD s0 undef = r at this
            cases this with
            | ptr e => rw [← hab]; simp only at e ⊢; rw [e]; simp
          refine ih _ β w1 _ hsz' hcnt ⟨?_, ?_, hclosed', ?_, hI.ext, ?_, ?_, ?_, slots' β rv (fun _ _ h => h) hv⟩
          · exact ((⟨hI.size, hI.defers, fun t => hI.slots t⟩ : FRel no nt β (lv (TM 0) d VV L l.length) a)).put hdlt hv |>.size
          · exact ((⟨hI.size, hI.defers, fun t => hI.slots t⟩ : FRel no nt β (lv (TM 0) d VV L l.length) a)).put hdlt hv |>.defers
          · intro b hb
            rcases hI.dom b hb with h2 | ⟨k, hk, hLk, h2, h3⟩
            · exact .inl h2
            · exact .inr ⟨k, hk, hsub k hLk, h2, h3⟩
          · exact hI.frm.trans hI.ext hf fun b hb _ => hβ0 b hb
          · intro k hk hk1 hk2 m' hm'
            obtain ⟨h2, h3⟩ := hbars k hk1 hk2
            have hAtL : ∀ b blk, b ≠ b0 → At l.length bar tgt MM L' k b blk → At l.length bar tgt MM L k b blk := by
              intro b blk hbb hAt
              refine ⟨fun j hj ht hs => ?_, hAt.2⟩
              have hji : j ≠ i := by intro e; subst e; rw [hti] at ht; cases ht; exact hbb rfl
              rw [← hne j hji]; exact hAt.1 j hj ht hs
            have hm2 : MRel no β (upd m' b0 (some blk0)) w := by
              refine hI.mem k hk h2 h3 _ fun b blk e => ?_
              simp only [upd] at e
              split at e
              · rename_i hb; subst hb; cases e; exact hAt0 k hk h2 h3
              · rename_i hb; exact hAtL b blk hb (hm' b blk e)
            have hfr2 : Fresh (upd m' b0 (some blk0)) (NN l.length) := by
              refine fresh_updA (fun b hb => ?_) hb0N
              cases e : m' b with
              | none => rfl
              | some blk => have := fresh' hk (hm' b blk e); omega
            refine (hall _ hm2 (by simp [upd]) hfr2).mono fun b blk e => ?_
            simp only [upd]
            split
            · rename_i hb
              subst hb
              have h4 := (show At l.length bar tgt MM L' k b blk from hm' b blk e).pos hil' hti (hbi k hk h2 h3) hLi1
              rw [hm1] at h4
              simpa [upd] using h4
            · exact e
          · intro j b hj hLj ht
            by_cases hji : j = i
            · subst hji; rw [hti] at ht; cases ht; exact hβb
            · exact hI.sdv j b hj (by show L j = true; rw [← hne j hji]; exact hLj) ht
        | none =>
        have hAtL : ∀ k b blk, At l.length bar tgt MM L' k b blk → At l.length bar tgt MM L k b blk := by
          intro k b blk hAt
          refine ⟨fun j hj ht hs => ?_, hAt.2⟩
          have hji : j ≠ i := by intro e; subst e; rw [hti] at ht; cases ht
          rw [← hne j hji]; exact hAt.1 j hj ht hs
        have hsdv' : ∀ (β2 : Inj), Ext0 β β2 → ∀ j b, j < l.length → L' j = true → tgt j = some b → β2 b ≠ none := by
          intro β2 hex j b hj hLj ht
          have hji : j ≠ i := by intro e; subst e; rw [hti] at ht; cases ht
          have := hI.sdv j b hj (by show L j = true; rw [← hne j hji]; exact hLj) ht
          cases e : β b with
          | none => exact absurd e this
          | some Lb => rw [hex b Lb e]; simp
        unfold wpOp
        rw [ho]
        rcases hS.act i io hio hti with ⟨⟨g, b, hgd, hsk⟩, hv0, hm0, hn0⟩ | ⟨hgd, mi, mi', hopS, hQt⟩
        · have hwn := hw.2.2 g b hgd hsk
          simp only []
          rw [if_neg (by rw [hwn]; decide)]
          have hvu : VRel no β (VV i) undef := by rw [hv0]; exact VRel.tuple rfl fun i x y hx => by simp at hx
          refine ih _ β w _ hsz' hcnt ⟨?_, ?_, hclosed', ?_, hI.ext, hI.frm, ?_, hsdv' β (fun _ _ h => h), slots' β undef (fun _ _ h => h) hvu⟩
          · exact ((⟨hI.size, hI.defers, fun t => hI.slots t⟩ : FRel no nt β (lv (TM 0) d VV L l.length) a)).put hdlt hvu |>.size
          · exact ((⟨hI.size, hI.defers, fun t => hI.slots t⟩ : FRel no nt β (lv (TM 0) d VV L l.length) a)).put hdlt hvu |>.defers
          · intro b hb
            rcases hI.dom b hb with h2 | ⟨k, hk, hLk, h2, h3⟩
            · exact .inl h2
            · exact .inr ⟨k, hk, hsub k hLk, h2, h3⟩
          · intro k hk hk1 hk2 m' hm'
            obtain ⟨h2, h3⟩ := hbars k hk1 hk2
            exact hI.mem k hk h2 h3 m' fun b blk e => hAtL k b blk (hm' b blk e)
        · have hwn : Region.wanted o (yielded ops a.tmps) = true := by
            cases e : io.g with
            | none => exact hw.1 e
            | some p => obtain ⟨g, b⟩ := p; exact hw.2.1 g b e (hgd g b e)
          simp only []
          rw [if_pos hwn]
          obtain ⟨hQ1, hQ2⟩ := hQt.2 (by rw [hq, hbar']; rfl)
          rw [hq, hbar'] at hopS
          have hMi : MRel no β mi w := by
            refine hI.mem i (Nat.le_of_lt hil') hel1 hel2 _ fun b blk e => ⟨fun j hj ht hs => ?_, fun _ => (hQ1 b blk e).1⟩
            exfalso
            obtain ⟨jo, hjo⟩ : ∃ jo, l[j]? = some jo := ⟨_, List.getElem?_eq_getElem hj⟩
            have hHj := (hS.sd j jo b hjo ht).2.2.2.2.1
            rcases Nat.lt_trichotomy j i with h2 | h2 | h2
            · have hjq : bar j = false := by
                have := hbq j jo hjo
                rw [(hS.sd j jo b hjo ht).1] at this
                simpa using this.symm
              refine (hQ1 b blk e).2 ((hS.segs hbq i (by omega) (by omega) fun x h3 h4 => ?_).1 b hHj)
              by_cases hxj : x = j
              · subst hxj; exact hjq
              · cases e2 : bar x with
                | false => exact e2
                | true => exact absurd ⟨Nat.lt_of_le_of_ne h3 (Ne.symm hxj), h4⟩ (hs x e2).1
            · subst h2; rw [hti] at ht; cases ht
            · rcases (hS.segs hbq (i := i) j (by omega) (by omega) fun x h3 h4 => by
                cases e2 : bar x with
                | false => exact e2
                | true => exact absurd ⟨h3, Nat.le_of_lt h4⟩ (hs x e2).2).2.1 b hHj with h3 | h3
              · exact (hQ1 b blk e).2 h3
              · have := (hS.mlt i (Nat.le_of_lt hil') b blk (hQ1 b blk e).1).1; omega
          have hcb : BLt (cut β (NN i)) (NN i) := fun b hb => by simp only [cut]; rw [if_neg (by omega)]
          have hTi := hS.tlt i (Nat.le_of_lt hil')
          have hMl : MLt mi (NN i) := (hS.mlt i (Nat.le_of_lt hil')).sub fun b x e => (hQ1 b x e).1
          refine .inl (hopS nt o (cut β (NN i)) w a _ Q hop hcall hcb ⟨hI.size, hI.defers, fun t ht => (hvt t (by simp [IOp.names, ht])).cut (hTi t)⟩ (hMi.cut hMl) ?_)
          intro rv β1 w1 he hv hM1 hf
          have he : Ext (cut β (NN i)) β1 (NN i) (NN i) (NN (i + 1)) w := he
          have hf : Frm (cut β (NN i)) (NN i) (NN i) w w1 := hf
          have hnone : ∀ b, NN i ≤ b → b < NN (i + 1) → β b = none := by
            intro b h2 h3
            cases e : β b with
            | none => rfl
            | some Lb =>
              rcases hI.dom b (by rw [e]; simp) with h4 | ⟨k, hk, hLk, h4, h5⟩
              · have := hmono i (Nat.zero_le _) (Nat.le_of_lt hil'); omega
              · have hki : k ≠ i := by intro e; subst e; exact hcon _ hLk hLi0
                rcases Nat.lt_or_ge k i with h6 | h6
                · have := @hmono (k + 1) i (by omega) (Nat.le_of_lt hil'); omega
                · have := @hmono (i + 1) k (by omega) (Nat.le_of_lt hk); omega
          let β2 : Inj := fun b => if NN i ≤ b ∧ b < NN (i + 1) then β1 b else β b
          have ex : Ext0 β β2 := by
            intro b Lb e
            simp only [β2]
            split
            · rename_i h2; rw [hnone b h2.1 h2.2] at e; cases e
            · exact e
          have ex1 : Ext0 β1 β2 := by
            intro b Lb e
            simp only [β2]
            split
            · exact e
            · rename_i h2
              have h3 : β1 b = cut β (NN i) b := by
                by_cases e3 : β1 b = cut β (NN i) b
                · exact e3
                · exact absurd (he.only b e3) h2
              rw [e] at h3
              simp only [cut] at h3
              split at h3
              · exact h3.symm
              · cases h3
          have hfr : ∀ b Lb, NN i ≤ b → b < NN (i + 1) → β1 b = some Lb → w.heap.size ≤ Lb.B := by
            intro b Lb h2 h3 e
            rcases he.fresh b Lb e (by simp only [cut]; rw [if_neg (by omega)]) with h4 | ⟨b0, L0, _, h5, h6, _⟩
            · exact h4
            · omega
          have hblk : ∀ B, B < w.heap.size → w1.heap[B]? = w.heap[B]? := fun B hB => hf.block B hB fun b L _ h2 h3 => by omega
          refine ih _ β2 w1 _ hsz' hcnt ⟨?_, ?_, hclosed', ?_, ?_, ?_, ?_, hsdv' β2 ex, slots' β2 rv ex (hv.mono ex1)⟩
          · exact ((⟨hI.size, hI.defers, fun t => hI.slots t⟩ : FRel no nt β (lv (TM 0) d VV L l.length) a).mono ex).put hdlt (hv.mono ex1) |>.size
          · exact ((⟨hI.size, hI.defers, fun t => hI.slots t⟩ : FRel no nt β (lv (TM 0) d VV L l.length) a).mono ex).put hdlt (hv.mono ex1) |>.defers
          · intro b hb
            by_cases h2 : NN i ≤ b ∧ b < NN (i + 1)
            · exact .inr ⟨i, hil', hLi1, h2.1, h2.2⟩
            · simp only [β2] at hb
              rw [if_neg h2] at hb
              rcases hI.dom b hb with h2 | ⟨k, hk, hLk, h2, h3⟩
              · exact .inl h2
              · exact .inr ⟨k, hk, hsub k hLk, h2, h3⟩
          · refine ⟨fun b Lb e => ex b Lb (hI.ext.old b Lb e), fun b e => ?_, fun b Lb e e0 => ?_⟩
            · by_cases h2 : NN i ≤ b ∧ b < NN (i + 1)
              · have h3 := hmono i (Nat.zero_le _) (Nat.le_of_lt hil')
                have h4 := @hmono (i + 1) l.length (by omega) (Nat.le_refl _)
                omega
              · simp only [β2] at e
                rw [if_neg h2] at e
                exact hI.ext.only b e
            · by_cases h2 : NN i ≤ b ∧ b < NN (i + 1)
              · simp only [β2] at e
                rw [if_pos h2] at e
                have := hfr b Lb h2.1 h2.2 e
                have := hI.frm.size
                exact .inl (by omega)
              · simp only [β2] at e
                rw [if_neg h2] at e
                exact hI.ext.fresh b Lb e e0
          · have h2 := hI.frm
            refine ⟨hf.os.trans h2.os, hf.tape.trans h2.tape, hf.output.trans h2.output, Nat.le_trans h2.size hf.size, fun B hB hne' => ?_⟩
            rw [hblk B (Nat.lt_of_lt_of_le hB h2.size), h2.block B hB hne']
          · intro k hk hk1 hk2 m' hm'
            obtain ⟨h2, h3⟩ := hbars k hk1 hk2
            have hMk := hI.mem k hk h2 h3 m' fun b blk e => hAtL k b blk (hm' b blk e)
            refine hMk.glue hM1 hf.size hblk ?_ (fun _ => rfl) hfr ex ex1
            intro b blk h4 h5 hb
            have hAt : At l.length bar tgt MM L' k b blk := hm' b blk hb
            have hsi := hbi k hk h2 h3
            have key : MM (i + 1) b = some blk → mi' b = some blk := fun e => by
              rcases hQ2 b blk e with ⟨h6, _⟩ | ⟨_, h6⟩
              · omega
              · exact h6
            apply key
            by_cases hex : ∃ j, j < l.length ∧ tgt j = some b ∧ SameSeg bar j k
            · obtain ⟨j, hj, ht, hs⟩ := hex
              have hji : j ≠ i := by intro e; subst e; rw [hti] at ht; cases ht
              have hLj : L' j = false := by
                cases e2 : L' j with
                | false => rfl
                | true => exact absurd (hnone b h4 h5) (hI.sdv j b hj (by show L j = true; rw [← hne j hji]; exact e2) ht)
              have h6 := hAt.neg hj ht hs hLj
              have h7 := hS.tlt' hj ht
              have hij : i < j := by
                rcases Nat.lt_or_ge i j with h8 | h8
                · exact h8
                · have := hmono i h8 (Nat.le_of_lt hil'); omega
              have hbx : ∀ y, i < y → y < j → bar y = false := fun y h8 h9 => by
                cases e2 : bar y with
                | false => rfl
                | true =>
                  have := hsi y e2
                  have := hs y e2
                  omega
              exact hS.down hbq h5 j (by omega) (by omega) (fun x h1 h2 => ⟨hbx x (by omega) h2, fun e3 => hS.uniq hbq h2 hj (fun y h3 h4 => hbx y (by omega) h4) e3 ht⟩) h6
            · have h6 := hAt.2 fun j hj ht hs => hex ⟨j, hj, ht, hs⟩
              rcases Nat.lt_or_ge i k with h7 | h7
              · have hbx : ∀ y, i < y → y < k → bar y = false := fun y h8 h9 => by
                  cases e2 : bar y with
                  | false => rfl
                  | true => exact absurd ⟨h8, h9⟩ (hsi y e2).1
                refine hS.down hbq h5 k (by omega) hk (fun x h1 h2 => ⟨hbx x (by omega) h2, fun e3 => hex ⟨x, by omega, e3, fun y hy => ⟨fun h8 => ?_, fun h8 => by omega⟩⟩⟩) h6
                rw [hbx y (by omega) h8.2] at hy; cases hy
              · have h8 := (hS.mlt k hk b blk h6).1
                have := @hmono k i h7 (Nat.le_of_lt hil')
                omega

end

end Go.Proofs.Ytdlkgdlefbabcaa.AL
