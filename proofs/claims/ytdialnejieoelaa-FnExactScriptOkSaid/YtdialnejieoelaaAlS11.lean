/- A list of steps, in whatever order the model draws: what the runs come to. -/
import Derived.Test.YtdialnejieoelaaAlS10
namespace Go.Proofs.Ytdialnejieoelaa.AL
open Go
set_option linter.unusedVariables false
set_option linter.unusedSimpArgs false
variable {no : Nat → Option Nat} {P : Program}

/-- What holds when the operations of L, and no others, are done. -/
structure Mid (no : Nat → Option Nat) (nt : Nat) (bs len : Nat) (bar : Nat → Bool) (bef : Nat → Nat → Bool) (d : Nat → Option Nat) (TM : Nat → Tm) (MM : Nat → Mem) (NN : Nat → Nat) (VV : Nat → Value) (β0 : Inj) (w0 : World)
    (L : Nat → Bool) (β : Inj) (w : World) (a : Act) : Prop where
  size : nt ≤ a.tmps.size
  defers : a.defers = []
  closed : ∀ j k, j < len → L j = true → bef j k = true → L k = true
  dom : ∀ b, β b ≠ none → b < NN 0 ∨ ∃ k, k < len ∧ L k = true ∧ NN k ≤ b ∧ b < NN (k + 1)
  ext : Ext β0 β bs (NN 0) (NN len) w0
  frm : Frm β0 bs (NN 0) w0 w
  mem : ∀ k, k ≤ len → (∀ j, j < k → bar j = true → L j = true) → (∀ j, j < len → L j = true → bar j = true → j < k) → MRel no β (MM k) w
  slots : ∀ t, VRel no β (lv (TM 0) d VV L len t) (a.tmps.getD t undef)

theorem mono_le {NN : Nat → Nat} {len : Nat} (h : ∀ i, i < len → NN i ≤ NN (i + 1)) {i : Nat} : ∀ j, i ≤ j → j ≤ len → NN i ≤ NN j := by
  intro j
  induction j with
  | zero => intro hij _; have : i = 0 := by omega
            subst this; exact Nat.le_refl _
  | succ j ih =>
    intro hij hj
    by_cases e : i = j + 1
    · subst e; exact Nat.le_refl _
    · exact Nat.le_trans (ih (by omega) (by omega)) (h j (by omega))

theorem tr_draw {bs : Nat} {l : List IOp} {TM : Nat → Tm} {MM : Nat → Mem} {NN : Nat → Nat} {VV : Nat → Value} (hS : Stps P no bs l TM MM NN VV) {nt : Nat} {ops : Array Oper} (hlen : l.length = ops.size)
    (hci : ∀ i o io, ops[i]? = some o → l[i]? = some io → cI P no nt ops (!barrier ops (Region.before ops) i) o = some io) (hed : edgesOk ops = true) (hsl : slotsOk l (Region.before ops) = true)
    {β0 : Inj} {w0 : World} (hβ0 : BLt β0 (NN 0)) {Q : Exit → Act → World → Prop}
    (hQ : ∀ β1 a' w', Ext β0 β1 bs (NN 0) (NN l.length) w0 → FRel no nt β1 (TM l.length) a' → MRel no β1 (MM l.length) w' → Frm β0 bs (NN 0) w0 w' → Q .normal a' w') :
    ∀ (fuel : Nat) (listed : Array Bool) (β : Inj) (w : World) (a : Act), listed.size = ops.size → cnt (fun k => listed.getD k false) l.length ≤ fuel →
      Mid no nt bs l.length (barrier ops (Region.before ops)) (fun j k => ((Region.before ops).getD j 0).testBit k) (fun i => (l[i]?).bind (·.d)) TM MM NN VV β0 w0 (fun k => listed.getD k false) β w a →
      wpAny P .any ops Q fuel listed a w := by
  have fin : ∀ (listed : Array Bool) (β : Inj) (w : World) (a : Act), listed.size = ops.size → (∀ k, k < l.length → listed.getD k false = true) →
      Mid no nt bs l.length (barrier ops (Region.before ops)) (fun j k => ((Region.before ops).getD j 0).testBit k) (fun i => (l[i]?).bind (·.d)) TM MM NN VV β0 w0 (fun k => listed.getD k false) β w a → Q .normal a w := by
    intro listed β w a hsz hall hI
    refine hQ β a w hI.ext ⟨hI.size, hI.defers, fun t => ?_⟩ (hI.mem _ (Nat.le_refl _) (fun j hj _ => hall j hj) (fun j hj _ _ => hj)) hI.frm
    have := hI.slots t
    rw [lv_eq (TM := TM) (len := l.length) rfl (fun i hi => ?_) (Nat.le_refl _) (fun k hk _ => hall k hk) (fun k hk hk' _ => by omega) _ (Nat.le_refl _) (Nat.le_refl _)] at this
    · exact this
    · have hg : l[i]? = some l[i] := List.getElem?_eq_getElem hi
      rw [hS.tm i _ hg]
      simp [hg]
  intro fuel
  induction fuel with
  | zero =>
    intro listed β w a hsz hc hI
    have hall : ∀ k, k < l.length → listed.getD k false = true := cnt_zero (Nat.le_zero.1 hc)
    refine ⟨?_, fin listed β w a hsz hall hI⟩
    apply List.eq_nil_iff_forall_not_mem.2
    intro j hj
    obtain ⟨h1, o, ho, _⟩ := mem_ready.1 hj
    have hjl : j < ops.size := (Array.getElem?_eq_some_iff.1 ho).1
    have := hall j (by omega)
    simp only [Array.getD_eq_getD_getElem?] at h1 this
    rw [Array.getElem?_eq_getElem (by omega)] at h1 this
    simp only [Option.getD_some] at h1 this
    rw [h1] at this; cases this
  | succ fuel ih =>
    intro listed β w a hsz hc hI
    refine ⟨fun hnil => fin listed β w a hsz ?_ hI, fun i hi => ?_⟩
    · intro k
      induction k using Nat.strongRecOn with
      | _ k ihk =>
        intro hk
        cases e : listed.getD k false with
        | true => rfl
        | false =>
          exfalso
          have hk' : k < ops.size := by omega
          have ho : ops[k]? = some ops[k] := Array.getElem?_eq_getElem hk'
          have : k ∈ Region.ready .any ops listed := by
            refine mem_ready.2 ⟨?_, _, ho, fun e' he' hb => ihk e'.on (edgesOk_at hed ho e' he' hb) (by have := edgesOk_at hed ho e' he' hb; omega)⟩
            simp only [Array.getD_eq_getD_getElem?] at e ⊢
            rw [Array.getElem?_eq_getElem (by omega)] at e ⊢
            simpa using e
          rw [hnil] at this; cases this
    · obtain ⟨h1, o, ho, hedge⟩ := mem_ready.1 hi
      have hil : i < ops.size := (Array.getElem?_eq_some_iff.1 ho).1
      have hil' : i < l.length := by omega
      obtain ⟨io, hio⟩ : ∃ io, l[i]? = some io := ⟨_, List.getElem?_eq_getElem hil'⟩
      have hci' := hci i o io ho hio
      obtain ⟨hg, hop, hd, hq, hdlt, hcall⟩ := cI_inv hci'
      have hLi : listed.getD i false = false := by
        simp only [Array.getD_eq_getD_getElem?] at h1 ⊢
        rw [Array.getElem?_eq_getElem (by omega)] at h1 ⊢
        simpa using h1
      let L : Nat → Bool := fun k => listed.getD k false
      let L' : Nat → Bool := fun k => (listed.setIfInBounds i true).getD k false
      let bef : Nat → Nat → Bool := fun j k => ((Region.before ops).getD j 0).testBit k
      let d : Nat → Option Nat := fun i => (l[i]?).bind (·.d)
      have hLi0 : L i = false := hLi
      have hcon : ∀ k, L k = true → L k = false → False := fun k h1 h2 => by rw [h1] at h2; cases h2
      have hLi1 : L' i = true := by simp [L', hsz, hil]
      have hne : ∀ k, k ≠ i → L' k = L k := fun k hk => getD_set_ne false (Ne.symm hk)
      have hsub : ∀ k, L k = true → L' k = true := fun k hk => getD_set_true hk
      have hbef : ∀ k, bef i k = true → L k = true := by
        intro k hk
        obtain ⟨e, he, hb, h2⟩ := before_bit ho hk
        have hon := hedge e (by simpa using he) hb
        rcases h2 with h2 | ⟨h2, h3⟩
        · rw [← h2]; exact hon
        · exact hI.closed e.on k (by omega) hon h3
      have hafter : ∀ k, k < l.length → bef k i = true → L k = false := by
        intro k hk hb
        cases e : L k with
        | false => rfl
        | true =>
          exact (hcon i (hI.closed k i hk e hb) hLi0).elim
      have hdi : d i = io.d := by simp [d, hio]
      have hx : ∀ t, d i = some t → ∀ k, i < k → k < l.length → d k = some t → L k = false := by
        intro t h2 k hik hk h3
        obtain ⟨y, hy⟩ : ∃ y, l[k]? = some y := ⟨_, List.getElem?_eq_getElem hk⟩
        rw [hdi] at h2
        have h3' : y.d = some t := by simpa [d, hy] using h3
        rcases slotsOk_at hsl hio hy hik with h4 | h4
        · exact hafter k hk h4
        · exact absurd (by simp [IOp.names, h3']) (h4.1 t h2)
      have hlvi : ∀ t, t ∈ io.names → lv (TM 0) d VV L l.length t = TM i t := by
        intro t ht
        refine lv_eq (TM := TM) (len := l.length) rfl (fun j hj => ?_) (Nat.le_of_lt hil') (fun k hk h2 => ?_) (fun k hk hk' h2 => ?_) _ (Nat.le_of_lt hil') (Nat.le_refl _)
        · have hg : l[j]? = some l[j] := List.getElem?_eq_getElem hj
          rw [hS.tm j _ hg]; simp [d, hg]
        · obtain ⟨x, hxx⟩ : ∃ x, l[k]? = some x := ⟨_, List.getElem?_eq_getElem (by omega)⟩
          have h2' : x.d = some t := by simpa [d, hxx] using h2
          rcases slotsOk_at hsl hxx hio hk with h4 | h4
          · exact hbef k h4
          · exact absurd ht (h4.1 t h2')
        · by_cases e : k = i
          · subst e; exact hLi0
          · obtain ⟨y, hy⟩ : ∃ y, l[k]? = some y := ⟨_, List.getElem?_eq_getElem hk'⟩
            have h2' : y.d = some t := by simpa [d, hy] using h2
            rcases slotsOk_at hsl hio hy (by omega : i < k) with h4 | h4
            · exact hafter k hk' h4
            · exact absurd ht (h4.2 t h2')
      have hvt : ∀ t, t ∈ io.names → VRel no β (TM i t) (a.tmps.getD t undef) := fun t ht => by rw [← hlvi t ht]; exact hI.slots t
      have hw := wanted_iff (nt := nt) (β := β) (tm := TM i) (a := a) hg fun g b e => hvt g (by simp [IOp.names, e])
      have hclosed' : ∀ j k, j < l.length → L' j = true → bef j k = true → L' k = true := by
        intro j k hj hLj hb
        by_cases e : j = i
        · subst e; exact hsub k (hbef k hb)
        · exact hsub k (hI.closed j k hj (by have h9 := hLj; rw [hne j e] at h9; exact h9) hb)
      have hmono := @mono_le NN l.length hS.mono
      have hcnt : cnt L' l.length ≤ fuel := by
        have h2 := cnt_add hLi0 hLi1 hne l.length
        rw [if_pos hil'] at h2
        have h3 : cnt L l.length ≤ fuel + 1 := hc
        omega
      have hsz' : (listed.setIfInBounds i true).size = ops.size := by simp [hsz]
      have quietRow : ∀ k, k ≤ l.length → i + 1 ≤ k → (∀ j, i < j → j < k → barrier ops (Region.before ops) j = false) → ∀ b blk, b < NN (i + 1) → MM k b = some blk → MM (i + 1) b = some blk := by
        intro k
        induction k with
        | zero => intro _ h; omega
        | succ k ihk =>
          intro hk hik hnb b blk hb hm
          by_cases e : i = k
          · subst e; exact hm
          · obtain ⟨y, hy⟩ : ∃ y, l[k]? = some y := ⟨_, List.getElem?_eq_getElem (by omega)⟩
            obtain ⟨ok, hok⟩ : ∃ ok, ops[k]? = some ok := ⟨_, Array.getElem?_eq_getElem (by omega)⟩
            have hyq : y.q = true := by
              have := (cI_inv (hci k ok y hok hy)).2.2.2.1
              rw [this, hnb k (by omega) (by omega)]; rfl
            have hb' : b < NN k := Nat.lt_of_lt_of_le hb (hmono k (by omega) (by omega))
            have hm' : MM k b = some blk := by
              rcases hS.act k y hy with ⟨_, _, h2, _⟩ | ⟨_, _, h2⟩
              · rw [h2] at hm; exact hm
              · exact h2 hyq b blk hb' hm
            exact ihk (by omega) (by omega) (fun j h2 h3 => hnb j h2 (by omega)) b blk hb hm'
      -- the step of the slots
      have slots' : ∀ (β2 : Inj) (rv : Value), Ext0 β β2 → VRel no β2 (VV i) rv → ∀ t, VRel no β2 (lv (TM 0) d VV L' l.length t) ((a.put o.dst rv).tmps.getD t undef) := by
        intro β2 rv hex hv t
        rw [lv_add hil' hLi0 hLi1 hne (hx t) l.length hil' (Nat.le_refl _)]
        have hF : FRel no nt β2 (lv (TM 0) d VV L l.length) a := ⟨hI.size, hI.defers, fun t => (hI.slots t).mono hex⟩
        have := (hF.put (d := io.d) (fun d' e => by rw [hd] at e; exact hdlt d' e) hv).slots t
        rw [put_at, ← hd] at *
        rw [hdi]
        exact this
      by_cases hbar : barrier ops (Region.before ops) i = true
      · -- an operation in order with all others
        have hlt : ∀ k, k < l.length → k ≠ i → (L k = true ↔ k < i) := by
          intro k hk hki
          obtain ⟨h2, h3⟩ := barrier_at hbar (by omega : k < ops.size) hki
          constructor
          · intro hL
            rcases Nat.lt_or_ge k i with h4 | h4
            · exact h4
            · exact (hcon k hL (hafter k hk (h3 (by omega)))).elim
          · intro h4; exact hbef k (h2 h4)
        have hdomi : ∀ b, β b ≠ none → b < NN i := by
          intro b hb
          rcases hI.dom b hb with h2 | ⟨k, hk, hLk, h2, h3⟩
          · exact Nat.lt_of_lt_of_le h2 (hmono i (Nat.zero_le _) (Nat.le_of_lt hil'))
          · have hki : k ≠ i := by intro e; subst e; exact hcon _ hLk hLi0
            have := (hlt k hk hki).1 hLk
            exact Nat.lt_of_lt_of_le h3 (hmono i (by omega) (Nat.le_of_lt hil'))
        have hMi : MRel no β (MM i) w := hI.mem i (Nat.le_of_lt hil') (fun j hj _ => (hlt j (by omega) (by omega)).2 hj) (fun j hj hLj _ => (hlt j hj (by intro e; subst e; exact hcon _ hLj hLi0)).1 hLj)
        have hexti : Ext β0 β bs (NN 0) (NN i) w0 := by
          refine ⟨hI.ext.old, fun b e => ?_, hI.ext.fresh⟩
          have h2 := (hI.ext.only b e).1
          refine ⟨h2, hdomi b fun e' => ?_⟩
          rw [e', hβ0 b h2] at e; exact e rfl
        have hBi : BLt β (NN i) := by
          intro b hb
          cases e : β b with
          | none => rfl
          | some L => have := hdomi b (by rw [e]; simp); omega
        -- what follows once the operation is done
        have go : ∀ (β1 : Inj) (w1 : World) (rv : Value), Ext β β1 bs (NN i) (NN (i + 1)) w → VRel no β1 (VV i) rv → MRel no β1 (MM (i + 1)) w1 → Frm β bs (NN i) w w1 → wpAny P .any ops Q fuel (listed.setIfInBounds i true) (a.put o.dst rv) w1 := by
          intro β1 w1 rv he hv hM1 hf
          have hB1 : BLt β1 (NN (i + 1)) := hBi.ext he (hS.mono i hil')
          refine ih _ β1 w1 _ hsz' hcnt ⟨?_, ?_, hclosed', ?_, ?_, ?_, ?_, slots' β1 rv he.old hv⟩
          · exact ((⟨hI.size, hI.defers, fun t => hI.slots t⟩ : FRel no nt β (lv (TM 0) d VV L l.length) a).mono he.old).put hdlt hv |>.size
          · exact ((⟨hI.size, hI.defers, fun t => hI.slots t⟩ : FRel no nt β (lv (TM 0) d VV L l.length) a).mono he.old).put hdlt hv |>.defers
          · intro b hb
            by_cases e : β1 b = β b
            · rw [e] at hb
              rcases hI.dom b hb with h2 | ⟨k, hk, hLk, h2, h3⟩
              · exact .inl h2
              · exact .inr ⟨k, hk, hsub k hLk, h2, h3⟩
            · obtain ⟨h2, h3⟩ := he.only b e
              exact .inr ⟨i, hil', hLi1, h2, h3⟩
          · have := hexti.trans he (hmono i (Nat.zero_le _) (Nat.le_of_lt hil')) (hS.mono i hil') hI.frm.size fun b hb _ => hβ0 b hb
            exact ⟨this.old, fun b e => ⟨(this.only b e).1, Nat.lt_of_lt_of_le (this.only b e).2 (hmono l.length (by omega) (Nat.le_refl _))⟩, this.fresh⟩
          · exact hI.frm.trans hexti hf fun b hb _ => hβ0 b hb
          · intro k hk hk1 hk2
            have hik : i < k := hk2 i hil' hLi1 hbar
            have hnb : ∀ j, i < j → j < k → barrier ops (Region.before ops) j = false := by
              intro j h2 h3
              cases e : barrier ops (Region.before ops) j with
              | false => rfl
              | true =>
                have h4 := hk1 j h3 e
                have h5 : L j = true := by rw [← hne j (by omega)]; exact h4
                have := (hlt j (by omega) (by omega)).1 h5
                omega
            exact hM1.ofDom fun b L blk e hb => quietRow k hk hik hnb b blk (by
              rcases Nat.lt_or_ge b (NN (i + 1)) with h2 | h2
              · exact h2
              · rw [hB1 b h2] at e; cases e) hb
        unfold wpOp
        rw [ho]
        rcases hS.act i io hio with ⟨⟨g, b, hgd, hsk⟩, hv0, hm0, hn0⟩ | ⟨hgd, hopS, _⟩
        · have hwn := hw.2.2 g b hgd hsk
          simp only []
          rw [if_neg (by rw [hwn]; decide)]
          refine go β w undef (Ext.refl ..) ?_ (by rw [hm0]; exact hMi) (Frm.refl ..)
          rw [hv0]; exact VRel.tuple rfl fun i x y hx => by simp at hx
        · have hwn : Region.wanted o (yielded ops a.tmps) = true := by
            cases e : io.g with
            | none => exact hw.1 e
            | some p => obtain ⟨g, b⟩ := p; exact hw.2.1 g b e (hgd g b e)
          simp only []
          rw [if_pos hwn]
          rw [hq, hbar] at hopS
          refine .inl (hopS nt o β w a _ Q hop hcall hBi ⟨hI.size, hI.defers, fun t ht => hvt t (by simp [IOp.names, ht])⟩ hMi ?_)
          intro rv β1 w1 he hv hM1 hf
          exact go β1 w1 rv he hv hM1 hf
      · -- an operation that touches nothing of what was there
        have hbar' : barrier ops (Region.before ops) i = false := by simpa using hbar
        have hMi : MRel no β (MM i) w := hI.mem i (Nat.le_of_lt hil') (fun j hj hb => by
            exact hbef j ((barrier_at hb hil (by omega : i ≠ j)).2 (by omega)))
          (fun j hj hLj hb => by
            have hji : j ≠ i := by intro e; subst e; rw [hbar'] at hb; cases hb
            rcases Nat.lt_or_ge j i with h2 | h2
            · exact h2
            · have h3 := (barrier_at hb hil (Ne.symm hji)).1 (by omega)
              exact (hcon j hLj (hafter j hj h3)).elim)
        have hbars : ∀ k, (∀ j, j < k → barrier ops (Region.before ops) j = true → L' j = true) → (∀ j, j < l.length → L' j = true → barrier ops (Region.before ops) j = true → j < k) →
            (∀ j, j < k → barrier ops (Region.before ops) j = true → L j = true) ∧ ∀ j, j < l.length → L j = true → barrier ops (Region.before ops) j = true → j < k := by
          intro k h2 h3
          refine ⟨fun j hj hb => ?_, fun j hj hLj hb => h3 j hj (hsub j hLj) hb⟩
          have hji : j ≠ i := by intro e; subst e; rw [hbar'] at hb; cases hb
          rw [← hne j hji]; exact h2 j hj hb
        unfold wpOp
        rw [ho]
        rcases hS.act i io hio with ⟨⟨g, b, hgd, hsk⟩, hv0, hm0, hn0⟩ | ⟨hgd, hopS, _⟩
        · have hwn := hw.2.2 g b hgd hsk
          simp only []
          rw [if_neg (by rw [hwn]; decide)]
          have hvu : VRel no β (VV i) undef := by rw [hv0]; exact VRel.tuple rfl fun i x y hx => by simp at hx
          refine ih _ β w _ hsz' hcnt ⟨?_, ?_, hclosed', ?_, hI.ext, hI.frm, ?_, slots' β undef (fun _ _ h => h) hvu⟩
          · exact ((⟨hI.size, hI.defers, fun t => hI.slots t⟩ : FRel no nt β (lv (TM 0) d VV L l.length) a)).put hdlt hvu |>.size
          · exact ((⟨hI.size, hI.defers, fun t => hI.slots t⟩ : FRel no nt β (lv (TM 0) d VV L l.length) a)).put hdlt hvu |>.defers
          · intro b hb
            rcases hI.dom b hb with h2 | ⟨k, hk, hLk, h2, h3⟩
            · exact .inl h2
            · exact .inr ⟨k, hk, hsub k hLk, h2, h3⟩
          · intro k hk hk1 hk2
            obtain ⟨h2, h3⟩ := hbars k hk1 hk2
            exact hI.mem k hk h2 h3
        · have hwn : Region.wanted o (yielded ops a.tmps) = true := by
            cases e : io.g with
            | none => exact hw.1 e
            | some p => obtain ⟨g, b⟩ := p; exact hw.2.1 g b e (hgd g b e)
          simp only []
          rw [if_pos hwn]
          rw [hq, hbar'] at hopS
          have hcb : BLt (cut β (NN i)) (NN i) := fun b hb => by simp only [cut]; rw [if_neg (by omega)]
          have hTi := hS.tlt i (Nat.le_of_lt hil')
          have hMl := hS.mlt i (Nat.le_of_lt hil')
          refine .inl (hopS nt o (cut β (NN i)) w a _ Q hop hcall hcb ⟨hI.size, hI.defers, fun t ht => (hvt t (by simp [IOp.names, ht])).cut (hTi t)⟩ (hMi.cut hMl) ?_)
          intro rv β1 w1 he hv hM1 hf
          have he : Ext (cut β (NN i)) β1 (NN i) (NN i) (NN (i + 1)) w := he
          have hf : Frm (cut β (NN i)) (NN i) (NN i) w w1 := hf
          have hnone : ∀ b, NN i ≤ b → b < NN (i + 1) → β b = none := by
            intro b h2 h3
            cases e : β b with
            | none => rfl
            | some Lb =>
              rcases hI.dom b (by rw [e]; simp) with h4 | ⟨k, hk, hLk, h4, h5⟩
              · have := hmono i (Nat.zero_le _) (Nat.le_of_lt hil'); omega
              · have hki : k ≠ i := by intro e; subst e; exact hcon _ hLk hLi0
                rcases Nat.lt_or_ge k i with h6 | h6
                · have := @hmono (k + 1) i (by omega) (Nat.le_of_lt hil'); omega
                · have := @hmono (i + 1) k (by omega) (Nat.le_of_lt hk); omega
          let β2 : Inj := fun b => if NN i ≤ b ∧ b < NN (i + 1) then β1 b else β b
          have ex : Ext0 β β2 := by
            intro b Lb e
            simp only [β2]
            split
            · rename_i h2; rw [hnone b h2.1 h2.2] at e; cases e
            · exact e
          have ex1 : Ext0 β1 β2 := by
            intro b Lb e
            simp only [β2]
            split
            · exact e
            · rename_i h2
              have h3 : β1 b = cut β (NN i) b := by
                by_cases e3 : β1 b = cut β (NN i) b
                · exact e3
                · exact absurd (he.only b e3) h2
              rw [e] at h3
              simp only [cut] at h3
              split at h3
              · exact h3.symm
              · cases h3
          have hfr : ∀ b Lb, NN i ≤ b → b < NN (i + 1) → β1 b = some Lb → w.heap.size ≤ Lb.B := by
            intro b Lb h2 h3 e
            rcases he.fresh b Lb e (by simp only [cut]; rw [if_neg (by omega)]) with h4 | ⟨b0, L0, _, h5, h6, _⟩
            · exact h4
            · omega
          have hblk : ∀ B, B < w.heap.size → w1.heap[B]? = w.heap[B]? := fun B hB => hf.block B hB fun b L _ h2 h3 => by omega
          refine ih _ β2 w1 _ hsz' hcnt ⟨?_, ?_, hclosed', ?_, ?_, ?_, ?_, slots' β2 rv ex (hv.mono ex1)⟩
          · exact ((⟨hI.size, hI.defers, fun t => hI.slots t⟩ : FRel no nt β (lv (TM 0) d VV L l.length) a).mono ex).put hdlt (hv.mono ex1) |>.size
          · exact ((⟨hI.size, hI.defers, fun t => hI.slots t⟩ : FRel no nt β (lv (TM 0) d VV L l.length) a).mono ex).put hdlt (hv.mono ex1) |>.defers
          · intro b hb
            by_cases h2 : NN i ≤ b ∧ b < NN (i + 1)
            · exact .inr ⟨i, hil', hLi1, h2.1, h2.2⟩
            · simp only [β2] at hb
              rw [if_neg h2] at hb
              rcases hI.dom b hb with h2 | ⟨k, hk, hLk, h2, h3⟩
              · exact .inl h2
              · exact .inr ⟨k, hk, hsub k hLk, h2, h3⟩
          · refine ⟨fun b Lb e => ex b Lb (hI.ext.old b Lb e), fun b e => ?_, fun b Lb e e0 => ?_⟩
            · by_cases h2 : NN i ≤ b ∧ b < NN (i + 1)
              · have h3 := hmono i (Nat.zero_le _) (Nat.le_of_lt hil')
                have h4 := @hmono (i + 1) l.length (by omega) (Nat.le_refl _)
                omega
              · simp only [β2] at e
                rw [if_neg h2] at e
                exact hI.ext.only b e
            · by_cases h2 : NN i ≤ b ∧ b < NN (i + 1)
              · simp only [β2] at e
                rw [if_pos h2] at e
                have := hfr b Lb h2.1 h2.2 e
                have := hI.frm.size
                exact .inl (by omega)
              · simp only [β2] at e
                rw [if_neg h2] at e
                exact hI.ext.fresh b Lb e e0
          · have h2 := hI.frm
            refine ⟨hf.os.trans h2.os, hf.tape.trans h2.tape, hf.output.trans h2.output, Nat.le_trans h2.size hf.size, fun B hB hne' => ?_⟩
            rw [hblk B (Nat.lt_of_lt_of_le hB h2.size), h2.block B hB hne']
          · intro k hk hk1 hk2
            obtain ⟨h2, h3⟩ := hbars k hk1 hk2
            have hMk := hI.mem k hk h2 h3
            refine hMk.glue hM1 hf.size hblk ?_ (fun _ => rfl) hfr ex ex1
            intro b blk h4 h5 hb
            rcases Nat.lt_or_ge i k with h6 | h6
            · refine quietRow k hk h6 (fun j h7 h8 => ?_) b blk h5 hb
              cases e : barrier ops (Region.before ops) j with
              | false => rfl
              | true =>
                have h9 := (barrier_at e hil (by omega : i ≠ j)).1 h7
                have h10 := hafter j (by omega) h9
                exact (hcon j (h2 j h8 e) h10).elim
            · have h7 := (hS.mlt k hk b blk hb).1
              have := @hmono k i h6 (Nat.le_of_lt hil')
              omega

end Go.Proofs.Ytdialnejieoelaa.AL
