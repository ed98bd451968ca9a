/- Contracts of functions that hand out memory of their own, or write memory that they were handed. -/
import Derived.Test.YtdialnejieoelaaV5
namespace Go.Proofs.Ytdialnejieoelaa.AL
open Go
set_option linter.unusedVariables false
set_option linter.unusedSimpArgs false
def rens (f : V → Option V) : List V → Option (List V)
 | [] => some []
 | v :: l => match f v, rens f l with
   | some u, some us => some (u :: us)
   | _, _ => none
def V.ren (s : Nat → Option Nat) : Nat → V → Option V
 | 0, _ => none
 | fu + 1, v => match v with
   | .w x => some (.w x)
   | .sl k r => some (.sl k r)
   | .rp r o => some (.rp r o)
   | .raw x => some (.raw x)
   | .agg cs => match rens (V.ren s fu) cs with
     | some us => some (.agg us)
     | none => none
   | .tup cs => match rens (V.ren s fu) cs with
     | some us => some (.tup us)
     | none => none
   | .fn f cs => match rens (V.ren s fu) cs with
     | some us => some (.fn f us)
     | none => none
   | .cp b o => match s b with
     | some b' => some (.cp b' o)
     | none => none
   | .ls b len => match s b with
     | some b' => some (.ls b' len)
     | none => none
   | .ap b len j o => match s b with
     | some b' => some (.ap b' len j o)
     | none => none
theorem rens_rel {R R' : V → Value → Prop} {f : V → Option V} (hf : ∀ v u x, f v = some u → R v x → R' u x) : ∀ {l us l'}, rens f l = some us → Pt R l l' → Pt R' us l'
 | [], us, l', h, hp => by simp [rens] at h; subst h; rw [hp.unnil]; exact Pt.nil
 | v :: l, us, l', h, hp => by
   obtain ⟨x, r, rfl, h1, h2⟩ := hp.uncons
   simp only [rens] at h
   split at h
   · rename_i u us1 e1 e2
     cases h
     exact Pt.cons (hf _ _ _ e1 h1) (rens_rel hf e2 h2)
   · cases h
theorem ren_rel {M M' : Mem} {Z Z' : Zl} {s : Nat → Option Nat} (hM : sub M M') (hs : ∀ (b b' : Nat) p, s b = some b' → Z[b]? = some p → ∃ p', Z'[b']? = some p' ∧ grow p p') : ∀ fu v u x, V.ren s fu v = some u → RL M Z v x → RL M' Z' u x
 | 0, v, u, x, h, _ => by cases h
 | fu + 1, v, u, x, h, hr => by
   have ih := ren_rel hM hs fu
   cases v with
   | w v => cases h; obtain ⟨rfl, hf⟩ := hr.w_inv; exact .fz (.w hf)
   | sl k rows => cases h; exact .fz (hr.sl_inv.mono hM)
   | rp row off => cases h; exact .fz (hr.rp_inv.mono hM)
   | raw v => cases h; obtain ⟨rfl, hf⟩ := hr.raw_inv; exact .fz (.raw hf)
   | agg cs =>
     simp only [V.ren] at h
     split at h
     · rename_i us e1
       cases h
       obtain ⟨vs, rfl, hl, hh⟩ := hr.agg_inv
       have := rens_rel (R := RL M Z) (R' := RL M' Z') ih e1 (l' := vs.toList) ⟨by simpa using hl, fun i x y h1 h2 => hh i x y h1 (by simpa using h2)⟩
       exact .agg (by simpa using this.1) fun i x y h1 h2 => this.2 i x y h1 (by simpa using h2)
     · cases h
   | tup cs =>
     simp only [V.ren] at h
     split at h
     · rename_i us e1
       cases h
       obtain ⟨vs, rfl, hl, hh⟩ := hr.tup_inv
       have := rens_rel (R := RL M Z) (R' := RL M' Z') ih e1 (l' := vs.toList) ⟨by simpa using hl, fun i x y h1 h2 => hh i x y h1 (by simpa using h2)⟩
       exact .tup (by simpa using this.1) fun i x y h1 h2 => this.2 i x y h1 (by simpa using h2)
     · cases h
   | fn f cs =>
     simp only [V.ren] at h
     split at h
     · rename_i us e1
       cases h
       obtain ⟨vs, rfl, hl, hh⟩ := hr.fn_inv
       have := rens_rel (R := RL M Z) (R' := RL M' Z') ih e1 (l' := vs.toList) ⟨by simpa using hl, fun i x y h1 h2 => hh i x y h1 (by simpa using h2)⟩
       exact .fn (by simpa using this.1) fun i x y h1 h2 => this.2 i x y h1 (by simpa using h2)
     · cases h
   | cp b off =>
     simp only [V.ren] at h
     split at h
     · rename_i b' hb
       cases h
       obtain ⟨a, row', hz, rfl, hc⟩ := hr.cp_inv'
       obtain ⟨⟨a1, lb1⟩, h1, hg⟩ := hs _ _ _ hb hz
       obtain ⟨e, e1⟩ := hg.cl hc
       simp only at e e1
       subst e1
       exact .cp h1 e
     · cases h
   | ls b len =>
     simp only [V.ren] at h
     split at h
     · rename_i b' hb
       cases h
       cases hr with
       | fz h => cases h
       | ls hz hle hw h =>
         obtain ⟨⟨a1, lb1⟩, h1, g⟩ := hs _ _ _ hb hz
         rcases g.arr with ⟨r1, e, g1, g2⟩ | e
         · simp only at e g2
           subst e
           exact .ls h1 (by omega) hw fun e => by rw [h (by omega), g2 (by omega)]
         · simp only at e
           subst e
           exact .lsD h1 hw
       | lsD hz hw =>
         obtain ⟨⟨a1, lb1⟩, h1, g⟩ := hs _ _ _ hb hz
         have e := g.deadI
         simp only at e
         subst e
         exact .lsD h1 hw
     · cases h
   | ap b len j off =>
     simp only [V.ren] at h
     split at h
     · rename_i b' hb
       cases h
       cases hr with
       | fz h => cases h
       | ap hz hle hw h =>
         obtain ⟨⟨a1, lb1⟩, h1, g⟩ := hs _ _ _ hb hz
         rcases g.arr with ⟨r1, e, g1, g2⟩ | e
         · simp only at e g2
           subst e
           refine .ap h1 (by omega) hw fun e => ?_
           obtain ⟨ad, e1, e2⟩ := h (by omega)
           exact ⟨ad, by rw [g2 (by omega), e1], e2⟩
         · simp only at e
           subst e
           exact .apD h1 hw
       | apD hz hw =>
         obtain ⟨⟨a1, lb1⟩, h1, g⟩ := hs _ _ _ hb hz
         have e := g.deadI
         simp only at e
         subst e
         exact .apD h1 hw
     · cases h
def posN : List Nat → Nat → Option Nat
 | [], _ => none
 | i :: l, j => match Nat.beq i j with
   | true => some 0
   | false => match posN l j with
     | some k => some (k + 1)
     | none => none
theorem posN_inv : ∀ {l : List Nat} {j k : Nat}, posN l j = some k → l[k]? = some j
 | i :: l, j, k, h => by
   simp only [posN] at h
   split at h
   · rename_i e; cases h; rw [Nat.eq_of_beq_eq_true e]; rfl
   · split at h
     · rename_i k' e; cases h; exact (posN_inv e : l[k']? = some j)
     · cases h
theorem posN_none : ∀ {l : List Nat} {j : Nat}, posN l j = none → j ∉ l
 | [], j, _ => by simp
 | i :: l, j, h => by
   simp only [posN] at h
   split at h
   · cases h
   · rename_i e
     split at h
     · cases h
     · rename_i e2
       simp only [List.mem_cons, not_or]
       exact ⟨fun e' => Nat.ne_of_beq_eq_false e e'.symm, posN_none e2⟩
def mapO {α γ : Type} (f : α → Option γ) : List α → Option (List γ)
 | [] => some []
 | x :: l => match f x, mapO f l with
   | some y, some r => some (y :: r)
   | _, _ => none
theorem mapO_inv {α γ : Type} {f : α → Option γ} : ∀ {l : List α} {r : List γ}, mapO f l = some r → r.length = l.length ∧ ∀ (i : Nat) x, l[i]? = some x → ∃ y, f x = some y ∧ r[i]? = some y
 | [], r, h => by simp [mapO] at h; subst h; exact ⟨rfl, fun i x h => by simp at h⟩
 | x :: l, r, h => by
   simp only [mapO] at h
   split at h
   · rename_i y r' e1 e2
     cases h
     obtain ⟨h1, h2⟩ := mapO_inv e2
     refine ⟨by simp [h1], fun i x' hx => ?_⟩
     cases i with
     | zero => simp at hx; subst hx; exact ⟨y, e1, rfl⟩
     | succ i => exact h2 i x' (by simpa using hx)
   · cases h
def LB.froz : LB → Bool
 | .cell row => fzs row
 | .arr .. => true
 | .gone => false
 | .dead => true
theorem LB.froz_rel {M Z lb cells} (h : LB.rel M Z lb cells) (hf : lb.froz = true) {M' : Mem} (hs : sub M M') (Z') : LB.rel M' Z' lb cells := by
 cases lb with
 | cell row =>
   obtain ⟨h1, _⟩ := fzs_rel (M := M) (Z := Z) h hf
   exact h1.mono fun _ _ h => .fz (h.mono hs)
 | arr k rows =>
   obtain ⟨rows', h1, h2, h3, h4, h5⟩ := h
   exact ⟨rows', h1, h2, h3, fun i r r' hr hr' => (h4 i r r' hr hr').mono fun x y => RF.mono hs, h5⟩
 | gone => cases hf
 | dead => exact h.elim
theorem LB.at.froz {M Z m a lb} (h : LB.at M Z m a lb) (hf : lb.froz = true) : ∃ cells, m a = some ⟨cells, true, lb.sz⟩ ∧ LB.rel M Z lb cells := by
 cases lb with
 | cell row => exact h
 | arr k rows => exact h
 | gone => cases hf
 | dead => exact h.elim
def adrs (Z : Zl) : List Nat := Z.filterMap (·.1)
theorem adrs_mem {Z : Zl} {a : Nat} : a ∈ adrs Z ↔ ∃ (i : Nat) (lb : LB), Z[i]? = some (some a, lb) := by
 unfold adrs
 rw [List.mem_filterMap]
 constructor
 · rintro ⟨⟨a', lb⟩, h1, h2⟩
   obtain ⟨i, hi⟩ := List.mem_iff_getElem?.1 h1
   simp only at h2
   subst h2
   exact ⟨i, lb, hi⟩
 · rintro ⟨i, lb, h⟩
   exact ⟨(some a, lb), List.mem_of_getElem? h, rfl⟩
structure Lent (bs n : Nat) (Ma m : Mem) (Z0 : Zl) (L : List LB) : Prop where
 hL : Z0.map (·.2) = L
 low : ∀ a, a ∈ adrs Z0 → bs ≤ a ∧ a < n ∧ Ma a = none
 nil : ∀ (i : Nat) lb, Z0[i]? = some (none, lb) → lb = .dead ∨ ∃ k, lb = .arr k []
 inj : ∀ (i j : Nat) a lb lb', Z0[i]? = some (some a, lb) → Z0[j]? = some (some a, lb') → i = j
 cell : ∀ (i : Nat) a lb, Z0[i]? = some (some a, lb) → ∃ cells, m a = some ⟨cells, true, lb.sz⟩ ∧ lb.rel Ma Z0 cells
structure Back (n n1 : Nat) (Ma m m1 : Mem) (Z0 : Zl) (M1 : Mem) (Z1 : Zl) : Prop where
 cell : ∀ (i : Nat) a lb, Z1[i]? = some (some a, lb) → (a ∈ adrs Z0 ∨ n ≤ a) ∧ a < n1 ∧ ∃ cells, m1 a = some ⟨cells, true, lb.sz⟩ ∧ lb.rel M1 Z1 cells
 froz : ∀ (i : Nat) p, Z1[i]? = some p → p.2.froz = true
 nil : ∀ (i : Nat) lb, Z1[i]? = some (none, lb) → lb = .dead ∨ ∃ k, lb = .arr k []
 inj : ∀ (i j : Nat) a lb lb', Z1[i]? = some (some a, lb) → Z1[j]? = some (some a, lb') → i = j
 hM : ∀ b x, M1 b = some x → m1 b = some x ∧ (Ma b = some x ∨ n ≤ b) ∧ ∀ (i : Nat) lb, Z1[i]? ≠ some (some b, lb)
 hma : sub Ma M1
 keep : ∀ b x, b ∉ adrs Z0 → m b = some x → m1 b = some x
 ext : ∀ (b : Nat) p, Z0[b]? = some p → ∃ p1, Z1[b]? = some p1 ∧ grow p p1
 lo : ∀ (i : Nat) a lb, Z1[i]? = some (some a, lb) → n ≤ a ∨ ∃ lb0, Z0[i]? = some (some a, lb0)
structure GV (G : Prg) (f : Nat) (L0 : List LB) (vargs : List V) (post : V → List LB → Prop) : Prop where
 run : ∀ args bs m n Ma Z0, Fresh m n → bs ≤ n → sub Ma m → Lent bs n Ma m Z0 L0 → Pt (RL Ma Z0) vargs args →
  CallW G f args bs m n fun v m1 n1 => ∃ u M1 Z1, RL M1 Z1 u v ∧ post u (Z1.map (·.2)) ∧ Back n n1 Ma m m1 Z0 M1 Z1
def RetG (r : Nat) (res : List RV) (post : V → List LB → Prop) (e : Ex) (tl : Tl) (L : List LB) : Prop :=
 (e = .normal ∨ e = .ret) ∧ ∃ v u u' L1 K, retV tl L res = some v ∧ V.ren (posN (List.range r ++ K)) 6 v = some u ∧ Wk u u' ∧ mapO (fun i => L[i]?) (List.range r ++ K) = some L1 ∧ L1.all LB.froz = true ∧ (List.range r ++ K).Nodup ∧ post u' L1
theorem gv_in {G f body res L0 vargs post} (hG : G f = some ⟨body, res⟩) (h : VC L0.length G body (RetG L0.length res post) (tlOf 0 vargs) L0) : GV G f L0 vargs post := by
 refine ⟨fun args bs m n Ma Z0 hF hb hs hA hp => ?_⟩
 have hZl : Z0.length = L0.length := by rw [← hA.hL]; simp
 have hM : StM (N := L0.length) ⟨fun b => if b ∈ adrs Z0 then none else m b, Ma, n, bs, adrs Z0, Z0.map (·.1), Nat.le_of_eq (by rw [List.length_map, hZl])⟩ Z0 Ma L0 m n := by
  refine ⟨hb, Nat.le_refl _, hF, hA.hL, fun b x hx => ⟨hs b x hx, .inl hx, fun i lb e => ?_⟩, fun b x hx => ?_, fun b hb' => ?_, sub_refl _, fun a ha => ⟨(hA.low a ha).1, if_pos ha, (hA.low a ha).2.1⟩, fun i a lb e => ?_, hA.nil, hA.inj, fun i a lb e => .inr (by rw [List.getElem?_map, e]; rfl)⟩
  · rw [(hA.low b (adrs_mem.2 ⟨i, lb, e⟩)).2.2] at hx; cases hx
  · simp only at hx
    split at hx
    · cases hx
    · exact hx
  · simp only
    split
    · rfl
    · exact hF b hb'
  · have hm := adrs_mem.2 ⟨i, lb, e⟩
    obtain ⟨cells, h1, h2⟩ := hA.cell i a lb e
    exact ⟨.inr hm, (hA.low a hm).2.1, .of h1 h2⟩
 have hS : Slots Ma Z0 (tlOf 0 vargs) (tm0 args) := fun t v hv => by
  obtain ⟨_, x, h1, h2⟩ := tlOf_rel hp hv
  have : tm0 args t = x := by simp only [tm0, List.getD]; rw [show t = t - 0 from rfl, h1]; rfl
  rw [this]; exact h2
 obtain ⟨e, tm1, m1, n1, Z1, M1, tl1, L1, hb1, he, hM1, hS1, hex, v, u0, u, L2, K, h1, h2, hwk, h3, h4, h5, h6⟩ := h _ _ _ _ _ _ hM hS
 obtain ⟨x, g1, g2⟩ := retV_rel hM1 hS1 h1
 obtain ⟨k1, k2⟩ := mapO_inv h3
 -- the rows that are handed out
 have hget : ∀ (i : Nat) j, (List.range L0.length ++ K)[i]? = some j → ∃ p, Z1[j]? = some p ∧ L2[i]? = some p.2 := by
  intro i j hij
  obtain ⟨lb, q1, q2⟩ := k2 i j hij
  obtain ⟨a, ha⟩ := hM1.getZ q1
  exact ⟨_, ha, q2⟩
 obtain ⟨Z2, hZ2⟩ : ∃ Z2 : Zl, mapO (fun i => Z1[i]?) (List.range L0.length ++ K) = some Z2 := by
  have gen : ∀ l : List Nat, (∀ j, j ∈ l → ∃ p, Z1[j]? = some p) → ∃ Z2 : Zl, mapO (fun i => Z1[i]?) l = some Z2 := by
   intro l
   induction l with
   | nil => exact fun _ => ⟨[], rfl⟩
   | cons j l ih =>
     intro hl
     obtain ⟨p, hp⟩ := hl j (List.mem_cons_self ..)
     obtain ⟨Z2, h2⟩ := ih fun j' hj' => hl j' (List.mem_cons_of_mem _ hj')
     exact ⟨p :: Z2, by simp only [mapO, hp, h2]⟩
  refine gen _ fun j hj => ?_
  obtain ⟨i, hi⟩ := List.mem_iff_getElem?.1 hj
  obtain ⟨p, hp, _⟩ := hget i j hi
  exact ⟨p, hp⟩
 obtain ⟨z1, z2⟩ := mapO_inv hZ2
 have hz : ∀ (i : Nat) p, Z2[i]? = some p → ∃ j, (List.range L0.length ++ K)[i]? = some j ∧ Z1[j]? = some p := by
  intro i p hp
  have hi : i < (List.range L0.length ++ K).length := by rw [← z1]; exact (List.getElem?_eq_some_iff.1 hp).1
  obtain ⟨y, q1, q2⟩ := z2 i _ (List.getElem?_eq_getElem hi)
  rw [hp] at q2; cases q2
  exact ⟨_, List.getElem?_eq_getElem hi, q1⟩
 have hL2 : Z2.map (·.2) = L2 := by
  apply List.ext_getElem?
  intro i
  rw [List.getElem?_map]
  by_cases hi : i < (List.range L0.length ++ K).length
  · obtain ⟨p, q1, q2⟩ := hget i _ (List.getElem?_eq_getElem hi)
    obtain ⟨y, q3, q4⟩ := z2 i _ (List.getElem?_eq_getElem hi)
    rw [q1] at q3; cases q3
    rw [q4, q2]; rfl
  · rw [List.getElem?_eq_none (by omega), List.getElem?_eq_none (by omega)]; rfl
 refine ⟨x, m1, n1, .call hG hb1 hex g1, u, M1, Z2, hwk.relL _ (ren_rel (sub_refl _) (fun b b' p hs hp => ?_) 6 v u0 x h2 g2), by rw [hL2]; exact h6, ?_⟩
 · obtain ⟨y, q1, q2⟩ := z2 _ _ (posN_inv hs)
   rw [hp] at q1; cases q1
   exact ⟨p, q2, grow.refl p⟩
 · have hf : ∀ (i : Nat) p, Z2[i]? = some p → p.2.froz = true := fun i p hp => by
    have : L2[i]? = some p.2 := by rw [← hL2, List.getElem?_map, hp]; rfl
    exact List.all_eq_true.1 h4 _ (List.mem_of_getElem? this)
   refine ⟨fun i a lb hi => ?_, hf, fun i lb hi => ?_, fun i j a l1 l2 e1 e2 => ?_, fun b y hb' => ?_, hM1.hma, fun b y hb' hy => ?_, fun b p hp => ?_, fun i a lb hi => ?_⟩
   · obtain ⟨j, q1, q2⟩ := hz i _ hi
     obtain ⟨q3, q4, q7⟩ := hM1.cell j a lb q2
     obtain ⟨cells, q5, q6⟩ := q7.froz (hf i _ hi)
     exact ⟨q3.symm, q4, cells, q5, LB.froz_rel q6 (hf i _ hi) (sub_refl _) _⟩
   · obtain ⟨j, q1, q2⟩ := hz i _ hi
     exact hM1.nl j lb q2
   · obtain ⟨j1, q1, q2⟩ := hz i _ e1
     obtain ⟨j2, q3, q4⟩ := hz j _ e2
     have hj := hM1.inj j1 j2 a l1 l2 q2 q4
     subst hj
     exact (List.getElem?_inj (List.getElem?_eq_some_iff.1 q1).1 h5).1 (q1.trans q3.symm)
   · obtain ⟨q1, q2, q3⟩ := hM1.hM b y hb'
     refine ⟨q1, q2, fun i lb e => ?_⟩
     obtain ⟨j, _, q4⟩ := hz i _ e
     exact q3 j lb q4
   · exact hM1.h0 b y (by show (if b ∈ adrs Z0 then none else m b) = some y; rw [if_neg hb']; exact hy)
   · obtain ⟨p1, q1, q2⟩ := he.hZ b p (by rw [← hZl]; exact (List.getElem?_eq_some_iff.1 hp).1) hp
     have hbl : b < L0.length := by rw [← hZl]; exact (List.getElem?_eq_some_iff.1 hp).1
     obtain ⟨y, q3, q4⟩ := z2 b b (by rw [List.getElem?_append_left (by simpa using hbl)]; simp [hbl])
     rw [q1] at q3; cases q3
     exact ⟨p1, q4, q2⟩
   · obtain ⟨j, q1, q2⟩ := hz i _ hi
     rcases hM1.lo j a lb q2 with h8 | h8
     · exact .inl h8
     · have h8 : (Z0.map (·.1))[j]? = some (some a) := h8
       rw [List.getElem?_map] at h8
       cases e8 : Z0[j]? with
       | none => rw [e8] at h8; cases h8
       | some p0 =>
         rw [e8] at h8
         obtain ⟨a0, lb0⟩ := p0
         simp only [Option.map_some, Option.some.injEq] at h8
         subst h8
         have hjl : j < L0.length := by rw [← hZl]; exact (List.getElem?_eq_some_iff.1 e8).1
         have hjj : (List.range L0.length ++ K)[j]? = some j := by rw [List.getElem?_append_left (by simpa using hjl)]; simp [hjl]
         have : i = j := (List.getElem?_inj (List.getElem?_eq_some_iff.1 q1).1 h5).1 (q1.trans hjj.symm)
         subst this
         exact .inr ⟨lb0, e8⟩
def mergeF {α : Type} (X X1 : List α) (ρ : List Nat) (j : Nat) : Option α := match posN ρ j with
 | some i => X1[i]?
 | none => match Nat.blt j X.length with
   | true => X[j]?
   | false => X1[ρ.length + (j - X.length)]?
def mergeG {α : Type} (X X1 : List α) (ρ : List Nat) : Option (List α) := mapO (mergeF X X1 ρ) (List.range (X.length + (X1.length - ρ.length)))
def backN (ρ : List Nat) (n : Nat) (i : Nat) : Option Nat := match Nat.blt i ρ.length with
 | true => ρ[i]?
 | false => some (n + (i - ρ.length))
theorem mapO_snd {Z : List Nat} {f : Nat → Option (Option Nat × LB)} {g : Nat → Option LB} (hfg : ∀ j, (f j).map (·.2) = g j) : ∀ {l : List Nat} {L : List LB}, mapO g l = some L → ∃ Z : Zl, mapO f l = some Z ∧ Z.map (·.2) = L
 | [], L, h => by simp [mapO] at h; subst h; exact ⟨[], rfl, rfl⟩
 | j :: l, L, h => by
   simp only [mapO] at h
   split at h
   · rename_i y r e1 e2
     cases h
     obtain ⟨Z', h1, h2⟩ := mapO_snd (Z := Z) hfg e2
     have := hfg j
     rw [e1] at this
     cases e : f j with
     | none => rw [e] at this; cases this
     | some p => rw [e] at this; cases this; exact ⟨p :: Z', by simp only [mapO, e, h1], by simp [h2]⟩
   · cases h
theorem mergeF_snd (Z Z1 : Zl) (ρ : List Nat) (j : Nat) : (mergeF Z Z1 ρ j).map (·.2) = mergeF (Z.map (·.2)) (Z1.map (·.2)) ρ j := by
 unfold mergeF
 cases posN ρ j with
 | some i => simp
 | none =>
   simp only [List.length_map]
   cases Nat.blt j Z.length <;> simp
theorem merge_st {N : Nat} {c : Cx N} {Z : Zl} {M : Mem} {L : List LB} {m : Mem} {n : Nat} (hM : StM c Z M L m n) {m1 : Mem} {n1 : Nat} (hn : n ≤ n1) (hf : Fresh m1 n1) (hdom : ∀ (i : Nat) b lb, Z[i]? = some (some b, lb) → m b = none → m1 b = none) {ρ : List Nat} (hnd : ρ.Nodup) {Z0 Z1 : Zl} (hZ0 : mapO (fun i => Z[i]?) ρ = some Z0) {M2 : Mem} (hs : sub M M2)
 (hM2 : ∀ b x, M2 b = some x → m1 b = some x ∧ (M b = some x ∨ n ≤ b) ∧ ∀ (i : Nat) lb, Z1[i]? ≠ some (some b, lb))
 (hcell : ∀ (i : Nat) a lb, Z1[i]? = some (some a, lb) → (a ∈ adrs Z0 ∨ n ≤ a) ∧ a < n1 ∧ ∃ cells, m1 a = some ⟨cells, true, lb.sz⟩ ∧ ∀ Z', lb.rel M2 Z' cells)
 (hnil : ∀ (i : Nat) lb, Z1[i]? = some (none, lb) → lb = .dead ∨ ∃ k, lb = .arr k []) (hinj : ∀ (i j : Nat) a lb lb', Z1[i]? = some (some a, lb) → Z1[j]? = some (some a, lb') → i = j)
 (hkeep : ∀ b x, b ∉ adrs Z0 → m b = some x → m1 b = some x) (hext : ∀ (b : Nat) p, Z0[b]? = some p → ∃ p1, Z1[b]? = some p1 ∧ grow p p1) (hlo : ∀ (i : Nat) a lb, Z1[i]? = some (some a, lb) → n ≤ a ∨ ∃ lb0, Z0[i]? = some (some a, lb0)) {L' : List LB} (hL' : mergeG L (Z1.map (·.2)) ρ = some L') :
 ∃ Z', StM c Z' M2 L' m1 n1 ∧ ExtV Z M Z' M2 ∧ (∀ (i i' : Nat) p, backN ρ L.length i = some i' → Z1[i]? = some p → Z'[i']? = some p) ∧ ∀ (j : Nat) p, Z'[j]? = some p → (∃ i : Nat, Z1[i]? = some p) ∨ Z[j]? = some p := by
 obtain ⟨k1, k2⟩ := mapO_inv hZ0
 have hZL := hM.lenZ
 have hrho : ρ.length ≤ Z1.length := by
  rw [← k1]
  rcases Nat.lt_or_ge Z1.length Z0.length with h | h
  · obtain ⟨p1, h1, _⟩ := hext Z1.length _ (List.getElem?_eq_getElem h)
    simp at h1
  · exact h
 -- what stands where
 have hg : mapO (mergeF (Z.map (·.2)) (Z1.map (·.2)) ρ) (List.range (Z.length + (Z1.length - ρ.length))) = some L' := by
  rw [← hM.hL] at hL'
  unfold mergeG at hL'
  simpa using hL'
 obtain ⟨Z', hZ', hsnd⟩ := mapO_snd (Z := []) (f := mergeF Z Z1 ρ) (mergeF_snd Z Z1 ρ) hg
 obtain ⟨z1, z2⟩ := mapO_inv hZ'
 have hat : ∀ (j : Nat) p, Z'[j]? = some p → mergeF Z Z1 ρ j = some p ∧ j < Z.length + (Z1.length - ρ.length) := by
  intro j p hp
  have hj : j < Z.length + (Z1.length - ρ.length) := by have := (List.getElem?_eq_some_iff.1 hp).1; simp at z1; omega
  obtain ⟨y, q1, q2⟩ := z2 j j (by simp [hj])
  rw [hp] at q2; cases q2
  exact ⟨q1, hj⟩
 have hto : ∀ (j : Nat), j < Z.length + (Z1.length - ρ.length) → ∃ p, mergeF Z Z1 ρ j = some p ∧ Z'[j]? = some p := by
  intro j hj
  obtain ⟨y, q1, q2⟩ := z2 j j (by simp [hj])
  exact ⟨y, q1, q2⟩
 -- three kinds of places
 have kinds : ∀ (j : Nat) p, Z'[j]? = some p → (∃ i : Nat, ρ[i]? = some j ∧ Z1[i]? = some p) ∨ (j ∉ ρ ∧ Z[j]? = some p) ∨ (Z.length ≤ j ∧ Z1[ρ.length + (j - Z.length)]? = some p) := by
  intro j p hp
  obtain ⟨h1, _⟩ := hat j p hp
  unfold mergeF at h1
  cases e : posN ρ j with
  | some i => rw [e] at h1; exact .inl ⟨i, posN_inv e, h1⟩
  | none =>
    rw [e] at h1
    simp only at h1
    cases e2 : Nat.blt j Z.length with
    | true => rw [e2] at h1; exact .inr (.inl ⟨posN_none e, h1⟩)
    | false =>
      rw [e2] at h1
      refine .inr (.inr ⟨?_, h1⟩)
      rcases Nat.lt_or_ge j Z.length with h | h
      · have := (Nat.blt_eq (x := j) (y := Z.length)) ▸ h
        rw [← Nat.blt_eq] at h; rw [h] at e2; cases e2
      · exact h
 have hρZ : ∀ (i : Nat) j, ρ[i]? = some j → ∃ p, Z[j]? = some p ∧ Z0[i]? = some p := fun i j hij => by
  obtain ⟨y, q1, q2⟩ := k2 i j hij
  exact ⟨y, q1, q2⟩
 have hA : ∀ a, a ∈ adrs Z0 → ∃ (j : Nat) (lb : LB), j ∈ ρ ∧ Z[j]? = some (some a, lb) := by
  intro a ha
  obtain ⟨i, lb, hi⟩ := adrs_mem.1 ha
  have hi2 : i < ρ.length := by rw [← k1]; exact (List.getElem?_eq_some_iff.1 hi).1
  obtain ⟨p, q1, q2⟩ := hρZ i _ (List.getElem?_eq_getElem hi2)
  rw [hi] at q2; cases q2
  exact ⟨_, lb, List.getElem_mem hi2, q1⟩
 have hout : ∀ (j : Nat) a lb, j ∉ ρ → Z[j]? = some (some a, lb) → a ∉ adrs Z0 ∧ a < n := by
  intro j a lb hj hz
  refine ⟨fun ha => ?_, (hM.cell j a lb hz).2.1⟩
  obtain ⟨j', lb', h1, h2⟩ := hA a ha
  have := hM.inj j j' a lb lb' hz h2
  subst this; exact hj h1
 have hE : ExtV Z M Z' M2 := by
  refine ⟨hs, fun b p hp => ?_⟩
  have hb : b < Z.length := (List.getElem?_eq_some_iff.1 hp).1
  obtain ⟨p', h1, h2⟩ := hto b (by omega)
  unfold mergeF at h1
  cases e : posN ρ b with
  | some i =>
    rw [e] at h1
    obtain ⟨q, q1, q2⟩ := hρZ i b (posN_inv e)
    rw [hp] at q1; cases q1
    obtain ⟨p1, g1, g2⟩ := hext i p q2
    have h1 : Z1[i]? = some p' := h1
    rw [g1] at h1; cases h1
    exact ⟨_, h2, g2⟩
  | none =>
    rw [e] at h1
    have hbl : Nat.blt b Z.length = true := by rw [Nat.blt_eq]; exact hb
    simp only [hbl] at h1
    rw [hp] at h1; cases h1
    exact ⟨_, h2, grow.refl _⟩
 refine ⟨Z', ⟨hM.hbs, by have := hM.hn; omega, hf, hsnd, fun b x hb => ?_, fun b x hb => ?_, hM.f0, sub_trans hM.hma hs, hM.hbr, fun j a lb hj => ?_, fun j lb hj => ?_, fun j j' a l1 l2 e1 e2 => ?_, fun j a lb hj => ?_⟩, hE, fun i i' p hb hi => ?_, fun j p hj => (kinds j p hj).elim (fun ⟨i, _, q⟩ => .inl ⟨i, q⟩) fun h => h.elim (fun ⟨_, q⟩ => .inr q) fun ⟨_, q⟩ => .inl ⟨_, q⟩⟩
 · obtain ⟨h1, h2, h3⟩ := hM2 b x hb
   refine ⟨h1, ?_, fun j lb e => ?_⟩
   · rcases h2 with h2 | h2
     · exact (hM.hM b x h2).2.1
     · exact .inr (by have := hM.hn; omega)
   · rcases kinds j _ e with ⟨i, _, q⟩ | ⟨_, q⟩ | ⟨_, q⟩
     · exact h3 _ _ q
     · rcases h2 with h2 | h2
       · exact (hM.hM b x h2).2.2 _ _ q
       · have := (hM.cell _ _ _ q).2.1; omega
     · exact h3 _ _ q
 · refine hkeep b x (fun ha => ?_) (hM.h0 b x hb)
   obtain ⟨j, lb, _, q⟩ := hA b ha
   have := hM.m0A (hM.cell _ _ _ q).1
   rw [this] at hb; cases hb
 · have new : ∀ i : Nat, Z1[i]? = some (some a, lb) → c.okA a ∧ a < n1 ∧ lb.at M2 Z' m1 a := by
    intro i q
    obtain ⟨h1, h2, cells, h3, h4⟩ := hcell _ _ _ q
    refine ⟨?_, h2, .of h3 (h4 _)⟩
    rcases h1 with h1 | h1
    · obtain ⟨j', lb', _, q'⟩ := hA a h1
      exact (hM.cell _ _ _ q').1
    · exact .inl (by have := hM.hn; omega)
   rcases kinds j _ hj with ⟨i, _, q⟩ | ⟨hno, q⟩ | ⟨_, q⟩
   · exact new _ q
   · obtain ⟨h1, h2, h3⟩ := hM.cell _ _ _ q
     refine ⟨h1, by omega, h3.mono hE ?_⟩
     cases e : m a with
     | none => exact hdom j a lb q e
     | some x => exact hkeep _ _ (hout _ _ _ hno q).1 e
   · exact new _ q
 · rcases kinds j _ hj with ⟨i, _, q⟩ | ⟨hno, q⟩ | ⟨_, q⟩
   · exact hnil _ _ q
   · exact hM.nl _ _ q
   · exact hnil _ _ q
 · have cross : ∀ (i : Nat) (j : Nat) lb lb', Z1[i]? = some (some a, lb) → j ∉ ρ → Z[j]? = some (some a, lb') → False := by
    intro i j lb lb' q1 hno q2
    obtain ⟨h1, h2⟩ := hout _ _ _ hno q2
    rcases (hcell _ _ _ q1).1 with h | h
    · exact h1 h
    · omega
   rcases kinds j _ e1 with ⟨i, r1, q⟩ | ⟨hno, q⟩ | ⟨hge, q⟩ <;> rcases kinds j' _ e2 with ⟨i', r2, q'⟩ | ⟨hno', q'⟩ | ⟨hge', q'⟩
   · have := hinj _ _ _ _ _ q q'; subst this; rw [r1] at r2; cases r2; rfl
   · exact (cross _ _ _ _ q hno' q').elim
   · have := hinj _ _ _ _ _ q q'; have := (List.getElem?_eq_some_iff.1 r1).1; omega
   · exact (cross _ _ _ _ q' hno q).elim
   · exact hM.inj _ _ _ _ _ q q'
   · exact (cross _ _ _ _ q' hno q).elim
   · have := hinj _ _ _ _ _ q q'; have := (List.getElem?_eq_some_iff.1 r2).1; omega
   · exact (cross _ _ _ _ q hno' q').elim
   · have := hinj _ _ _ _ _ q q'; omega
 · have hcn := hM.hn
   rcases kinds j _ hj with ⟨i, r1, q⟩ | ⟨hno, q⟩ | ⟨hge, q⟩
   · rcases hlo _ _ _ q with h8 | ⟨lb0, h8⟩
     · exact .inl (by omega)
     · obtain ⟨p, g1, g2⟩ := hρZ i j r1
       rw [h8] at g2; cases g2
       exact hM.lo j a lb0 g1
   · exact hM.lo j a lb q
   · rcases hlo _ _ _ q with h8 | ⟨lb0, h8⟩
     · exact .inl (by omega)
     · have := (List.getElem?_eq_some_iff.1 h8).1; omega
 · unfold backN at hb
   cases e : Nat.blt i ρ.length with
   | true =>
     rw [e] at hb
     have hb : ρ[i]? = some i' := hb
     obtain ⟨q, q1, q2⟩ := hρZ i i' hb
     have hi' : i' < Z.length := (List.getElem?_eq_some_iff.1 q1).1
     obtain ⟨p', h1, h2⟩ := hto i' (by omega)
     unfold mergeF at h1
     cases e3 : posN ρ i' with
     | none => exact absurd (List.mem_of_getElem? hb) (posN_none e3)
     | some i2 =>
       rw [e3] at h1
       have := posN_inv e3
       have hi2 : i2 = i := (List.getElem?_inj (List.getElem?_eq_some_iff.1 this).1 hnd).1 (this.trans hb.symm)
       subst hi2
       have h1 : Z1[i2]? = some p' := h1
       rw [hi] at h1; cases h1
       exact h2
   | false =>
     rw [e] at hb
     cases hb
     have hge : ρ.length ≤ i := by
      rcases Nat.lt_or_ge i ρ.length with h | h
      · rw [← Nat.blt_eq] at h; rw [h] at e; cases e
      · exact h
     have hi1 := (List.getElem?_eq_some_iff.1 hi).1
     obtain ⟨p', h1, h2⟩ := hto (L.length + (i - ρ.length)) (by omega)
     unfold mergeF at h1
     cases e3 : posN ρ (L.length + (i - ρ.length)) with
     | some i2 =>
       obtain ⟨q, q1, _⟩ := hρZ _ _ (posN_inv e3)
       have := (List.getElem?_eq_some_iff.1 q1).1
       omega
     | none =>
       rw [e3] at h1
       have hb2 : Nat.blt (L.length + (i - ρ.length)) Z.length = false := by
        cases e4 : Nat.blt (L.length + (i - ρ.length)) Z.length with
        | false => rfl
        | true => rw [Nat.blt_eq] at e4; omega
       simp only [hb2] at h1
       have e5 : ρ.length + (L.length + (i - ρ.length) - Z.length) = i := by omega
       rw [e5, hi] at h1; cases h1
       exact h2
section
variable {N : Nat} {G : Prg} {tl : Tl} {L : List LB} {K : Tl → List LB → Prop} {l : List IOp} {q : Bool} {d : Nat}
theorem callG_core {f es us vargs L0} {post : V → List LB → Prop} {R : V → List LB → Prop} (ρ : List Nat) (ha : evEs tl es = some us) (hr : rens (V.ren (posN ρ) 6) us = some vargs) (hL0 : mapO (fun i => L[i]?) ρ = some L0) (hfz : L0.all LB.froz = true) (hnd : ρ.Nodup) (hq : q = false ∨ ρ = [])
 (hc : GV G f L0 vargs post) (k : ∀ u L1, post u L1 → ∃ L' u', mergeG L L1 ρ = some L' ∧ V.ren (backN ρ L.length) 6 u = some u' ∧ R u' L')
 {c : Cx N} {Z M tm m n} (hM : StM c Z M L m n) (hS : Slots M Z tl tm) : ∃ v m1 n1 Z' M1 u' L', Big G (if q = true then n else c.bs) (.call f (es.map (·.ev tm))) m n (.ret v) m1 n1 ∧ ExtV Z M Z' M1 ∧ StM c Z' M1 L' m1 n1 ∧ RL M1 Z' u' v ∧ R u' L' := by
 have hpt := evEs_rel hS ha
 rw [← hM.hL] at hL0
 obtain ⟨Z0, hZ0, hsnd⟩ := mapO_snd (Z := []) (f := fun i => Z[i]?) (g := fun i => (Z.map (·.2))[i]?) (fun j => by simp) hL0
 obtain ⟨k1, k2⟩ := mapO_inv hZ0
 have hz0 : ∀ (i : Nat) p, Z0[i]? = some p → ∃ j, ρ[i]? = some j ∧ Z[j]? = some p := fun i p hp => by
  have hi : i < ρ.length := by rw [← k1]; exact (List.getElem?_eq_some_iff.1 hp).1
  obtain ⟨y, q1, q2⟩ := k2 i _ (List.getElem?_eq_getElem hi)
  rw [hp] at q2; cases q2
  exact ⟨_, List.getElem?_eq_getElem hi, q1⟩
 have hbs : (if q = true then n else c.bs) ≤ n := by
  have h1 := hM.hbs; have h2 := hM.hn
  split <;> omega
 have hLent : Lent (if q = true then n else c.bs) n M m Z0 L0 := by
  refine ⟨hsnd, fun a ha' => ?_, fun i lb hi => ?_, fun i j a l1 l2 e1 e2 => ?_, fun i a lb hi => ?_⟩
  · obtain ⟨i, lb, hi⟩ := adrs_mem.1 ha'
    obtain ⟨j, h1, h2⟩ := hz0 i _ hi
    obtain ⟨g1, g2, _⟩ := hM.cell _ _ _ h2
    have hqf : q = false := by
     rcases hq with hq | hq
     · exact hq
     · subst hq; simp at h1
    subst hqf
    refine ⟨by simpa using hM.bsA g1, g2, ?_⟩
    cases e : M a with
    | none => rfl
    | some x => exact absurd h2 ((hM.hM a x e).2.2 _ _)
  · obtain ⟨j, _, h2⟩ := hz0 i _ hi
    exact hM.nl _ _ h2
  · obtain ⟨j1, h1, h2⟩ := hz0 i _ e1
    obtain ⟨j2, h3, h4⟩ := hz0 j _ e2
    have := hM.inj _ _ _ _ _ h2 h4
    subst this
    exact (List.getElem?_inj (List.getElem?_eq_some_iff.1 h1).1 hnd).1 (h1.trans h3.symm)
  · obtain ⟨j, h1, h2⟩ := hz0 i _ hi
    obtain ⟨_, _, g5⟩ := hM.cell _ _ _ h2
    have hfr : lb.froz = true := List.all_eq_true.1 hfz _ (by rw [← hsnd]; exact List.mem_map.2 ⟨_, List.mem_of_getElem? hi, rfl⟩)
    obtain ⟨cells, g3, g4⟩ := g5.froz hfr
    exact ⟨cells, g3, LB.froz_rel g4 hfr (sub_refl _) _⟩
 have hp : Pt (RL M Z0) vargs (es.map (·.ev tm)) := rens_rel (ren_rel (sub_refl _) (fun b b' p hs hz => by
  obtain ⟨y, q1, q2⟩ := k2 _ _ (posN_inv hs)
  rw [hz] at q1; cases q1
  exact ⟨p, q2, grow.refl p⟩) 6) hr hpt
 obtain ⟨v, m1, n1, hb, u, M1, Z1, g1, g2, B⟩ := hc.run _ _ m n M Z0 hM.fresh hbs hM.subM hLent hp
 obtain ⟨hn, hf⟩ := hb.fresh hM.fresh
 obtain ⟨L', u', hL', hu', k'⟩ := k u _ g2
 obtain ⟨Z', hM', hE, hback, _⟩ := merge_st hM hn hf (fun _ _ _ hz e => hb.dom _ (hM.cell _ _ _ hz).2.1 e) hnd hZ0 B.hma B.hM (fun i a lb hi => by
  obtain ⟨h1, h2, cells, h3, h4⟩ := B.cell i a lb hi
  exact ⟨h1, h2, cells, h3, fun Z' => LB.froz_rel h4 (B.froz i _ hi) (sub_refl _) Z'⟩) B.nil B.inj B.keep B.ext B.lo hL'
 have hrel : RL M1 Z' u' v := ren_rel (sub_refl _) (fun b b' p hs hz => ⟨p, hback _ _ _ hs hz, grow.refl p⟩) 6 u u' v hu' g1
 exact ⟨v, m1, n1, Z', M1, u', L', hb, hE, hM', hrel, k'⟩
theorem s_callG {f es us vargs L0} {post : V → List LB → Prop} (ρ : List Nat) (ha : evEs tl es = some us) (hr : rens (V.ren (posN ρ) 6) us = some vargs) (hL0 : mapO (fun i => L[i]?) ρ = some L0) (hfz : L0.all LB.froz = true) (hnd : ρ.Nodup) (hq : q = false ∨ ρ = [])
 (hc : GV G f L0 vargs post) (k : ∀ u L1, post u L1 → ∃ L' u', mergeG L L1 ρ = some L' ∧ V.ren (backN ρ L.length) 6 u = some u' ∧ VO N G l K ((d, u') :: tl) L') : VO N G (⟨some d, .call f es, none, q⟩ :: l) K tl L := by
 intro c Z M tm m n hM hS
 obtain ⟨v, m1, n1, Z', M1, u', L', hb, hE, hM', hrel, k'⟩ := callG_core (q := q) ρ ha hr hL0 hfz hnd hq hc k hM hS
 obtain ⟨tm2, m2, n2, Z2, M3, tl2, L2, hb2, he2, r⟩ := k' c Z' M1 (upd tm d v) m1 n1 hM' ((hS.mono hE).put hrel)
 exact ⟨tm2, m2, n2, Z2, M3, tl2, L2, op_run (o := ⟨some d, .call f es, none, q⟩) rfl (.inr ⟨f, _, rfl, hb⟩) hb2, hE.trans he2, r⟩
def V.refs : Nat → V → Bool
 | 0, _ => false
 | fu + 1, v => match v with
   | .w _ | .cp .. | .ls .. | .ap .. | .raw _ => true
   | .agg cs => cs.all (V.refs fu)
   | .tup cs => cs.all (V.refs fu)
   | _ => false
theorem V.refs_rel {M M' : Mem} {Z : Zl} : ∀ {fu v x}, RL M Z v x → V.refs fu v = true → RL M' Z v x
 | 0, v, x, h, hb => by cases hb
 | fu + 1, v, x, h, hb => by
   have all : ∀ {cs : List V}, cs.all (V.refs fu) = true → ∀ (i : Nat) u, cs[i]? = some u → V.refs fu u = true := fun h i u hu => List.all_eq_true.1 h u (List.mem_of_getElem? hu)
   cases v with
   | w v => obtain ⟨rfl, hf⟩ := h.w_inv; exact .fz (.w hf)
   | raw v => obtain ⟨rfl, hf⟩ := h.raw_inv; exact .fz (.raw hf)
   | agg cs =>
     obtain ⟨vs, rfl, hl, hh⟩ := h.agg_inv
     exact .agg hl fun i u y h1 h2 => V.refs_rel (hh i u y h1 h2) (all hb i u h1)
   | tup cs =>
     obtain ⟨vs, rfl, hl, hh⟩ := h.tup_inv
     exact .tup hl fun i u y h1 h2 => V.refs_rel (hh i u y h1 h2) (all hb i u h1)
   | cp b off => cases h with
     | fz h => cases h
     | cp hz hc => exact .cp hz hc
   | ap b len j off => cases h with
     | fz h => cases h
     | ap hz h1 h2 h3 => exact .ap hz h1 h2 h3
     | apD hz h1 => exact .apD hz h1
   | ls b len => cases h with
     | fz h => cases h
     | ls hz h1 h2 h3 => exact .ls hz h1 h2 h3
     | lsD hz h1 => exact .lsD hz h1
   | _ => cases hb
def LB.words : LB → Prop
 | .cell row => ∀ v, v ∈ row → ∃ x, v = .w x
 | .arr _ rows => ∀ r, r ∈ rows → ∀ v, v ∈ r → ∃ x, v = .w x
 | .gone => True
 | .dead => True
theorem words_pt {M M' : Mem} {r : List V} {r' : List Value} (h : Pt (RF M) r r') (hw : ∀ v, v ∈ r → ∃ x, v = .w x) : Pt (RF M') r r' :=
 ⟨h.1, fun i x y h1 h2 => by
   obtain ⟨z, rfl⟩ := hw x (List.mem_of_getElem? h1)
   have := h.2 i _ y h1 h2
   cases this with
   | w h => exact .w h⟩
theorem LB.words_rel {M M' : Mem} {Z Z' : Zl} {lb cells} (h : LB.rel M Z lb cells) (hw : lb.words) : LB.rel M' Z' lb cells := by
 cases lb with
 | cell row =>
   refine ⟨h.1, fun i x y h1 h2 => ?_⟩
   obtain ⟨z, rfl⟩ := hw x (List.mem_of_getElem? h1)
   obtain ⟨rfl, hf⟩ := (h.2 i _ y h1 h2).w_inv
   exact .fz (.w hf)
 | arr k rows =>
   obtain ⟨rows', h1, h2, h3, h4, h5⟩ := h
   exact ⟨rows', h1, h2, h3, fun i r r' hr hr' => words_pt (h4 i r r' hr hr') (hw r (List.mem_of_getElem? hr)), h5⟩
 | gone => exact h.elim
 | dead => exact h.elim
theorem s_callGL {f es us us' p} {post : V → List LB → Prop} (ha : evEs tl es = some us) (hz : frs (fr L 6) us = some (us', p)) (ho : ∀ e, e ∈ p → e.1 = e.2)
 (hc : GV G f [] us' post) (k : ∀ u L1, post u L1 → V.refs 6 u = true ∧ (∀ lb, lb ∈ L1 → lb.words) ∧ ∃ L' u', mergeG L L1 [] = some L' ∧ V.ren (backN [] L.length) 6 u = some u' ∧ VO N G l K ((d, u') :: tl) L') : VO N G (⟨some d, .call f es, none, q⟩ :: l) K tl L := by
 intro c Z M tm m n hM hS
 have hp : Pt (RL m []) us' (es.map (·.ev tm)) := (frs_rel (R := RL M Z) (fr_rel hM hM.subM (fun _ _ _ _ => rfl) 6) hz ho (evEs_rel hS ha)).mono fun _ _ => .fz
 have hbs : (if q = true then n else c.bs) ≤ n := by
  have h1 := hM.hbs; have h2 := hM.hn
  split <;> omega
 have hLent : Lent (if q = true then n else c.bs) n m m [] [] := ⟨rfl, fun a ha => by simp [adrs] at ha, fun i lb h => by simp at h, fun i j a l1 l2 h => by simp at h, fun i a lb h => by simp at h⟩
 obtain ⟨v, m1, n1, hb, u, M1, Z1, g1, g2, B⟩ := hc.run _ _ m n m [] hM.fresh hbs (sub_refl _) hLent hp
 obtain ⟨hn, hf⟩ := hb.fresh hM.fresh
 obtain ⟨hur, hw, L', u', hL', hu', k'⟩ := k u _ g2
 have hZn : ∀ (i : Nat) a lb, Z1[i]? = some (some a, lb) → n ≤ a := fun i a lb hi => by
  rcases (B.cell i a lb hi).1 with h | h
  · simp [adrs] at h
  · exact h
 obtain ⟨Z', hM', hE, hback, _⟩ := merge_st (ρ := []) (Z0 := []) (M2 := M) hM hn hf (fun _ _ _ hz e => hb.dom _ (hM.cell _ _ _ hz).2.1 e) List.nodup_nil rfl (sub_refl _) (fun b x hb => by
  have h1 := (hM.hM b x hb).1
  refine ⟨B.keep b x (by simp [adrs]) h1, .inl hb, fun i lb e => ?_⟩
  have := hZn i b lb e
  rw [hM.fresh b this] at h1; cases h1) (fun i a lb hi => by
  obtain ⟨h1, h2, cells, h3, h4⟩ := B.cell i a lb hi
  exact ⟨h1, h2, cells, h3, fun Z' => LB.words_rel h4 (hw lb (List.mem_map.2 ⟨_, List.mem_of_getElem? hi, rfl⟩))⟩) B.nil B.inj B.keep B.ext B.lo hL'
 have hrel : RL M Z' u' v := ren_rel (sub_refl _) (fun b b' p hs hz => ⟨p, hback _ _ _ hs hz, grow.refl p⟩) 6 u u' v hu' (V.refs_rel g1 hur)
 obtain ⟨tm2, m2, n2, Z2, M3, tl2, L2, hb2, he2, r⟩ := k' c Z' M (upd tm d v) m1 n1 hM' ((hS.mono hE).put hrel)
 exact ⟨tm2, m2, n2, Z2, M3, tl2, L2, op_run (o := ⟨some d, .call f es, none, q⟩) rfl (.inr ⟨f, _, rfl, hb⟩) hb2, hE.trans he2, r⟩
end
theorem Ec {r res post e tl L v u L1} (K : List Nat) (he : e = .normal ∨ e = .ret) (h1 : retV tl L res = some v) (h2 : V.ren (posN (List.range r ++ K)) 6 v = some u) (h3 : mapO (fun i => L[i]?) (List.range r ++ K) = some L1) (h4 : L1.all LB.froz = true) (h5 : (List.range r ++ K).Nodup) (h : post u L1) :
 RetG r res post e tl L := ⟨he, v, u, u, L1, K, h1, h2, .refl _, h3, h4, h5, h⟩
theorem s_nilC {N : Nat} {G : Prg} {tl : Tl} {L : List LB} (b off k : Nat) {Q : Ex → Tl → List LB → Prop} {c : C} {L1 L2 : List LB} {row row' : List V} {j : Nat} (hb : L[b]? = some (.cell row)) (ho : row[off]? = some (.w (.slice none 0 0))) (hL : pushN L (.arr k []) = some (L1, j)) (hr : setN row off (.ls j 0) = some row') (hL2 : setN L1 b (.cell row') = some L2)
 (h : VC N G c Q tl L2) : VC N G c Q tl L := by
 intro cx Z M tm m n hM hS
 have := pushN_inv hL; cases this
 obtain ⟨hoff, rfl⟩ := setN_inv hr
 obtain ⟨_, rfl⟩ := setN_inv hL2
 have hlt : ∀ (i : Nat) p, Z[i]? = some p → i < Z.length := fun i p hp => (List.getElem?_eq_some_iff.1 hp).1
 have hget : ∀ (i : Nat) p, (Z ++ [((none : Option Nat), LB.arr k [])])[i]? = some p → Z[i]? = some p ∨ (i = Z.length ∧ p = (none, .arr k [])) := by
  intro i p hp
  rw [List.getElem?_append] at hp
  split at hp
  · exact .inl hp
  · rename_i hi
    rw [List.getElem?_singleton] at hp
    split at hp
    · cases hp; exact .inr ⟨by omega, rfl⟩
    · cases hp
 have hE : ExtV Z M (Z ++ [(none, .arr k [])]) M := ⟨sub_refl _, fun b p hp => ⟨p, by rw [List.getElem?_append_left (hlt b p hp)]; exact hp, grow.refl p⟩⟩
 have hZ : (Z ++ [((none : Option Nat), LB.arr k [])])[L.length]? = some (none, .arr k []) := by
  rw [← hM.lenZ, List.getElem?_append_right (Nat.le_refl _)]; simp
 have hM1 : StM cx (Z ++ [(none, .arr k [])]) M (L ++ [.arr k []]) m n := by
  refine ⟨hM.hbs, hM.hn, hM.fresh, by simp [hM.hL], fun b x hb => ?_, hM.h0, hM.f0, hM.hma, hM.hbr, fun j a lb hj => ?_, fun j lb hj => ?_, fun i j a l1 l2 h1 h2 => ?_, fun j a lb hj => ?_⟩
  · obtain ⟨h1, h2, h3⟩ := hM.hM b x hb
    refine ⟨h1, h2, fun j lb e => ?_⟩
    rcases hget j _ e with e1 | ⟨_, e1⟩
    · exact h3 j lb e1
    · cases e1
  · rcases hget j _ hj with e1 | ⟨_, e1⟩
    · obtain ⟨h1, h2, h3⟩ := hM.cell j a lb e1
      exact ⟨h1, h2, h3.mono hE rfl⟩
    · cases e1
  · rcases hget j _ hj with e1 | ⟨_, e1⟩
    · exact hM.nl j lb e1
    · cases e1; exact .inr ⟨k, rfl⟩
  · rcases hget i _ h1 with e1 | ⟨_, e1⟩ <;> rcases hget j _ h2 with e2 | ⟨_, e2⟩
    · exact hM.inj i j a l1 l2 e1 e2
    · cases e2
    · cases e1
    · cases e1
  · rcases hget j _ hj with e1 | ⟨_, e1⟩
    · exact hM.lo j a lb e1
    · cases e1
 -- the variable
 obtain ⟨oa, hZb⟩ := hM.getZ hb
 cases oa with
 | none => obtain ⟨k', e⟩ := hM.nil _ _ hZb; cases e
 | some a =>
   have hZb1 : (Z ++ [((none : Option Nat), LB.arr k [])])[b]? = some (some a, .cell row) := by rw [List.getElem?_append_left (hlt b _ hZb)]; exact hZb
   obtain ⟨_, _, cells, hm, hrel⟩ := hM1.cell b a _ hZb1
   have hrel : Pt (RL M (Z ++ [((none : Option Nat), LB.arr k [])])) row cells := hrel
   have hoff' : off < cells.length := by rw [← hrel.1]; exact hoff
   have hcell : cells[off]? = some (.slice none 0 0) := by
    obtain ⟨y, q1, q2⟩ := hrel.get ho
    rw [q1, q2.w_inv.1]
   have hg : grow (some a, LB.cell row) (some a, LB.cell (row.set off (.ls L.length 0))) := ⟨trivial, rfl⟩
   have hext : ExtV (Z ++ [((none : Option Nat), LB.arr k [])]) M ((Z ++ [((none : Option Nat), LB.arr k [])]).set b (some a, .cell (row.set off (.ls L.length 0)))) M := by
    refine ⟨sub_refl _, fun i p hp => ?_⟩
    by_cases e : b = i
    · subst e; rw [hZb1] at hp; cases hp
      exact ⟨_, by rw [List.getElem?_set, if_pos rfl, if_pos (List.getElem?_eq_some_iff.1 hZb1).1], hg⟩
    · exact ⟨p, by rw [List.getElem?_set, if_neg e]; exact hp, grow.refl p⟩
   have hrel2 : Pt (RL M (Z ++ [((none : Option Nat), LB.arr k [])])) (row.set off (.ls L.length 0)) cells := by
    refine ⟨by simp [hrel.1], fun i x y h1 h2 => ?_⟩
    rw [List.getElem?_set] at h1
    by_cases e : off = i
    · subst e
      rw [if_pos rfl, if_pos hoff] at h1
      cases h1
      rw [hcell] at h2; cases h2
      exact .ls hZ (Nat.le_refl _) rfl fun _ => rfl
    · rw [if_neg e] at h1; exact hrel.2 i x y h1 h2
   obtain ⟨he2, hM2⟩ := hM1.write hZb1 cells hg rfl (Pt.mono hrel2 fun _ _ => RL.mono hext)
   have hmm : upd m a (some ⟨cells, true, LB.sz (.cell row)⟩) = m := upd_id hm
   rw [hmm] at hM2
   obtain ⟨e, tm1, m1, n1, Z1, M1, tl1, L1, hb1, he1, r⟩ := h cx _ M tm m n hM2 (hS.mono (hE.tr he2))
   exact ⟨e, tm1, m1, n1, Z1, M1, tl1, L1, hb1, (hE.tr he2).trans he1, r⟩
end Go.Proofs.Ytdialnejieoelaa.AL
