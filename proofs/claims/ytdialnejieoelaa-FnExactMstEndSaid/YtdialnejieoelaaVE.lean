/- Contracts of functions that are lent, or hand out, arrays that are kept out of sight. -/
import Derived.Test.YtdialnejieoelaaVB
namespace Go.Proofs.Ytdialnejieoelaa.AL
open Go
set_option linter.unusedVariables false
set_option linter.unusedSimpArgs false
abbrev M0 : Mem := fun _ => none
def LB.wordsR : LB → Prop
 | .cell row => ∀ v, v ∈ row → (∃ x, v = .w x) ∨ ∃ x, v = .raw x
 | .arr _ rows => ∀ r, r ∈ rows → ∀ v, v ∈ r → (∃ x, v = .w x) ∨ ∃ x, v = .raw x
 | .gone => True
 | .dead => True
theorem rf_wr {M M' : Mem} {v : V} {x : Value} (h : RF M v x) (hw : (∃ x, v = .w x) ∨ ∃ x, v = .raw x) : RF M' v x := by
 rcases hw with ⟨z, rfl⟩ | ⟨z, rfl⟩
 · cases h with | w h => exact .w h
 · cases h with | raw h => exact .raw h
theorem LB.wordsR_rel {M M' : Mem} {Z Z' : Zl} {lb cells} (h : LB.rel M Z lb cells) (hw : lb.wordsR) : LB.rel M' Z' lb cells := by
 cases lb with
 | cell row =>
   refine ⟨h.1, fun i x y h1 h2 => ?_⟩
   have hr := h.2 i x y h1 h2
   rcases hw x (List.mem_of_getElem? h1) with ⟨z, rfl⟩ | ⟨z, rfl⟩
   · obtain ⟨rfl, hf⟩ := hr.w_inv; exact .fz (.w hf)
   · obtain ⟨rfl, hf⟩ := hr.raw_inv; exact .fz (.raw hf)
 | arr k rows =>
   obtain ⟨rows', h1, h2, h3, h4, h5⟩ := h
   exact ⟨rows', h1, h2, h3, fun i r r' hr hr' => ⟨(h4 i r r' hr hr').1, fun j x y g1 g2 => rf_wr ((h4 i r r' hr hr').2 j x y g1 g2) (hw r (List.mem_of_getElem? hr) x (List.mem_of_getElem? g1))⟩, h5⟩
 | gone => exact h.elim
 | dead => exact h.elim
structure BackX (n n1 : Nat) (m m1 : Mem) (Z0 : Zl) (O0 : Mem) (Z1 : Zl) (O1 : Mem) : Prop where
 cell : ∀ (i : Nat) a lb, Z1[i]? = some (some a, lb) → (a ∈ adrs Z0 ∨ n ≤ a) ∧ a < n1 ∧ ∃ cells, m1 a = some ⟨cells, true, lb.sz⟩ ∧ ∀ M' Z', lb.rel M' Z' cells
 nil : ∀ (i : Nat) lb, Z1[i]? = some (none, lb) → lb = .dead ∨ ∃ k, lb = .arr k []
 inj : ∀ (i j : Nat) a lb lb', Z1[i]? = some (some a, lb) → Z1[j]? = some (some a, lb') → i = j
 keep : ∀ b x, b ∉ adrs Z0 → O0 b = none → m b = some x → m1 b = some x
 ext : ∀ (b : Nat) p, Z0[b]? = some p → ∃ p1, Z1[b]? = some p1 ∧ grow p p1
 lo : ∀ (i : Nat) a lb, Z1[i]? = some (some a, lb) → n ≤ a ∨ ∃ lb0, Z0[i]? = some (some a, lb0)
 ob : ∀ a b, O1 a = some b → m1 a = some b ∧ b.own = true ∧ a < n1 ∧ (O0 a ≠ none ∨ n ≤ a) ∧ a ∉ adrs Z1
structure GX (G : Prg) (f : Nat) (L0 : List LB) (O0 : Mem) (vargs : List V) (post : V → List LB → Mem → Prop) : Prop where
 run : ∀ args bs m n Ma Z0, Fresh m n → bs ≤ n → sub Ma m → Lent bs n Ma m Z0 L0 → (∀ a b, O0 a = some b → m a = some b ∧ b.own = true ∧ bs ≤ a ∧ a < n ∧ Ma a = none ∧ a ∉ adrs Z0) → Pt (RL Ma Z0) vargs args →
  CallW G f args bs m n fun v m1 n1 => ∃ u Z1 O1, RL M0 Z1 u v ∧ post u (Z1.map (·.2)) O1 ∧ BackX n n1 m m1 Z0 O0 Z1 O1
theorem GX.mono {G f L0 O0 vargs} {post post' : V → List LB → Mem → Prop} (h : GX G f L0 O0 vargs post) (hp : ∀ u L1 D, post u L1 D → post' u L1 D) : GX G f L0 O0 vargs post' :=
 ⟨fun args bs m n Ma Z0 h1 h2 h3 h4 h5 h6 => (h.run args bs m n Ma Z0 h1 h2 h3 h4 h5 h6).mono fun v m1 n1 ⟨u, Z1, O1, g1, g2, g3⟩ => ⟨u, Z1, O1, g1, hp _ _ _ g2, g3⟩⟩
def RetX (r : Nat) (res : List RV) (post : V → List LB → Mem → Prop) (e : Ex) (tl : Tl) (L : List LB) (OL : Ob) : Prop :=
 (e = .normal ∨ e = .ret) ∧ ∃ v u L1 K D, retV tl L res = some v ∧ V.ren (posN (List.range r ++ K)) 6 v = some u ∧ mapO (fun i => L[i]?) (List.range r ++ K) = some L1 ∧ V.refs 6 u = true ∧ (∀ lb, lb ∈ L1 → lb.wordsR) ∧ (List.range r ++ K).Nodup ∧
   (D = M0 ∨ ∃ j : Nat, OL[j]? = some D) ∧ post u L1 D
theorem LB.at.wordsR {M Z m a lb} (h : LB.at M Z m a lb) (hg : lb ≠ .gone) : ∃ cells, m a = some ⟨cells, true, lb.sz⟩ ∧ LB.rel M Z lb cells := by
 cases lb with
 | cell row => exact h
 | arr k rows => exact h
 | gone => exact absurd rfl hg
 | dead => exact h.elim
theorem gx_core {G f body res L0 O0 vargs post} (OL0 : Ob) (hO0 : (OL0 = [] ∧ O0 = M0) ∨ OL0 = [O0]) (hG : G f = some ⟨body, res⟩) (h : XC L0.length G body (fun e tl L OL => RetX L0.length res post e tl L OL ∧ ∀ lb, lb ∈ L → lb ≠ .gone) OL0 (tlOf 0 vargs) L0) : GX G f L0 O0 vargs post := by
 refine ⟨fun args bs m n Ma Z0 hF hb hs hA hX hp => ?_⟩
 have hZl : Z0.length = L0.length := by rw [← hA.hL]; simp
 let br : List Nat := adrs Z0 ++ (List.range n).filter fun a => (O0 a).isSome
 have hbr : ∀ a, a ∈ br ↔ a ∈ adrs Z0 ∨ (O0 a).isSome = true := by
  intro a
  simp only [br, List.mem_append, List.mem_filter, List.mem_range]
  constructor
  · rintro (h | ⟨_, h⟩)
    · exact .inl h
    · exact .inr h
  · rintro (h | h)
    · exact .inl h
    · obtain ⟨b, hb⟩ := Option.isSome_iff_exists.1 h
      exact .inr ⟨(hX a b hb).2.2.2.1, h⟩
 have hlow : ∀ a, a ∈ br → bs ≤ a ∧ a < n ∧ Ma a = none := by
  intro a ha
  rcases (hbr a).1 ha with h | h
  · exact hA.low a h
  · obtain ⟨b, hb⟩ := Option.isSome_iff_exists.1 h
    obtain ⟨_, _, g1, g2, g3, _⟩ := hX a b hb
    exact ⟨g1, g2, g3⟩
 have hM : StM (N := L0.length) ⟨fun b => if b ∈ br then none else m b, Ma, n, bs, br, Z0.map (·.1), Nat.le_of_eq (by rw [List.length_map, hZl])⟩ Z0 Ma L0 m n := by
  refine ⟨hb, Nat.le_refl _, hF, hA.hL, fun b x hx => ⟨hs b x hx, .inl hx, fun i lb e => ?_⟩, fun b x hx => ?_, fun b hb' => ?_, sub_refl _, fun a ha => ⟨(hlow a ha).1, if_pos ha, (hlow a ha).2.1⟩, fun i a lb e => ?_, hA.nil, hA.inj, fun i a lb e => .inr (by rw [List.getElem?_map, e]; rfl)⟩
  · rw [(hA.low b (adrs_mem.2 ⟨i, lb, e⟩)).2.2] at hx; cases hx
  · simp only at hx
    split at hx
    · cases hx
    · exact hx
  · simp only
    split
    · rfl
    · exact hF b hb'
  · have hm := adrs_mem.2 ⟨i, lb, e⟩
    obtain ⟨cells, h1, h2⟩ := hA.cell i a lb e
    exact ⟨.inr ((hbr a).2 (.inl hm)), (hA.low a hm).2.1, .of h1 h2⟩
 have hOB : OBs (N := L0.length) ⟨fun b => if b ∈ br then none else m b, Ma, n, bs, br, Z0.map (·.1), Nat.le_of_eq (by rw [List.length_map, hZl])⟩ Z0 Ma m n OL0 := by
  have hlo : ∀ (i : Nat) a, (Z0.map (·.1))[i]? = some (some a) → a < n ∧ a ∈ adrs Z0 := by
   intro i a h
   rw [List.getElem?_map] at h
   cases e : Z0[i]? with
   | none => rw [e] at h; cases h
   | some p =>
     rw [e] at h
     obtain ⟨a0, lb0⟩ := p
     simp only [Option.map_some, Option.some.injEq] at h
     subst h
     have := adrs_mem.2 ⟨i, lb0, e⟩
     exact ⟨(hA.low a this).2.1, this⟩
  rcases hO0 with ⟨rfl, _⟩ | rfl
  · exact .nil fun i a h => (hlo i a h).1
  · refine ⟨fun i D a b h1 h2 => ?_, fun i a h => (hlo i a h).1, fun i j D E a b b' h1 h2 _ _ => ?_⟩
    · cases i with
      | zero =>
        simp at h1; subst h1
        obtain ⟨g1, g2, g3, g4, g5, g6⟩ := hX a b h2
        exact ⟨g1, g2, .inr ((hbr a).2 (.inr (by rw [h2]; rfl))), g4, g5, fun j lb e => g6 (adrs_mem.2 ⟨j, lb, e⟩), fun j e => g6 (hlo j a e).2⟩
      | succ i => simp at h1
    · cases i <;> cases j <;> simp at h1 h2 <;> rfl
 have hS : Slots Ma Z0 (tlOf 0 vargs) (tm0 args) := fun t v hv => by
  obtain ⟨_, x, h1, h2⟩ := tlOf_rel hp hv
  have : tm0 args t = x := by simp only [tm0, List.getD]; rw [show t = t - 0 from rfl, h1]; rfl
  rw [this]; exact h2
 obtain ⟨e, tm1, m1, n1, Z1, M1, tl1, L1, O1, hb1, he, hM1, hS1, hO1, ⟨hex, v, u, L2, K, D, h1, h2, h3, hrefs, h4, h5, hD, h6⟩, hng⟩ := h _ _ _ _ _ _ hM hS hOB
 obtain ⟨x, g1, g2⟩ := retV_rel hM1 hS1 h1
 obtain ⟨k1, k2⟩ := mapO_inv h3
 have hget : ∀ (i : Nat) j, (List.range L0.length ++ K)[i]? = some j → ∃ p, Z1[j]? = some p ∧ L2[i]? = some p.2 := by
  intro i j hij
  obtain ⟨lb, q1, q2⟩ := k2 i j hij
  obtain ⟨a, ha⟩ := hM1.getZ q1
  exact ⟨_, ha, q2⟩
 obtain ⟨Z2, hZ2⟩ : ∃ Z2 : Zl, mapO (fun i => Z1[i]?) (List.range L0.length ++ K) = some Z2 := by
  have gen : ∀ l : List Nat, (∀ j, j ∈ l → ∃ p, Z1[j]? = some p) → ∃ Z2 : Zl, mapO (fun i => Z1[i]?) l = some Z2 := by
   intro l
   induction l with
   | nil => exact fun _ => ⟨[], rfl⟩
   | cons j l ih =>
     intro hl
     obtain ⟨p, hp⟩ := hl j (List.mem_cons_self ..)
     obtain ⟨Z2, h2⟩ := ih fun j' hj' => hl j' (List.mem_cons_of_mem _ hj')
     exact ⟨p :: Z2, by simp only [mapO, hp, h2]⟩
  refine gen _ fun j hj => ?_
  obtain ⟨i, hi⟩ := List.mem_iff_getElem?.1 hj
  obtain ⟨p, hp, _⟩ := hget i j hi
  exact ⟨p, hp⟩
 obtain ⟨z1, z2⟩ := mapO_inv hZ2
 have hz : ∀ (i : Nat) p, Z2[i]? = some p → ∃ j, (List.range L0.length ++ K)[i]? = some j ∧ Z1[j]? = some p := by
  intro i p hp
  have hi : i < (List.range L0.length ++ K).length := by rw [← z1]; exact (List.getElem?_eq_some_iff.1 hp).1
  obtain ⟨y, q1, q2⟩ := z2 i _ (List.getElem?_eq_getElem hi)
  rw [hp] at q2; cases q2
  exact ⟨_, List.getElem?_eq_getElem hi, q1⟩
 have hL2 : Z2.map (·.2) = L2 := by
  apply List.ext_getElem?
  intro i
  rw [List.getElem?_map]
  by_cases hi : i < (List.range L0.length ++ K).length
  · obtain ⟨p, q1, q2⟩ := hget i _ (List.getElem?_eq_getElem hi)
    obtain ⟨y, q3, q4⟩ := z2 i _ (List.getElem?_eq_getElem hi)
    rw [q1] at q3; cases q3
    rw [q4, q2]; rfl
  · rw [List.getElem?_eq_none (by omega), List.getElem?_eq_none (by omega)]; rfl
 have hu : RL M1 Z2 u x := ren_rel (sub_refl _) (fun b b' p hs hp => by
  obtain ⟨y, q1, q2⟩ := z2 _ _ (posN_inv hs)
  rw [hp] at q1; cases q1
  exact ⟨p, q2, grow.refl p⟩) 6 v u x h2 g2
 have hcellok : ∀ (i : Nat) p, Z2[i]? = some p → p.2 ∈ L2 := fun i p hp => by
  have : L2[i]? = some p.2 := by rw [← hL2, List.getElem?_map, hp]; rfl
  exact List.mem_of_getElem? this
 have hokA : ∀ a, (∃ (j : Nat) (lb : LB), Z1[j]? = some (some a, lb)) → a ∈ br ∨ n ≤ a := fun a ⟨j, lb, hj⟩ => ((hM1.cell j a lb hj).1).symm
 refine ⟨x, m1, n1, .call hG hb1 hex g1, u, Z2, D, V.refs_rel hu hrefs, by rw [hL2]; exact h6, ⟨fun i a lb hi => ?_, fun i lb hi => ?_, fun i j a l1 l2 e1 e2 => ?_, fun b y hb' hbo hy => ?_, fun b p hp => ?_, fun i a lb hi => ?_, fun a b hab => ?_⟩⟩
 · obtain ⟨j, q1, q2⟩ := hz i _ hi
   obtain ⟨q3, q4, q7⟩ := hM1.cell j a lb q2
   obtain ⟨cells, q5, q6⟩ := q7.wordsR (hng lb (by rw [← hM1.hL]; exact List.mem_map.2 ⟨_, List.mem_of_getElem? q2, rfl⟩))
   refine ⟨?_, q4, cells, q5, fun M' Z' => LB.wordsR_rel q6 (h4 lb (hcellok i _ hi))⟩
   rcases hM1.lo j a lb q2 with h8 | h8
   · exact .inr h8
   · have h8 : (Z0.map (·.1))[j]? = some (some a) := h8
     rw [List.getElem?_map] at h8
     cases e8 : Z0[j]? with
     | none => rw [e8] at h8; cases h8
     | some p0 =>
       rw [e8] at h8
       obtain ⟨a0, lb0⟩ := p0
       simp only [Option.map_some, Option.some.injEq] at h8
       subst h8
       exact .inl (adrs_mem.2 ⟨j, lb0, e8⟩)
 · obtain ⟨j, q1, q2⟩ := hz i _ hi
   exact hM1.nl j lb q2
 · obtain ⟨j1, q1, q2⟩ := hz i _ e1
   obtain ⟨j2, q3, q4⟩ := hz j _ e2
   have hj := hM1.inj j1 j2 a l1 l2 q2 q4
   subst hj
   exact (List.getElem?_inj (List.getElem?_eq_some_iff.1 q1).1 h5).1 (q1.trans q3.symm)
 · refine hM1.h0 b y ?_
   show (if b ∈ br then none else m b) = some y
   rw [if_neg (fun hc => by
    rcases (hbr b).1 hc with h | h
    · exact hb' h
    · rw [hbo] at h; cases h)]
   exact hy
 · obtain ⟨p1, q1, q2⟩ := he.hZ b p (by rw [← hZl]; exact (List.getElem?_eq_some_iff.1 hp).1) hp
   have hbl : b < L0.length := by rw [← hZl]; exact (List.getElem?_eq_some_iff.1 hp).1
   obtain ⟨y, q3, q4⟩ := z2 b b (by rw [List.getElem?_append_left (by simpa using hbl)]; simp [hbl])
   rw [q1] at q3; cases q3
   exact ⟨p1, q4, q2⟩
 · obtain ⟨j, q1, q2⟩ := hz i _ hi
   rcases hM1.lo j a lb q2 with h8 | h8
   · exact .inl h8
   · have h8 : (Z0.map (·.1))[j]? = some (some a) := h8
     rw [List.getElem?_map] at h8
     cases e8 : Z0[j]? with
     | none => rw [e8] at h8; cases h8
     | some p0 =>
       rw [e8] at h8
       obtain ⟨a0, lb0⟩ := p0
       simp only [Option.map_some, Option.some.injEq] at h8
       subst h8
       have hjl : j < L0.length := by rw [← hZl]; exact (List.getElem?_eq_some_iff.1 e8).1
       have hjj : (List.range L0.length ++ K)[j]? = some j := by rw [List.getElem?_append_left (by simpa using hjl)]; simp [hjl]
       have : i = j := (List.getElem?_inj (List.getElem?_eq_some_iff.1 q1).1 h5).1 (q1.trans hjj.symm)
       subst this
       exact .inr ⟨lb0, e8⟩
 · rcases hD with rfl | ⟨j, hj⟩
   · cases hab
   · obtain ⟨q1, q2, q3, q4, q5, q6, q9⟩ := hO1.pt j D a b hj hab
     refine ⟨q1, q2, q4, ?_, fun ha => ?_⟩
     · rcases q3 with q3 | q3
       · exact .inr q3
       · rcases (hbr a).1 q3 with h | h
         · -- a row that was lent is a row still
           exfalso
           obtain ⟨i, lb, hi⟩ := adrs_mem.1 h
           exact q9 i (by show (Z0.map (·.1))[i]? = some (some a); rw [List.getElem?_map, hi]; rfl)
         · exact .inl (by intro e; rw [e] at h; cases h)
     · obtain ⟨i, lb, hi⟩ := adrs_mem.1 ha
       obtain ⟨j', _, q8⟩ := hz i _ hi
       exact q6 _ _ q8
end Go.Proofs.Ytdialnejieoelaa.AL
