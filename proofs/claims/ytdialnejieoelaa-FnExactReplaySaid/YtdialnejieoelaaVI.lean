/- Arrays of our own that are made while the order of operations is open: put aside, and put in their place later. -/
import Derived.Test.YtdialnejieoelaaVG
namespace Go.Proofs.Ytdialnejieoelaa.AL
open Go
set_option linter.unusedVariables false
set_option linter.unusedSimpArgs false
abbrev Ps := List (Nat × Nat × Nat × List (List V))
structure PendR {N : Nat} (c : Cx N) (Z : Zl) (M m h : Mem) (n : Nat) (X : Xs) (ps : Ps) : Prop where
 nd : (ps.map (·.2.1)).Nodup
 row : ∀ e, e ∈ ps → ∃ cells, h e.2.1 = some ⟨cells, true, e.2.2.1⟩ ∧ LB.rel M Z (.arr e.2.2.1 e.2.2.2) cells
 dom : ∀ a x, h a = some x → c.n0 ≤ a ∧ a < n ∧ m a = none ∧ a ∈ ps.map (·.2.1)
 xs : ∀ a, XIn X a → a < n ∧ a ∉ ps.map (·.2.1)
def VP (N : Nat) (G : Prg) (l : List IOp) (K : Tl → List LB → Prop) (ps : Ps) (tl : Tl) (L : List LB) : Prop :=
 ∀ (c : Cx N) Z M tm m n h X, StM c Z M L m n → Slots M Z tl tm → PendR c Z M m h n X ps → ∃ tm1 m1 n1 Z1 M1 tl1 L1, Big G c.bs (.opsH h X l tm) m n (.exit .normal tm1) m1 n1 ∧ ExtN N Z M Z1 M1 ∧ StM c Z1 M1 L1 m1 n1 ∧ Slots M1 Z1 tl1 tm1 ∧ K tl1 L1
theorem PendR.keep {N : Nat} {c : Cx N} {Z M m h n X ps Z1 M1 m1 n1} (hP : PendR c Z M m h n X ps) (he : ExtV Z M Z1 M1) (hn : n ≤ n1) (hd : ∀ b, b < n → m b = none → m1 b = none) : PendR c Z1 M1 m1 h n1 X ps :=
 ⟨hP.nd, fun e h1 => let ⟨cells, h2, h3⟩ := hP.row e h1; ⟨cells, h2, h3.mono he⟩, fun a x h1 => let ⟨h2, h3, h4, h5⟩ := hP.dom a x h1; ⟨h2, by omega, hd a h3 h4, h5⟩, fun a h1 => let ⟨h2, h3⟩ := hP.xs a h1; ⟨by omega, h3⟩⟩
theorem StM.putAt {N : Nat} {c : Cx N} {Z M L m n} (h : StM c Z M L m n) {a : Nat} (lb : LB) (cells : List Value) (hr : lb.rel M Z cells) (h0 : c.n0 ≤ a) (hn : a < n) (hm : m a = none) (hng : L.all LB.ng = true) :
 ExtV Z M (Z ++ [(some a, lb)]) M ∧ StM c (Z ++ [(some a, lb)]) M (L ++ [lb]) (upd m a (some ⟨cells, true, lb.sz⟩)) n ∧ (Z ++ [(some a, lb)])[L.length]? = some (some a, lb) := by
 have hlt : ∀ (i : Nat) p, Z[i]? = some p → i < Z.length := fun i p hp => (List.getElem?_eq_some_iff.1 hp).1
 have hget : ∀ (i : Nat) p, (Z ++ [(some a, lb)])[i]? = some p → Z[i]? = some p ∨ (i = Z.length ∧ p = (some a, lb)) := by
  intro i p hp
  rw [List.getElem?_append] at hp
  split at hp
  · exact .inl hp
  · rename_i hi
    rw [List.getElem?_singleton] at hp
    split at hp
    · cases hp; exact .inr ⟨by omega, rfl⟩
    · cases hp
 have hext : ExtV Z M (Z ++ [(some a, lb)]) M := ⟨sub_refl _, fun b p hp => ⟨p, by rw [List.getElem?_append_left (hlt b p hp)]; exact hp, grow.refl p⟩⟩
 have hMn : ∀ b x, M b = some x → b ≠ a := by
  intro b x hb e
  subst e
  have := (h.hM _ _ hb).1
  rw [hm] at this; cases this
 have hZn : ∀ (i : Nat) b lb', Z[i]? = some (some b, lb') → b ≠ a := by
  intro i b lb' hi e
  subst e
  obtain ⟨_, _, h3⟩ := h.cell i b lb' hi
  have hlb : lb' ∈ L := by rw [← h.hL]; exact List.mem_map.2 ⟨_, List.mem_of_getElem? hi, rfl⟩
  have hgn : lb' ≠ .gone := fun e => by
   have := List.all_eq_true.1 hng lb' hlb
   rw [e] at this; cases this
  obtain ⟨cells', h4, _⟩ := h3.wordsR hgn
  rw [hm] at h4; cases h4
 refine ⟨hext, ⟨h.hbs, h.hn, fun b hb => ?_, by simp [h.hL], fun b x hb => ?_, fun b x hb => ?_, h.f0, h.hma, h.hbr, fun i b lb' hi => ?_, fun i lb' hi => ?_, fun i j b l1 l2 hi hj => ?_, fun i b lb' hi => ?_⟩, ?_⟩
 · simp only [upd]; rw [if_neg (by omega)]; exact h.fresh b hb
 · obtain ⟨h1, h2, h3⟩ := h.hM b x hb
   refine ⟨by simp only [upd, if_neg (hMn b x hb)]; exact h1, h2, fun i lb' e => ?_⟩
   rcases hget i _ e with e1 | ⟨_, e1⟩
   · exact h3 i lb' e1
   · cases e1; exact hMn _ x hb rfl
 · have hne : b ≠ a := fun e => by rw [e, h.f0 a h0] at hb; cases hb
   simp only [upd, if_neg hne]; exact h.h0 b x hb
 · rcases hget i _ hi with e1 | ⟨_, e1⟩
   · obtain ⟨h1, h2, h3⟩ := h.cell i b lb' e1
     exact ⟨h1, h2, h3.mono hext (by simp only [upd, if_neg (hZn i b lb' e1)])⟩
   · cases e1
     exact ⟨.inl h0, hn, .of (cells := cells) (by simp [upd]) (hr.mono hext)⟩
 · rcases hget i _ hi with e1 | ⟨_, e1⟩
   · exact h.nl i lb' e1
   · cases e1
 · rcases hget i _ hi with e1 | ⟨e0, e1⟩ <;> rcases hget j _ hj with e2 | ⟨e3, e2⟩
   · exact h.inj i j b l1 l2 e1 e2
   · cases e2; exact absurd rfl (hZn i _ _ e1)
   · cases e1; exact absurd rfl (hZn j _ _ e2)
   · omega
 · rcases hget i _ hi with e1 | ⟨_, e1⟩
   · exact h.lo i b lb' e1
   · cases e1; exact .inl h0
 · rw [← h.lenZ, List.getElem?_append_right (Nat.le_refl _)]; simp
def joinP : Ps → Tl → List LB → Option (Tl × List LB)
 | [], tl, L => some (tl, L)
 | (d, _, k, rows) :: ps, tl, L => match pushN L (.arr k rows) with
   | some (L1, b) => joinP ps ((d, .ls b rows.length) :: tl) L1
   | none => none
def hasP (tl : Tl) : Ps → Prop
 | [] => True
 | (d, a, _, rows) :: ps => look tl d = some (.raw (slc a 0 rows.length rows.length)) ∧ hasP tl ps
theorem hasP_cons {tl : Tl} {d b len : Nat} : ∀ {ps : Ps}, d ∉ ps.map (·.1) → hasP tl ps → hasP ((d, .ls b len) :: tl) ps
 | [], _, _ => trivial
 | (d', a, k, rows) :: ps, hd, h => by
   simp only [List.map_cons, List.mem_cons, not_or] at hd
   refine ⟨?_, hasP_cons hd.2 h.2⟩
   have h1 := h.1
   simp only [look]
   rw [show Nat.beq d' d = false from by cases e : Nat.beq d' d with | false => rfl | true => exact absurd (Nat.eq_of_beq_eq_true e).symm hd.1]
   exact h1
theorem join_all {N : Nat} {c : Cx N} {M : Mem} {n : Nat} {tm : Tm} : ∀ {ps : Ps} {Z : Zl} {L L' : List LB} {tl tl' : Tl} {m h : Mem}, StM c Z M L m n → Slots M Z tl tm → PendR c Z M m h n [] ps → L.all LB.ng = true → hasP tl ps → (ps.map (·.1)).Nodup → joinP ps tl L = some (tl', L') →
 ∃ Z', ExtV Z M Z' M ∧ StM c Z' M L' (mrg h m) n ∧ Slots M Z' tl' tm
 | [], Z, L, L', tl, tl', m, h, hM, hS, hP, _, _, _, hj => by
   cases hj
   have e : mrg h m = m := by
    funext a
    cases e1 : h a with
    | none => exact mrg_none e1
    | some x => have := (hP.dom a x e1).2.2.2; cases this
   rw [e]; exact ⟨Z, ExtV.refl _ _, hM, hS⟩
 | (d, a, k, rows) :: ps, Z, L, L', tl, tl', m, h, hM, hS, hP, hng, hh, hnd, hj => by
   simp only [joinP] at hj
   split at hj
   · rename_i L1 b hp
     have := pushN_inv hp; cases this
     obtain ⟨cells, h1, h2⟩ := hP.row _ (List.mem_cons_self ..)
     simp only at h1 h2
     obtain ⟨g1, g2, g3, _⟩ := hP.dom _ _ h1
     obtain ⟨k1, k2, k3⟩ := hM.putAt (.arr k rows) cells h2 g1 g2 g3 hng
     have hnd2 := hP.nd
     simp only [List.map_cons, List.nodup_cons] at hnd2 hnd
     have hP' : PendR c (Z ++ [(some a, LB.arr k rows)]) M (upd m a (some ⟨cells, true, LB.sz (.arr k rows)⟩)) (upd h a none) n [] ps := by
      refine ⟨hnd2.2, fun e he => ?_, fun a' x hx => ?_, fun a' ⟨_, e⟩ => nomatch e⟩
      · obtain ⟨cells', q1, q2⟩ := hP.row e (List.mem_cons_of_mem _ he)
        have hne : e.2.1 ≠ a := fun e1 => hnd2.1 (List.mem_map.2 ⟨e, he, e1⟩)
        exact ⟨cells', by simp only [upd, if_neg hne]; exact q1, q2.mono k1⟩
      · simp only [upd] at hx
        split at hx
        · cases hx
        · rename_i hne
          obtain ⟨q1, q2, q3, q4⟩ := hP.dom a' x hx
          refine ⟨q1, q2, by simp only [upd, if_neg hne]; exact q3, ?_⟩
          rcases List.mem_cons.1 q4 with q4 | q4
          · exact absurd q4 hne
          · exact q4
     have hS' : Slots M (Z ++ [(some a, LB.arr k rows)]) ((d, .ls L.length rows.length) :: tl) tm := by
      have hv := (hS _ _ hh.1).raw_inv
      have hr : RL M (Z ++ [(some a, LB.arr k rows)]) (.ls L.length rows.length) (tm d) := .ls k3 (Nat.le_refl _) hv.2 fun _ => hv.1
      have := (hS.mono k1).put (d := d) hr
      rwa [show upd tm d (tm d) = tm from by funext t; simp only [upd]; split <;> simp_all] at this
     obtain ⟨Z', q1, q2, q3⟩ := join_all k2 hS' hP' (by rw [List.all_append, hng]; rfl) (hasP_cons hnd.1 hh.2) hnd.2 hj
     have e : mrg (upd h a none) (upd m a (some ⟨cells, true, LB.sz (.arr k rows)⟩)) = mrg h m := by
      funext x
      by_cases hx : x = a
      · subst hx; rw [mrg_none (by simp [upd]), mrg_some h1]; simp [upd, LB.sz]
      · simp only [mrg, upd, if_neg hx]
     rw [e] at q2
     exact ⟨Z', k1.tr q1, q2, q3⟩
   · cases hj
section
variable {N : Nat} {G : Prg} {tl : Tl} {L : List LB} {K : Tl → List LB → Prop} {ps : Ps} {l : List IOp}
theorem p_bs0 {d k z} (hz : z.length = k) (kk : ∀ a, VP N G l K [(d, a, k, [])] ((d, .raw (slc a 0 0 0)) :: tl) L) : VO N G (⟨some d, .bs k 0 z [], none, true⟩ :: l) K tl L := by
 intro c Z M tm m n hM hS
 have hn := hM.hn
 have hP : PendR c Z M m (upd (fun _ => none) n (some ⟨[], true, k⟩)) (n + 1) [] [(d, n, k, [])] := by
  refine ⟨by simp, fun e he => ?_, fun a x hx => ?_, fun a ⟨_, h⟩ => nomatch h⟩
  · rw [List.mem_singleton] at he; subst he
    exact ⟨[], by simp [upd], [], rfl, rfl, (fun r' h => nomatch h), (fun i r r' h => by simp at h), fun i r j x h => by simp at h⟩
  · simp only [upd] at hx
    split at hx
    · rename_i e; subst e
      exact ⟨hn, Nat.lt_succ_self _, hM.fresh _ (Nat.le_refl _), by simp⟩
    · cases hx
 have hM1 : StM c Z M L m (n + 1) := ⟨hM.hbs, by omega, fun b hb => hM.fresh b (by omega), hM.hL, hM.hM, hM.h0, hM.f0, hM.hma, hM.hbr, fun i a lb hi => let ⟨q1, q2, q3⟩ := hM.cell i a lb hi; ⟨q1, by omega, q3⟩, hM.nl, hM.inj, hM.lo⟩
 obtain ⟨tm3, m3, n3, Z3, M3, tl3, L3, hb, r⟩ := kk n c Z M (upd tm d (slc n 0 0 0)) m (n + 1) _ [] hM1 (hS.put (.fz (.raw rfl))) hP
 exact ⟨tm3, m3, n3, Z3, M3, tl3, L3, .opsNewH (fun g b e => by cases e) rfl (by simp [stepO, hz, fill]) hb, r⟩
theorem p_bs {d k z} (hz : z.length = k) (kk : ∀ a, VP N G l K (ps ++ [(d, a, k, [])]) ((d, .raw (slc a 0 0 0)) :: tl) L) : VP N G (⟨some d, .bs k 0 z [], none, true⟩ :: l) K ps tl L := by
 intro c Z M tm m n h X hM hS hP
 have hn := hM.hn
 have hno : n ∉ ps.map (·.2.1) := fun e => by
  obtain ⟨p, h1, h2⟩ := List.mem_map.1 e
  obtain ⟨cells, h3, _⟩ := hP.row p h1
  rw [h2] at h3
  have := (hP.dom _ _ h3).2.1; omega
 have hP1 : PendR c Z M m (upd h n (some ⟨[], true, k⟩)) (n + 1) X (ps ++ [(d, n, k, [])]) := by
  refine ⟨?_, fun e he => ?_, fun a x hx => ?_, fun a ha => ?_⟩
  · rw [List.map_append, List.nodup_append]
    exact ⟨hP.nd, by simp, fun a ha b hb => by simp at hb; subst hb; exact fun e => hno (e ▸ ha)⟩
  · rcases List.mem_append.1 he with he | he
    · obtain ⟨cells, q1, q2⟩ := hP.row e he
      have hne : e.2.1 ≠ n := fun e1 => hno (List.mem_map.2 ⟨e, he, e1⟩)
      exact ⟨cells, by simp only [upd, if_neg hne]; exact q1, q2⟩
    · rw [List.mem_singleton] at he; subst he
      exact ⟨[], by simp [upd], [], rfl, rfl, (fun r' h => nomatch h), (fun i r r' h => by simp at h), fun i r j x h => by simp at h⟩
  · simp only [upd] at hx
    split at hx
    · rename_i e; subst e
      exact ⟨hn, Nat.lt_succ_self _, hM.fresh _ (Nat.le_refl _), by simp⟩
    · obtain ⟨q1, q2, q3, q4⟩ := hP.dom a x hx
      exact ⟨q1, by omega, q3, by rw [List.map_append]; exact List.mem_append_left _ q4⟩
  · obtain ⟨q1, q2⟩ := hP.xs a ha
    refine ⟨by omega, fun e => ?_⟩
    rw [List.map_append] at e
    rcases List.mem_append.1 e with e | e
    · exact q2 e
    · simp at e; omega
 have hM1 : StM c Z M L m (n + 1) := ⟨hM.hbs, by omega, fun b hb => hM.fresh b (by omega), hM.hL, hM.hM, hM.h0, hM.f0, hM.hma, hM.hbr, fun i a lb hi => let ⟨q1, q2, q3⟩ := hM.cell i a lb hi; ⟨q1, by omega, q3⟩, hM.nl, hM.inj, hM.lo⟩
 obtain ⟨tm3, m3, n3, Z3, M3, tl3, L3, hb, r⟩ := kk n c Z M (upd tm d (slc n 0 0 0)) m (n + 1) _ X hM1 (hS.put (.fz (.raw rfl))) hP1
 exact ⟨tm3, m3, n3, Z3, M3, tl3, L3, .hNew rfl (fun g b e => by cases e) (by simp [stepO, hz, fill]) hb, r⟩
theorem p_op {d o v L1} (h : OpV G true o tl L (some v) L1) (k : VP N G l K ps ((d, v) :: tl) L1) : VP N G (⟨some d, o, none, true⟩ :: l) K ps tl L := by
 intro c Z M tm m n hm X hM hS hP
 obtain ⟨v', m1, n1, Z1, M1, h1, he, hM1, hr⟩ := h _ c Z M tm m n hM hS
 have hnd : n ≤ n1 ∧ ∀ b, b < n → m b = none → m1 b = none := by
  rcases h1 with h1 | ⟨f, args, h2, h3⟩
  · exact ⟨(step_fresh1 h1 hM.fresh).1, step_dom h1⟩
  · exact ⟨(h3.fresh hM.fresh).1, fun b hb e => h3.dom b hb e⟩
 obtain ⟨tm3, m3, n3, Z3, M3, tl3, L3, hb, he3, r⟩ := k c Z1 M1 (upd tm d v') m1 n1 hm X hM1 ((hS.mono he).put (hr v rfl)) (hP.keep he hnd.1 hnd.2)
 refine ⟨tm3, m3, n3, Z3, M3, tl3, L3, ?_, he.trans he3, r⟩
 rcases h1 with h1 | ⟨f, args, h2, h3⟩
 · exact .hPure rfl (fun g b e => by cases e) h1 hb
 · exact .hCall rfl (fun g b e => by cases e) h2 h3 hb
def findP (d : Nat) : Ps → Option (Nat × Nat × List (List V))
 | [] => none
 | p :: ps => match Nat.beq p.1 d with
   | true => some p.2
   | false => findP d ps
def repP (d : Nat) (e : Nat × Nat × Nat × List (List V)) : Ps → Ps
 | [] => []
 | p :: ps => match Nat.beq p.1 d with
   | true => e :: ps
   | false => p :: repP d e ps
theorem findP_mem {d : Nat} {q : Nat × Nat × List (List V)} : ∀ {ps : Ps}, findP d ps = some q → (d, q) ∈ ps
 | p :: ps, h => by
   simp only [findP] at h
   split at h
   · rename_i e
     cases h
     have := Nat.eq_of_beq_eq_true e
     subst this
     exact List.mem_cons_self ..
   · exact List.mem_cons_of_mem _ (findP_mem h)
theorem repP_mem {d : Nat} {e p : Nat × Nat × Nat × List (List V)} : ∀ {ps : Ps}, (ps.map (·.2.1)).Nodup → p ∈ repP d e ps → p = e ∨ (p ∈ ps ∧ ∀ q, findP d ps = some q → p.2.1 ≠ q.1)
 | [], _, h => by cases h
 | p0 :: ps, hnd, h => by
   simp only [List.map_cons, List.nodup_cons] at hnd
   simp only [repP] at h
   split at h
   · rename_i hb
     rcases List.mem_cons.1 h with h | h
     · exact .inl h
     · refine .inr ⟨List.mem_cons_of_mem _ h, fun q hq => ?_⟩
       simp only [findP, hb] at hq
       cases hq
       exact fun e1 => hnd.1 (List.mem_map.2 ⟨p, h, e1⟩)
   · rename_i hb
     rcases List.mem_cons.1 h with rfl | h
     · refine .inr ⟨List.mem_cons_self .., fun q hq => ?_⟩
       simp only [findP, hb] at hq
       exact fun e1 => hnd.1 (List.mem_map.2 ⟨_, findP_mem hq, e1.symm⟩)
     · rcases repP_mem hnd.2 h with h | ⟨h1, h2⟩
       · exact .inl h
       · refine .inr ⟨List.mem_cons_of_mem _ h1, fun q hq => ?_⟩
         simp only [findP, hb] at hq
         exact h2 q hq
theorem repP_nd {d : Nat} {e : Nat × Nat × Nat × List (List V)} : ∀ {ps : Ps}, (ps.map (·.2.1)).Nodup → (∀ q, findP d ps = some q → e.2.1 = q.1 ∨ e.2.1 ∉ ps.map (·.2.1)) → ((repP d e ps).map (·.2.1)).Nodup
 | [], _, _ => by simp [repP]
 | p0 :: ps, hnd, h => by
   have hnd' := hnd
   simp only [List.map_cons, List.nodup_cons] at hnd
   simp only [repP]
   split
   · rename_i hb
     simp only [findP, hb] at h
     simp only [List.map_cons, List.nodup_cons]
     refine ⟨fun e1 => ?_, hnd.2⟩
     rcases h _ rfl with h | h
     · rw [h] at e1; exact hnd.1 e1
     · exact h (by rw [List.map_cons]; exact List.mem_cons_of_mem _ e1)
   · rename_i hb
     simp only [findP, hb] at h
     simp only [List.map_cons, List.nodup_cons]
     refine ⟨fun e1 => ?_, repP_nd hnd.2 fun q hq => (h q hq).imp id fun h2 e1 => h2 (by rw [List.map_cons]; exact List.mem_cons_of_mem _ e1)⟩
     obtain ⟨p, h1, h2⟩ := List.mem_map.1 e1
     rcases repP_mem hnd.2 h1 with rfl | ⟨h3, _⟩
     · cases hf : findP d ps with
       | none =>
         have : ∀ {ps : Ps}, findP d ps = none → repP d p ps = ps := by
          intro ps
          induction ps with
          | nil => intro _; rfl
          | cons p1 ps ih =>
            intro h
            simp only [findP] at h
            split at h
            · cases h
            · rename_i hb1; simp only [repP, hb1]; rw [ih h]
         rw [this hf] at h1
         exact hnd.1 (List.mem_map.2 ⟨_, h1, h2⟩)
       | some q =>
         rcases h q hf with h | h
         · rw [h] at h2; exact hnd.1 (List.mem_map.2 ⟨_, findP_mem hf, h2⟩)
         · exact h (by rw [List.map_cons, h2]; exact List.mem_cons_self ..)
     · exact hnd.1 (List.mem_map.2 ⟨p, h3, h2⟩)
theorem repP_in {d : Nat} {e p : Nat × Nat × Nat × List (List V)} : ∀ {ps : Ps} {q}, findP d ps = some q → p ∈ ps → p.2.1 ≠ q.1 → p ∈ repP d e ps
 | p0 :: ps, q, hf, hp, hne => by
   simp only [findP] at hf
   simp only [repP]
   split at hf
   · rename_i hb
     cases hf
     rcases List.mem_cons.1 hp with rfl | hp
     · exact absurd rfl hne
     · exact List.mem_cons_of_mem _ hp
   · rename_i hb
     rcases List.mem_cons.1 hp with rfl | hp
     · exact List.mem_cons_self ..
     · exact List.mem_cons_of_mem _ (repP_in hf hp hne)
theorem repP_new {d : Nat} {e : Nat × Nat × Nat × List (List V)} : ∀ {ps : Ps} {q}, findP d ps = some q → e ∈ repP d e ps
 | p0 :: ps, q, hf => by
   simp only [findP] at hf
   simp only [repP]
   split at hf
   · exact List.mem_cons_self ..
   · exact List.mem_cons_of_mem _ (repP_new hf)
theorem rdn_sub {m m' : Mem} (hs : sub m m') {a : Addr} {k : Nat} {vs : List Value} (h : rdn m a k = some vs) : rdn m' a k = some vs := by
 unfold rdn at h ⊢
 split at h
 · cases h
 · rename_i h1
   rw [if_neg h1]
   cases hb : m a.block with
   | none => rw [hb] at h; cases h
   | some b => rw [hb] at h; rw [hs _ _ hb]; exact h
theorem p_app {d s a k bytes rows2} {x : E} (hs : look tl s = some (.raw (slc a 0 0 0))) (hf : findP s ps = some (a, k, [])) (hy : evE tl x = some (.sl k rows2)) (hroom : rows2.length * bytes ≤ roomy ∧ rows2.length ≤ roomy)
 (kk : ∀ a', VP N G l K (repP s (d, a', k, rows2) ps) ((d, .raw (slc a' 0 rows2.length rows2.length)) :: tl) L) : VP N G (⟨some d, .app k bytes (.t s) x, none, true⟩ :: l) K ps tl L := by
 intro c Z M tm m n h X hM hS hP
 have hsv : tm s = slc a 0 0 0 := (hS _ _ hs).raw_inv.1
 obtain ⟨⟨xb, xc, e2, h2⟩, hn2⟩ := Src.ofSl hM.subM (evE_rel hS hy).sl_inv
 have hmem := findP_mem hf
 obtain ⟨cells, hc1, hc2⟩ := hP.row _ hmem
 simp only at hc1 hc2
 obtain ⟨g1, g2, g3, g4⟩ := hP.dom _ _ hc1
 have hcn := hM.hn
 have hce : cells = [] := by
  obtain ⟨r', q1, q2, _⟩ := hc2
  have : r' = [] := List.eq_nil_of_length_eq_zero q2
  rw [q1, this]; rfl
 subst hce
 by_cases hne : rows2 = []
 · subst hne
   have hP1 : PendR c Z M m h n X (repP s (d, a, k, []) ps) := by
    refine ⟨repP_nd hP.nd fun q hq => by rw [hf] at hq; cases hq; exact .inl rfl, fun e he => ?_, fun a' x' hx => ?_, fun a' ha => ?_⟩
    · rcases repP_mem hP.nd he with rfl | ⟨he, _⟩
      · exact ⟨_, hc1, hc2⟩
      · exact hP.row e he
    · obtain ⟨q1, q2, q3, q4⟩ := hP.dom a' x' hx
      refine ⟨q1, q2, q3, ?_⟩
      by_cases e : a' = a
      · subst e; exact List.mem_map.2 ⟨_, repP_new hf, rfl⟩
      · obtain ⟨p, p1, p2⟩ := List.mem_map.1 q4
        exact List.mem_map.2 ⟨p, repP_in hf p1 (by rw [p2]; exact e), p2⟩
    · obtain ⟨q1, q2⟩ := hP.xs a' ha
      refine ⟨q1, fun e => ?_⟩
      obtain ⟨p, p1, p2⟩ := List.mem_map.1 e
      rcases repP_mem hP.nd p1 with rfl | ⟨p1, _⟩
      · exact q2 (List.mem_map.2 ⟨_, hmem, p2⟩)
      · exact q2 (List.mem_map.2 ⟨p, p1, p2⟩)
   obtain ⟨tm3, m3, n3, Z3, M3, tl3, L3, hb, r⟩ := kk a c Z M (upd tm d (slc a 0 0 0)) m n h X hM (hS.put (.fz (.raw rfl))) hP1
   refine ⟨tm3, m3, n3, Z3, M3, tl3, L3, .hPure rfl (fun g b e => by cases e) ?_ hb, r⟩
   simp only [stepO, show (E.t s).ev tm = .slice (some ⟨a, 0, none⟩) 0 0 from hsv, e2]
   rw [if_pos ⟨by simp, by simp, Nat.le_refl _⟩]
   rfl
 · obtain ⟨xa, rows2', rfl, hrd, hl2, hall2, hpt2⟩ := h2 hne
   have hpos : 0 < rows2.length := List.length_pos_iff.2 hne
   have hnar2 := Src.all (M := M) (m := m) (k := k) hl2 hn2 hpt2
   let new : Blk := ⟨rows2'.flatten, true, k⟩
   let mh : Mem := upd m a (some ⟨[], true, k⟩)
   have hsub : sub m mh := fun b x hb => by
    have : b ≠ a := fun e => by rw [e, g3] at hb; cases hb
    simp only [mh, upd, if_neg this]; exact hb
   have hrd' : rdn mh xa (rows2.length * k) = some rows2'.flatten := rdn_sub hsub hrd
   have hnX : ¬ XIn X a := fun hx => (hP.xs a hx).2 g4
   have hno : n ∉ ps.map (·.2.1) := fun e => by
    obtain ⟨p, h1, h2⟩ := List.mem_map.1 e
    obtain ⟨cells, h3, _⟩ := hP.row p h1
    rw [h2] at h3
    have := (hP.dom _ _ h3).2.1; omega
   have hhn : h n = none := by
    cases e : h n with
    | none => rfl
    | some y => have := (hP.dom n y e).2.1; omega
   have hP1 : PendR c Z M m (upd (upd h a none) n (some new)) (n + 1) (XAdd (.app k bytes (.t s) x) [a] X) (repP s (d, n, k, rows2) ps) := by
    refine ⟨repP_nd hP.nd fun q hq => .inr hno, fun e he => ?_, fun a' x' hx => ?_, fun a' ha => ?_⟩
    · rcases repP_mem hP.nd he with rfl | ⟨he, hq⟩
      · exact ⟨rows2'.flatten, by simp [upd, new], rows2', rfl, hl2, hall2, hpt2, hn2⟩
      · obtain ⟨cells, q1, q2⟩ := hP.row e he
        have h1 : e.2.1 ≠ a := hq _ hf
        have h3 : e.2.1 ≠ n := fun e1 => hno (List.mem_map.2 ⟨e, he, e1⟩)
        exact ⟨cells, by simp only [upd, if_neg h1, if_neg h3]; exact q1, q2⟩
    · simp only [upd] at hx
      split at hx
      · rename_i e; subst e
        exact ⟨hcn, Nat.lt_succ_self _, hM.fresh _ (Nat.le_refl _), List.mem_map.2 ⟨_, repP_new hf, rfl⟩⟩
      · split at hx
        · cases hx
        · rename_i _ e
          obtain ⟨q1, q2, q3, q4⟩ := hP.dom a' x' hx
          obtain ⟨p, p1, p2⟩ := List.mem_map.1 q4
          exact ⟨q1, by omega, q3, List.mem_map.2 ⟨p, repP_in hf p1 (by rw [p2]; exact e), p2⟩⟩
    · have : a' < n ∧ (a' = a ∨ a' ∉ ps.map (·.2.1)) := by
       rcases XAdd.xin.1 ha with h | h
       · rw [List.mem_singleton] at h; subst h; exact ⟨g2, .inl rfl⟩
       · exact ⟨(hP.xs a' h).1, .inr (hP.xs a' h).2⟩
      refine ⟨by omega, fun e => ?_⟩
      obtain ⟨p, p1, p2⟩ := List.mem_map.1 e
      rcases repP_mem hP.nd p1 with rfl | ⟨p1, hq⟩
      · have p2 : n = a' := p2
        omega
      · rcases this.2 with h | h
        · exact hq _ hf (by rw [p2]; exact h)
        · exact h (List.mem_map.2 ⟨p, p1, p2⟩)
   have hM1 : StM c Z M L m (n + 1) := ⟨hM.hbs, by omega, fun b hb => hM.fresh b (by omega), hM.hL, hM.hM, hM.h0, hM.f0, hM.hma, hM.hbr, fun i a lb hi => let ⟨q1, q2, q3⟩ := hM.cell i a lb hi; ⟨q1, by omega, q3⟩, hM.nl, hM.inj, hM.lo⟩
   obtain ⟨tm3, m3, n3, Z3, M3, tl3, L3, hb, r⟩ := kk n c Z M (upd tm d (slc n 0 rows2.length rows2.length)) m (n + 1) _ _ hM1 (hS.put (.fz (.raw rfl))) hP1
   refine ⟨tm3, m3, n3, Z3, M3, tl3, L3, .hHvO (T := [a]) (mh := mh) (mh' := upd (upd mh a none) n (some new)) (h2 := upd (upd h a none) n (some new)) (m2 := m) rfl (fun g b e => by cases e) ?_ ⟨fun b y hb' => ?_, fun b hb' => ?_, fun b y hb' hT => ?_, fun b y hb' hT => ?_, fun b y hb' => ?_, fun b y hb' => ?_, fun b y hb' => ?_⟩ hb, r⟩
   · simp only [stepO, show (E.t s).ev tm = .slice (some ⟨a, 0, none⟩) 0 0 from hsv, e2]
     rw [if_pos ⟨by simpa using hroom.1, by simpa using hroom.2, Nat.le_refl _⟩, if_neg (by omega)]
     simp only [hrd', hnar2, if_true, Option.isSome_none, Bool.false_eq_true, if_false]
     have : mh a = some ⟨[], true, k⟩ := by simp [mh, upd]
     simp only [this]
     rw [if_pos ⟨by have := hM.hbs; omega, trivial, trivial, by simp, by omega⟩]
     simp [new, slc]
   · simp only [mh, upd] at hb'
     split at hb'
     · rename_i e; subst e; cases hb'; exact .inl ⟨List.mem_singleton.2 rfl, hc1⟩
     · exact .inr hb'
   · rw [List.mem_singleton] at hb'; subst hb'
     exact ⟨⟨fun h1 => hnX ⟨_, h1⟩, fun _ h1 => hnX ⟨_, h1⟩⟩, g3, ⟨_, hc1, by simp [mh, upd]⟩, s, ⟨b, 0, none⟩, by simp [O.slots, E.slots], rfl, rfl, .inr ⟨0, 0, hsv⟩⟩
   · rw [List.mem_singleton] at hT
     have : b ≠ n := fun e => by subst e; simp only [mh, upd, if_neg hT] at hb'; rw [hM.fresh _ (Nat.le_refl _)] at hb'; cases hb'
     simp only [upd, if_neg hT, if_neg this]; exact hb'
   · rw [List.mem_singleton] at hT
     have : b ≠ n := fun e => by subst e; rw [hhn] at hb'; cases hb'
     simp only [upd, if_neg hT, if_neg this]; exact hb'
   · simp only [upd] at hb'
     split at hb'
     · rename_i e; subst e; cases hb'; exact .inr ⟨.inr (Nat.le_refl _), by simp [upd]⟩
     · split at hb'
       · cases hb'
       · rename_i _ e
         exact .inl ⟨(hP.dom b y hb').2.1, by simpa using e, hb'⟩
   · refine .inl ⟨?_, hb'⟩
     rcases Nat.lt_or_ge b n with h1 | h1
     · exact h1
     · rw [hM.fresh b h1] at hb'; cases hb'
   · simp only [upd] at hb'
     split at hb'
     · rename_i e; subst e; exact hM.fresh _ (Nat.le_refl _)
     · split at hb'
       · cases hb'
       · exact (hP.dom b y hb').2.2.1
theorem PendR.noX {c : Cx N} {Z M m h n X} (hP : PendR c Z M m h n X ps) : PendR c Z M m h n [] ps := ⟨hP.nd, hP.row, hP.dom, fun a ⟨_, e⟩ => nomatch e⟩
theorem p_bar {d o g tl' L'} (is : List Nat) (hj : joinP ps tl L = some (tl', L')) (hng : L.all LB.ng = true) (hh : hasP tl ps) (hi : ps.map (·.1) = is) (hnd : is.Nodup) (k : VO N G (⟨d, o, g, false⟩ :: l) K tl' L') : VP N G (⟨d, o, g, false⟩ :: l) K ps tl L := by
 intro c Z M tm m n h X hM hS hP
 obtain ⟨Z1, he, hM1, hS1⟩ := join_all hM hS hP.noX hng hh (by rw [hi]; exact hnd) hj
 obtain ⟨tm2, m2, n2, Z2, M2, tl2, L2, hb, he2, r⟩ := k c Z1 M tm _ n hM1 hS1
 exact ⟨tm2, m2, n2, Z2, M2, tl2, L2, .hBar rfl hb, he.trans he2, r⟩
end
end Go.Proofs.Ytdialnejieoelaa.AL
