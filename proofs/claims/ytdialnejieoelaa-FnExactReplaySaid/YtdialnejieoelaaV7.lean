/- Stores whose order is drawn: rows that are put aside while the other operations are carried out. -/
import Derived.Test.YtdialnejieoelaaV6
namespace Go.Proofs.Ytdialnejieoelaa.AL
open Go
set_option linter.unusedVariables false
set_option linter.unusedSimpArgs false
abbrev Hs := List (Nat × List V × Nat)
def Mk0 (X : Xs) (a d : Nat) : Prop := (d = 0 → ¬ XIn X a) ∧ (d = 1 → (a, false) ∉ X)
theorem Mk0.nil (a d : Nat) : Mk0 [] a d := ⟨fun _ ⟨_, h⟩ => (nomatch h), fun _ h => (nomatch h)⟩
theorem Mk0.ok {X : Xs} {a d : Nat} {o : O} (h : Mk0 X a d) (hd : d = 0 ∨ (d = 1 ∧ o.isCall = true)) : XOk o X a := by
 rcases hd with rfl | ⟨rfl, hc⟩
 · exact ⟨fun h1 => h.1 rfl ⟨_, h1⟩, fun _ h1 => h.1 rfl ⟨_, h1⟩⟩
 · exact ⟨h.2 rfl, fun e => by rw [hc] at e; cases e⟩
theorem Mk0.add {X : Xs} {a d : Nat} {o : O} {T : List Nat} (h : Mk0 X a d) (ha : a ∉ T) : Mk0 (XAdd o T X) a d := by
 refine ⟨fun e h1 => ?_, fun e h1 => ?_⟩
 · rcases XAdd.xin.1 h1 with h2 | h2
   · exact ha h2
   · exact h.1 e h2
 · rcases XAdd.mem.1 h1 with ⟨h2, _⟩ | h2
   · exact ha h2
   · exact h.2 e h2
theorem Mk0.call {X : Xs} {a d : Nat} {o : O} {T : List Nat} (h : Mk0 X a d) (hd : d = 0 ∨ d = 1) (hc : o.isCall = true) : Mk0 (XAdd o T X) a 1 := by
 refine ⟨fun e => (by cases e), fun _ h1 => ?_⟩
 rcases XAdd.mem.1 h1 with ⟨_, h2⟩ | h2
 · rw [hc] at h2; cases h2
 · rcases hd with rfl | rfl
   · exact h.1 rfl ⟨_, h2⟩
   · exact h.2 rfl h2
structure HidR (Z : Zl) (M : Mem) (L : List LB) (h : Mem) (X : Xs) (hs : Hs) : Prop where
 nd : (hs.map (·.1)).Nodup
 row : ∀ e, e ∈ hs → L[e.1]? = some .gone ∧ ∃ a cells, Z[e.1]? = some (some a, .gone) ∧ h a = some ⟨cells, true, 1⟩ ∧ Pt (RL M Z) e.2.1 cells ∧ Mk0 X a e.2.2
 dom : ∀ a x, h a = some x → ∃ e, e ∈ hs ∧ Z[e.1]? = some (some a, .gone)
 xs : ∀ a, XIn X a → ∃ x, h a = some x
theorem HidR.noX {Z M L h X hs} (hH : HidR Z M L h X hs) : HidR Z M L h [] hs :=
 ⟨hH.nd, fun e he => let ⟨h1, a, cells, h2, h3, h4, _⟩ := hH.row e he; ⟨h1, a, cells, h2, h3, h4, Mk0.nil _ _⟩, hH.dom, fun a ⟨_, h⟩ => nomatch h⟩
def VH (N : Nat) (G : Prg) (l : List IOp) (K : Tl → List LB → Prop) (hs : Hs) (tl : Tl) (L : List LB) : Prop :=
 ∀ (c : Cx N) Z M tm m n h X, StM c Z M L m n → Slots M Z tl tm → HidR Z M L h X hs → ∃ tm1 m1 n1 Z1 M1 tl1 L1, Big G c.bs (.opsH h X l tm) m n (.exit .normal tm1) m1 n1 ∧ ExtN N Z M Z1 M1 ∧ StM c Z1 M1 L1 m1 n1 ∧ Slots M1 Z1 tl1 tm1 ∧ K tl1 L1
def rstH : Hs → List LB → Option (List LB)
 | [], L => some L
 | (b, row, _) :: hs, L => match setN L b (.cell row) with
   | some L1 => rstH hs L1
   | none => none
def hideL : List Nat → List LB → Option (List LB × Hs)
 | [], L => some (L, [])
 | b :: bs, L => match L[b]? with
   | some (.cell row) => match setN L b .gone with
     | some L1 => match hideL bs L1 with
       | some (L2, hs) => some (L2, (b, row, 0) :: hs)
       | none => none
     | none => none
   | _ => none
theorem hideL_gone : ∀ {bs : List Nat} {L L' : List LB} {hs : Hs} {b : Nat}, hideL bs L = some (L', hs) → L[b]? = some .gone → L'[b]? = some .gone ∧ b ∉ hs.map (·.1)
 | [], L, L', hs, b, h, hb => by cases h; exact ⟨hb, by simp⟩
 | b0 :: bs, L, L', hs, b, h, hb => by
   simp only [hideL] at h
   split at h
   · rename_i row hr
     split at h
     · rename_i L1 hL1
       split at h
       · rename_i L2 hs2 h2
         cases h
         obtain ⟨_, rfl⟩ := setN_inv hL1
         have hne : b0 ≠ b := fun e => by subst e; rw [hr] at hb; cases hb
         obtain ⟨i1, i2⟩ := hideL_gone h2 (show (L.set b0 LB.gone)[b]? = some .gone by rw [List.getElem?_set, if_neg hne]; exact hb)
         exact ⟨i1, by simp only [List.map_cons, List.mem_cons, not_or]; exact ⟨Ne.symm hne, i2⟩⟩
       · cases h
     · cases h
   · cases h
theorem StM.hide {N : Nat} {c : Cx N} {Z M L m n} (h : StM c Z M L m n) {b a : Nat} {row : List V} (hb : Z[b]? = some (some a, .cell row)) :
 ExtV Z M (Z.set b (some a, .gone)) M ∧ StM c (Z.set b (some a, .gone)) M (L.set b .gone) (upd m a none) n := by
 have hlt : b < Z.length := (List.getElem?_eq_some_iff.1 hb).1
 have hget : ∀ (i : Nat) p, (Z.set b (some a, LB.gone))[i]? = some p → (i ≠ b ∧ Z[i]? = some p) ∨ (i = b ∧ p = (some a, .gone)) := by
  intro i p hp
  rw [List.getElem?_set] at hp
  by_cases e : b = i
  · subst e; rw [if_pos rfl, if_pos hlt] at hp; cases hp; exact .inr ⟨rfl, rfl⟩
  · rw [if_neg e] at hp; exact .inl ⟨fun e' => e e'.symm, hp⟩
 have hext : ExtV Z M (Z.set b (some a, LB.gone)) M := by
  refine ⟨sub_refl _, fun i p hp => ?_⟩
  by_cases e : b = i
  · subst e; rw [hb] at hp; cases hp
    exact ⟨_, by rw [List.getElem?_set, if_pos rfl, if_pos hlt], grow.ofCl (p := (some a, .cell row)) (p1 := (some a, .gone)) trivial trivial rfl⟩
  · exact ⟨p, by rw [List.getElem?_set, if_neg e]; exact hp, grow.refl p⟩
 obtain ⟨ha0, han, _⟩ := h.cell b a _ hb
 refine ⟨hext, ⟨h.hbs, h.hn, fresh_upd h.fresh han, by simp [List.map_set, h.hL], fun b' x hb' => ?_, sub_upd h.h0 (h.m0A ha0), h.f0, h.hma, h.hbr, fun i a' l hi => ?_, fun i l hi => ?_, fun i j a' l1 l2 hi hj => ?_, fun i a' l hi => ?_⟩⟩
 · obtain ⟨h1, h2, h3⟩ := h.hM b' x hb'
   have hne : b' ≠ a := fun e => h3 b _ (by rw [e]; exact hb)
   refine ⟨by simp only [upd, if_neg hne]; exact h1, h2, fun i l e => ?_⟩
   rcases hget i _ e with ⟨_, e1⟩ | ⟨_, e1⟩
   · exact h3 i l e1
   · cases e1; exact hne rfl
 · rcases hget i _ hi with ⟨hne, e1⟩ | ⟨_, e1⟩
   · obtain ⟨h1, h2, h3⟩ := h.cell i a' l e1
     have : a' ≠ a := fun e => hne (h.inj i b a l _ (by rw [← e]; exact e1) hb)
     exact ⟨h1, h2, h3.mono hext (by simp only [upd, if_neg this])⟩
   · cases e1
     exact ⟨ha0, han, show upd m a none a = none by simp [upd]⟩
 · rcases hget i _ hi with ⟨_, e1⟩ | ⟨_, e1⟩
   · exact h.nl i l e1
   · cases e1
 · rcases hget i _ hi with ⟨hne, e1⟩ | ⟨e0, e1⟩ <;> rcases hget j _ hj with ⟨hne', e2⟩ | ⟨e3, e2⟩
   · exact h.inj i j a' l1 l2 e1 e2
   · cases e2; exact absurd (h.inj i b _ _ _ e1 hb) hne
   · cases e1; exact absurd (h.inj j b _ _ _ e2 hb) hne'
   · omega
 · rcases hget i _ hi with ⟨_, e1⟩ | ⟨e0, e1⟩
   · exact h.lo i a' l e1
   · cases e1; subst e0; exact h.lo i a _ hb
theorem unhide {N : Nat} {c : Cx N} {M : Mem} {n : Nat} : ∀ {hs : Hs} {Z : Zl} {L L' : List LB} {m h : Mem}, StM c Z M L m n → HidR Z M L h [] hs → rstH hs L = some L' → ∃ Z', ExtV Z M Z' M ∧ StM c Z' M L' (mrg h m) n
 | [], Z, L, L', m, h, hM, hH, hr => by
   cases hr
   have e : mrg h m = m := by
    funext a
    cases e1 : h a with
    | none => exact mrg_none e1
    | some x => obtain ⟨e, he, _⟩ := hH.dom a x e1; cases he
   rw [e]; exact ⟨Z, ExtV.refl _ _, hM⟩
 | (b, row, d) :: hs, Z, L, L', m, h, hM, hH, hr => by
   simp only [rstH] at hr
   split at hr
   · rename_i L1 hL1
     obtain ⟨hbl, rfl⟩ := setN_inv hL1
     obtain ⟨hLb, a, cells, hZ, ha, hp, hX⟩ := hH.row (b, row, d) (List.mem_cons_self ..)
     simp only at hLb hZ hp hX
     have hg : grow (some a, LB.gone) (some a, LB.cell row) := ⟨trivial, rfl⟩
     have hlt : b < Z.length := (List.getElem?_eq_some_iff.1 hZ).1
     have he : ExtV Z M (Z.set b (some a, LB.cell row)) M := by
      refine ⟨sub_refl _, fun i p hp => ?_⟩
      by_cases e : b = i
      · subst e; rw [hZ] at hp; cases hp
        exact ⟨_, by rw [List.getElem?_set, if_pos rfl, if_pos hlt], hg⟩
      · exact ⟨p, by rw [List.getElem?_set, if_neg e]; exact hp, grow.refl p⟩
     obtain ⟨_, hM1⟩ := hM.write hZ cells hg rfl (Pt.mono hp fun _ _ => RL.mono he)
     have hnd := hH.nd
     simp only [List.map_cons, List.nodup_cons] at hnd
     have hne : ∀ e, e ∈ hs → e.1 ≠ b := fun e he' e1 => hnd.1 (List.mem_map.2 ⟨e, he', e1⟩)
     have hH1 : HidR (Z.set b (some a, LB.cell row)) M (L.set b (.cell row)) (upd h a none) [] hs := by
      refine ⟨hnd.2, fun e he' => ?_, fun a' x hx => ?_, fun a ⟨_, h⟩ => (nomatch h)⟩
      · obtain ⟨h1, a', cells', h2, h3, h4, h5⟩ := hH.row e (List.mem_cons_of_mem _ he')
        have hb' := hne e he'
        have haa : a' ≠ a := fun e1 => by subst e1; exact hb' (hM.inj _ _ _ _ _ h2 hZ)
        exact ⟨by rw [List.getElem?_set, if_neg (Ne.symm hb')]; exact h1, a', cells', by rw [List.getElem?_set, if_neg (Ne.symm hb')]; exact h2, by simp only [upd, if_neg haa]; exact h3, Pt.mono h4 fun _ _ => RL.mono he, h5⟩
      · simp only [upd] at hx
        split at hx
        · cases hx
        · rename_i haa
          obtain ⟨e, he1, he2⟩ := hH.dom a' x hx
          have hb' : e.1 ≠ b := fun e1 => by rw [e1, hZ] at he2; cases he2; exact haa rfl
          rcases List.mem_cons.1 he1 with rfl | he1
          · exact absurd rfl hb'
          · exact ⟨e, he1, by rw [List.getElem?_set, if_neg (Ne.symm hb')]; exact he2⟩
     obtain ⟨Z', h1, h2⟩ := unhide hM1 hH1 hr
     have e : mrg (upd h a none) (upd m a (some ⟨cells, true, LB.sz .gone⟩)) = mrg h m := by
      funext x
      by_cases hx : x = a
      · subst hx; rw [mrg_none (by simp [upd]), mrg_some ha]; simp [upd, LB.sz]
      · simp only [mrg, upd, if_neg hx]
     rw [e] at h2
     exact ⟨Z', he.tr h1, h2⟩
   · cases hr
theorem hide_all {N : Nat} {c : Cx N} {M : Mem} {n : Nat} : ∀ {bs : List Nat} {Z : Zl} {L L' : List LB} {hs : Hs} {m : Mem}, StM c Z M L m n → hideL bs L = some (L', hs) →
 ∃ Z' m' h, ExtV Z M Z' M ∧ StM c Z' M L' m' n ∧ HidR Z' M L' h [] hs ∧ m = mrg h m' ∧ ∀ a x, h a = some x → m' a = none
 | [], Z, L, L', hs, m, hM, hh => by
   cases hh
   exact ⟨Z, m, fun _ => none, ExtV.refl _ _, hM, ⟨by simp, fun e he => (nomatch he), fun a x h => (nomatch h), fun a ⟨_, h⟩ => (nomatch h)⟩, rfl, fun a x h => (nomatch h)⟩
 | b :: bs, Z, L, L', hs, m, hM, hh => by
   simp only [hideL] at hh
   split at hh
   · rename_i row hr
     split at hh
     · rename_i L1 hL1
       split at hh
       · rename_i L2 hs2 h2
         cases hh
         obtain ⟨hbl, rfl⟩ := setN_inv hL1
         obtain ⟨oa, hZ⟩ := hM.getZ hr
         cases oa with
         | none => obtain ⟨k, e⟩ := hM.nil _ _ hZ; cases e
         | some a =>
           obtain ⟨_, _, cells, hm, hrel⟩ := hM.cell _ _ _ hZ
           obtain ⟨he, hM1⟩ := hM.hide hZ
           obtain ⟨Z2, m2, h, he2, hM2, hH, hmm, hd⟩ := hide_all hM1 h2
           have hlt : b < L.length := hbl
           obtain ⟨hg1, hg2⟩ := hideL_gone (b := b) h2 (by rw [List.getElem?_set, if_pos rfl, if_pos hlt])
           obtain ⟨oa2, hZ2⟩ := hM2.getZ hg1
           have hZ2 : Z2[b]? = some (some a, .gone) := by
            obtain ⟨p1, q1, q2⟩ := he2.hZ b (some a, .gone) (by rw [List.getElem?_set, if_pos rfl, if_pos (by rw [hM.lenZ]; exact hlt)])
            have := (q2.cl trivial).2
            rw [hZ2] at q1; cases q1
            simp only at this; rw [this] at hZ2; exact hZ2
           have hha : ∀ x, h a = some x → False := fun x hx => by
            obtain ⟨e, e1, e2⟩ := hH.dom a x hx
            have := hM2.inj _ _ _ _ _ e2 hZ2
            exact hg2 (List.mem_map.2 ⟨e, e1, this⟩)
           have hha : h a = none := by
            cases e : h a with
            | none => rfl
            | some x => exact (hha x e).elim
           refine ⟨Z2, m2, upd h a (some ⟨cells, true, 1⟩), he.tr he2, hM2, ⟨?_, fun e he' => ?_, fun a' x hx => ?_, fun a ⟨_, h⟩ => (nomatch h)⟩, ?_, fun a' x hx => ?_⟩
           · simp only [List.map_cons, List.nodup_cons]; exact ⟨hg2, hH.nd⟩
           · rcases List.mem_cons.1 he' with rfl | he'
             · have hrel : Pt (RL M Z) row cells := hrel
               exact ⟨hg1, a, cells, hZ2, by simp [upd], Pt.mono hrel fun _ _ h => (h.mono he).mono he2, Mk0.nil _ _⟩
             · obtain ⟨h1, a', cells', h3, h4, h5, h6⟩ := hH.row e he'
               have haa : a' ≠ a := fun e1 => by subst e1; rw [hha] at h4; cases h4
               exact ⟨h1, a', cells', h3, by simp only [upd, if_neg haa]; exact h4, h5, h6⟩
           · simp only [upd] at hx
             split at hx
             · rename_i haa; subst haa; exact ⟨_, List.mem_cons_self .., hZ2⟩
             · obtain ⟨e, e1, e2⟩ := hH.dom a' x hx
               exact ⟨e, List.mem_cons_of_mem _ e1, e2⟩
           · funext x
             by_cases hx : x = a
             · subst hx; rw [mrg_some (by simp [upd]; rfl), hm]; rfl
             · have := congrFun hmm x
               simp only [mrg, upd, if_neg hx] at this ⊢
               exact this
           · simp only [upd] at hx
             split at hx
             · rename_i haa
               subst haa
               have := congrFun hmm a'
               simp only [upd, if_true] at this
               exact (mrg_none_inv this.symm).2
             · exact hd a' x hx
       · cases hh
     · cases hh
   · cases hh
section
variable {N : Nat} {G : Prg} {tl : Tl} {L : List LB} {K : Tl → List LB → Prop} {Q : Ex → Tl → List LB → Prop} {hs : Hs} {l : List IOp}
theorem s_rgH (bs : List Nat) {L1} (hh : hideL bs L = some (L1, hs)) (k : VH N G l (Q .normal) hs tl L1) : VC N G (.rg l) Q tl L := by
 intro c Z M tm m n hM hS
 obtain ⟨Z1, m1, h, he, hM1, hH, rfl, hd⟩ := hide_all hM hh
 obtain ⟨tm2, m2, n2, Z2, M2, tl2, L2, hb, he2, hM2, hS2, hk⟩ := k c Z1 M tm m1 n h [] hM1 (hS.mono he) hH
 exact ⟨_, tm2, m2, n2, Z2, M2, tl2, L2, .rgH hd hb, he.trans he2, hM2, hS2, hk⟩
theorem s_newH {z row d b L1} (hz : ofWs z = some row) (hL : pushN L .gone = some (L1, b)) (k : VH N G l K [(b, row, 0)] ((d, .cp b 0) :: tl) L1) : VO N G (⟨some d, .new z, none, true⟩ :: l) K tl L := by
 intro c Z M tm m n hM hS
 have := pushN_inv hL; cases this
 obtain ⟨h1, h2, h3⟩ := hM.push (.cell row) z (Pt.mono (ofWs_rel (M := M) hz).1 fun _ _ => .fz)
 obtain ⟨h4, h5⟩ := h2.hide h3
 have hmn : m n = none := hM.fresh n (Nat.le_refl _)
 have e1 : upd (upd m n (some ⟨z, true, LB.sz (.cell row)⟩)) n none = m := by
  funext x
  by_cases hx : x = n
  · subst hx; simp [upd, hmn]
  · simp [upd, hx]
 have e2 : (L ++ [LB.cell row]).set L.length LB.gone = L ++ [LB.gone] := by simp
 have e3 : (Z ++ [(some n, LB.cell row)]).set L.length (some n, LB.gone) = Z ++ [(some n, LB.gone)] := by rw [← hM.lenZ]; simp
 rw [e1, e2, e3] at h5
 rw [e3] at h4
 have he := h1.tr h4
 have hlz := hM.lenZ
 have hZn : (Z ++ [((some n : Option Nat), LB.gone)])[L.length]? = some (some n, LB.gone) := by rw [← hlz, List.getElem?_append_right (Nat.le_refl _)]; simp
 have hH1 : HidR (Z ++ [(some n, LB.gone)]) M (L ++ [LB.gone]) (upd (fun _ => none) n (some ⟨z, true, 1⟩)) [] [(L.length, row, 0)] := by
  refine ⟨by simp, fun e he' => ?_, fun a x hx => ?_, fun a ⟨_, ha⟩ => (nomatch ha)⟩
  · rcases List.mem_cons.1 he' with rfl | he'
    · exact ⟨by rw [List.getElem?_append_right (Nat.le_refl _)]; simp, n, z, hZn, by simp [upd], Pt.mono (ofWs_rel (M := M) hz).1 fun _ _ => .fz, Mk0.nil _ _⟩
    · cases he'
  · simp only [upd] at hx
    split at hx
    · rename_i haa; subst haa; exact ⟨_, List.mem_cons_self .., hZn⟩
    · cases hx
 obtain ⟨tm3, m3, n3, Z3, M3, tl3, L3, hb, he3, r⟩ := k c _ M (upd tm d (ptr n 0)) m (n + 1) _ [] h5 ((hS.mono he).put (.cp hZn trivial)) hH1
 exact ⟨tm3, m3, n3, Z3, M3, tl3, L3, .opsNewH (fun g b e => by cases e) rfl rfl hb, he.trans he3, r⟩
theorem h_bar {L1 d o g} (hr : rstH hs L = some L1) (k : VO N G (⟨d, o, g, false⟩ :: l) K tl L1) : VH N G (⟨d, o, g, false⟩ :: l) K hs tl L := by
 intro c Z M tm m n h X hM hS hH
 obtain ⟨Z1, he, hM1⟩ := unhide hM hH.noX hr
 obtain ⟨tm2, m2, n2, Z2, M2, tl2, L2, hb, he2, r⟩ := k c Z1 M tm _ n hM1 (hS.mono he)
 exact ⟨tm2, m2, n2, Z2, M2, tl2, L2, .hBar rfl hb, he.trans he2, r⟩
def gones (L : List LB) : Hs → Bool
 | [] => true
 | e :: hs => (match L[e.1]? with
   | some .gone => true
   | _ => false) && gones L hs
theorem gones_inv {L : List LB} : ∀ {hs : Hs}, gones L hs = true → ∀ e, e ∈ hs → L[e.1]? = some .gone
 | [], _, e, he => by cases he
 | e0 :: hs, h, e, he => by
   simp only [gones, Bool.and_eq_true] at h
   rcases List.mem_cons.1 he with rfl | he
   · have := h.1
     split at this
     · rename_i h1; exact h1
     · cases this
   · exact gones_inv h.2 e he
theorem HidR.mono {N : Nat} {c : Cx N} {Z M L h X hs Z1 M1 L1 m1 n1} (hH : HidR Z M L h X hs) (he : ExtV Z M Z1 M1) (hM1 : StM c Z1 M1 L1 m1 n1) (hg : gones L1 hs = true) : HidR Z1 M1 L1 h X hs := by
 have up : ∀ e a, e ∈ hs → Z[e.1]? = some (some a, LB.gone) → Z1[e.1]? = some (some a, LB.gone) := by
  intro e a he' hz
  obtain ⟨p1, q1, q2⟩ := he.hZ _ _ hz
  have h2 := (q2.cl trivial).2
  obtain ⟨a1, hz1⟩ := hM1.getZ (gones_inv hg e he')
  rw [q1] at hz1; cases hz1
  simp only at h2; subst h2; exact q1
 refine ⟨hH.nd, fun e he' => ?_, fun a x hx => ?_, hH.xs⟩
 · obtain ⟨h1, a, cells, h2, h3, h4, h5⟩ := hH.row e he'
   exact ⟨gones_inv hg e he', a, cells, up e a he' h2, h3, Pt.mono h4 fun _ _ => RL.mono he, h5⟩
 · obtain ⟨e, e1, e2⟩ := hH.dom a x hx
   exact ⟨e, e1, up e a e1 e2⟩
theorem h_op {d o v L1} (h : OpV G true o tl L (some v) L1) (hg : gones L1 hs = true) (k : VH N G l K hs ((d, v) :: tl) L1) : VH N G (⟨some d, o, none, true⟩ :: l) K hs tl L := by
 intro c Z M tm m n hm X hM hS hH
 obtain ⟨v', m1, n1, Z1, M1, h1, he, hM1, hr⟩ := h _ c Z M tm m n hM hS
 obtain ⟨tm3, m3, n3, Z3, M3, tl3, L3, hb, he3, r⟩ := k c Z1 M1 (upd tm d v') m1 n1 hm X hM1 ((hS.mono he).put (hr v rfl)) (hH.mono he hM1 hg)
 refine ⟨tm3, m3, n3, Z3, M3, tl3, L3, ?_, he.trans he3, r⟩
 rcases h1 with h1 | ⟨f, args, h2, h3⟩
 · exact .hPure rfl (fun g b e => by cases e) h1 hb
 · exact .hCall rfl (fun g b e => by cases e) h2 h3 hb
def stH (f : List V → Option (List V)) (b : Nat) : Hs → Option Hs
 | [] => none
 | (b', row, d) :: hs => match Nat.beq b' b with
   | true => match d with
     | 0 => match f row with
       | some r => some ((b', r, 2) :: hs)
       | none => none
     | _ => none
   | false => match stH f b hs with
     | some hs' => some ((b', row, d) :: hs')
     | none => none
theorem stH_inv {f : List V → Option (List V)} {b : Nat} : ∀ {hs hs' : Hs}, stH f b hs = some hs' → (hs.map (·.1)).Nodup → ∃ row r, (b, row, 0) ∈ hs ∧ f row = some r ∧ hs'.map (·.1) = hs.map (·.1) ∧ ∀ e, e ∈ hs' → e = (b, r, 2) ∨ (e ∈ hs ∧ e.1 ≠ b)
 | [], hs', h, _ => by cases h
 | (b', row, d) :: hs, hs', h, hnd => by
   simp only [stH] at h
   simp only [List.map_cons, List.nodup_cons] at hnd
   split at h
   · rename_i hb
     have hb := Nat.eq_of_beq_eq_true hb
     subst hb
     split at h
     · split at h
       · rename_i r hr
         cases h
         refine ⟨row, r, List.mem_cons_self .., hr, rfl, fun e he => ?_⟩
         rcases List.mem_cons.1 he with rfl | he
         · exact .inl rfl
         · exact .inr ⟨List.mem_cons_of_mem _ he, fun e1 => hnd.1 (List.mem_map.2 ⟨e, he, e1⟩)⟩
       · cases h
     · cases h
   · rename_i hb
     have hb := Nat.ne_of_beq_eq_false hb
     split at h
     · rename_i hs1 h1
       cases h
       obtain ⟨row1, r, i1, i2, i3, i4⟩ := stH_inv h1 hnd.2
       refine ⟨row1, r, List.mem_cons_of_mem _ i1, i2, by simp [i3], fun e he => ?_⟩
       rcases List.mem_cons.1 he with rfl | he
       · exact .inr ⟨List.mem_cons_self .., hb⟩
       · rcases i4 e he with h4 | ⟨h4, h5⟩
         · exact .inl h4
         · exact .inr ⟨List.mem_cons_of_mem _ h4, h5⟩
     · cases h
theorem h_st {s b off hs'} {o : O} {f : List V → Option (List V)} (hx : look tl s = some (.cp b off)) (hf : stH f b hs = some hs')
 (ho : ∀ (c : Cx N) Z M tm m n a row r cells, StM c Z M L m n → Slots M Z tl tm → c.bs ≤ a → tm s = .pointer (some ⟨a, off, none⟩) → Pt (RL M Z) row cells → f row = some r → o.at tm = some (s, ⟨a, off, none⟩) ∧
   ∃ cells', Pt (RL M Z) r cells' ∧ ∀ m' n', m' a = some ⟨cells, true, 1⟩ → stepO c.bs o tm m' n' = some (junk, upd m' a (some ⟨cells', true, 1⟩), n'))
 (k : VH N G l K hs' tl L) : VH N G (⟨none, o, none, true⟩ :: l) K hs tl L := by
 intro c Z M tm m n hm X hM hS hH
 obtain ⟨row, r, h1, h2, h3, h4⟩ := stH_inv hf hH.nd
 obtain ⟨g1, a, cells, g2, g3, g4, g5⟩ := hH.row _ h1
 simp only at g1 g2 g4 g5
 obtain ⟨a', lb, q1, q2⟩ := (hS _ _ hx).cp_inv
 rw [g2] at q1
 cases q1
 have hbs := hM.bsA (hM.cell _ _ _ g2).1
 obtain ⟨k1, cells', k2, k3⟩ := ho c Z M tm m n a row r cells hM hS hbs q2 g4 h2
 have hH1 : HidR Z M L (upd hm a (some ⟨cells', true, 1⟩)) (XAdd o [a] X) hs' := by
  refine ⟨by rw [h3]; exact hH.nd, fun e he => ?_, fun a' x hx => ?_, fun a' ha' => ?_⟩
  · rcases h4 e he with rfl | ⟨h5, h6⟩
    · exact ⟨g1, a, cells', g2, by simp [upd], k2, (fun e => by cases e), (fun e => by cases e)⟩
    · obtain ⟨j1, a', cells2, j2, j3, j4, j5⟩ := hH.row e h5
      have haa : a' ≠ a := fun e1 => by subst e1; exact h6 (hM.inj _ _ _ _ _ j2 g2)
      exact ⟨j1, a', cells2, j2, by simp only [upd, if_neg haa]; exact j3, j4, j5.add (by simpa using haa)⟩
  · have : ∃ e, e ∈ hs ∧ Z[e.1]? = some (some a', LB.gone) := by
     simp only [upd] at hx
     split at hx
     · rename_i haa; subst haa; exact ⟨_, h1, g2⟩
     · exact hH.dom a' x hx
    obtain ⟨e, e1, e2⟩ := this
    have : e.1 ∈ hs'.map (·.1) := by rw [h3]; exact List.mem_map.2 ⟨e, e1, rfl⟩
    obtain ⟨e', e3, e4⟩ := List.mem_map.1 this
    exact ⟨e', e3, by rw [e4]; exact e2⟩
  · by_cases haa : a' = a
    · subst haa; exact ⟨_, by simp [upd]; rfl⟩
    · rcases XAdd.xin.1 ha' with h | h
      · exact absurd (List.mem_singleton.1 h) haa
      · obtain ⟨x, hx⟩ := hH.xs a' h
        exact ⟨x, by simp only [upd, if_neg haa]; exact hx⟩
 obtain ⟨tm3, m3, n3, Z3, M3, tl3, L3, hb, r⟩ := k c Z M tm m n _ _ hM hS hH1
 exact ⟨tm3, m3, n3, Z3, M3, tl3, L3, .hSide rfl (fun g b e => by cases e) (g5.ok (.inl rfl)) g3 hbs k1 rfl k3 hb, r⟩
theorem h_stn {s v b off c cs hs'} (hx : look tl s = some (.cp b off)) (hv : evE tl v = some (.agg cs)) (hk : cs.length = c) (hn : nars cs = true) (hf : stH (fun row => splN row off cs) b hs = some hs') (k : VH N G l K hs' tl L) :
 VH N G (⟨none, .stn c (.t s) v, none, true⟩ :: l) K hs tl L := by
 refine h_st hx hf (fun cx Z M tm m n a row r cells hM hS hbs ht hp hr => ?_) k
 obtain ⟨hoff, rfl⟩ := splN_inv hr
 obtain ⟨vs, e1, hl, hu⟩ := (evE_rel hS hv).agg_inv
 have hcs : Pt (RL M Z) cs vs.toList := ⟨by simpa using hl, fun i x y h2 h3 => hu i x y h2 (by simpa using h3)⟩
 refine ⟨by simp only [O.at, ht], cells.take off ++ vs.toList ++ cells.drop (off + cs.length), ((hp.take off).append hcs).append (hp.drop _), fun m' n' hm' => ?_⟩
 have hlc : off + vs.size ≤ cells.length := by rw [← hp.1, ← hl]; exact hoff
 have hnar : vs.toList.all (fun u => !wideV u) = true := by
  rw [List.all_eq_true]
  intro y hy
  obtain ⟨i, hi⟩ := List.mem_iff_getElem?.1 hy
  have hi2 : i < cs.length := by rw [hcs.1]; exact (List.getElem?_eq_some_iff.1 hi).1
  have hx := List.getElem?_eq_getElem hi2
  have := (hcs.2 i _ y hx hi).nar (nars_mem hn _ (List.getElem_mem hi2))
  simp [this]
 have hk2 : vs.size = c := by omega
 have ht' : (E.t s).ev tm = .pointer (some ⟨a, off, none⟩) := ht
 simp only [stepO, ht', e1, hnar, hk2, and_self, if_true, AL.wrn, hm', Option.isSome_none, Bool.false_eq_true, if_false, Array.length_toList]
 rw [if_pos ⟨hbs, trivial, by omega⟩]
 have e2 : cs.length = c := by omega
 simp only [e2]
end
end Go.Proofs.Ytdialnejieoelaa.AL
