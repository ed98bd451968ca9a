/- Stores whose order is drawn: rows that are put aside while the other operations are carried out. -/
import Derived.Test.YtdialnejieoelaaV6
namespace Go.Proofs.Ytdialnejieoelaa.AL
open Go
set_option linter.unusedVariables false
set_option linter.unusedSimpArgs false
abbrev Hs := List (Nat × List V × Nat)
def Mk0 (X : Xs) (a d : Nat) : Prop := (d = 0 → ¬ XIn X a) ∧ (d = 1 → (a, false) ∉ X)
theorem Mk0.nil (a d : Nat) : Mk0 [] a d := ⟨fun _ ⟨_, h⟩ => (nomatch h), fun _ h => (nomatch h)⟩
theorem Mk0.ok {X : Xs} {a d : Nat} {o : O} (h : Mk0 X a d) (hd : d = 0 ∨ (d = 1 ∧ o.isCall = true)) : XOk o X a := by
 rcases hd with rfl | ⟨rfl, hc⟩
 · exact ⟨fun h1 => h.1 rfl ⟨_, h1⟩, fun _ h1 => h.1 rfl ⟨_, h1⟩⟩
 · exact ⟨h.2 rfl, fun e => by rw [hc] at e; cases e⟩
theorem Mk0.add {X : Xs} {a d : Nat} {o : O} {T : List Nat} (h : Mk0 X a d) (ha : a ∉ T) : Mk0 (XAdd o T X) a d := by
 refine ⟨fun e h1 => ?_, fun e h1 => ?_⟩
 · rcases XAdd.xin.1 h1 with h2 | h2
   · exact ha h2
   · exact h.1 e h2
 · rcases XAdd.mem.1 h1 with ⟨h2, _⟩ | h2
   · exact ha h2
   · exact h.2 e h2
theorem Mk0.call {X : Xs} {a d : Nat} {o : O} {T : List Nat} (h : Mk0 X a d) (hd : d = 0 ∨ d = 1) (hc : o.isCall = true) : Mk0 (XAdd o T X) a 1 := by
 refine ⟨fun e => (by cases e), fun _ h1 => ?_⟩
 rcases XAdd.mem.1 h1 with ⟨_, h2⟩ | h2
 · rw [hc] at h2; cases h2
 · rcases hd with rfl | rfl
   · exact h.1 rfl ⟨_, h2⟩
   · exact h.2 rfl h2
structure HidR (Z : Zl) (M : Mem) (L : List LB) (h : Mem) (X : Xs) (hs : Hs) : Prop where
 nd : (hs.map (·.1)).Nodup
 row : ∀ e, e ∈ hs → L[e.1]? = some .gone ∧ ∃ a cells, Z[e.1]? = some (some a, .gone) ∧ h a = some ⟨cells, true, 1⟩ ∧ Pt (RL M Z) e.2.1 cells ∧ Mk0 X a e.2.2
 dom : ∀ a x, h a = some x → ∃ e, e ∈ hs ∧ Z[e.1]? = some (some a, .gone)
 xs : ∀ a, XIn X a → ∃ x, h a = some x
theorem HidR.noX {Z M L h X hs} (hH : HidR Z M L h X hs) : HidR Z M L h [] hs :=
 ⟨hH.nd, fun e he => let ⟨h1, a, cells, h2, h3, h4, _⟩ := hH.row e he; ⟨h1, a, cells, h2, h3, h4, Mk0.nil _ _⟩, hH.dom, fun a ⟨_, h⟩ => nomatch h⟩
def VH (N : Nat) (G : Prg) (l : List IOp) (K : Tl → List LB → Prop) (hs : Hs) (tl : Tl) (L : List LB) : Prop :=
 ∀ (c : Cx N) Z M tm m n h X, StM c Z M L m n → Slots M Z tl tm → HidR Z M L h X hs → ∃ tm1 m1 n1 Z1 M1 tl1 L1, Big G c.bs (.opsH h X l tm) m n (.exit .normal tm1) m1 n1 ∧ ExtN N Z M Z1 M1 ∧ StM c Z1 M1 L1 m1 n1 ∧ Slots M1 Z1 tl1 tm1 ∧ K tl1 L1
def rstH : Hs → List LB → Option (List LB)
 | [], L => some L
 | (b, row, _) :: hs, L => match setN L b (.cell row) with
   | some L1 => rstH hs L1
   | none => none
def hideL : List Nat → List LB → Option (List LB × Hs)
 | [], L => some (L, [])
 | b :: bs, L => match L[b]? with
   | some (.cell row) => match setN L b .gone with
     | some L1 => match hideL bs L1 with
       | some (L2, hs) => some (L2, (b, row, 0) :: hs)
       | none => none
     | none => none
   | _ => none
theorem hideL_gone : ∀ {bs : List Nat} {L L' : List LB} {hs : Hs} {b : Nat}, hideL bs L = some (L', hs) → L[b]? = some .gone → L'[b]? = some .gone ∧ b ∉ hs.map (·.1)
 | [], L, L', hs, b, h, hb => by cases h; exact ⟨hb, by simp⟩
 | b0 :: bs, L, L', hs, b, h, hb => by
   simp only [hideL] at h
   split at h
   · rename_i row hr
     split at h
     · rename_i L1 hL1
       split at h
       · rename_i L2 hs2 h2
         cases h
         obtain ⟨_, rfl⟩ := setN_inv hL1
         have hne : b0 ≠ b := fun e => by subst e; rw [hr] at hb; cases hb
         obtain ⟨i1, i2⟩ := hideL_gone h2 (show (L.set b0 LB.gone)[b]? = some .gone by rw [List.getElem?_set, if_neg hne]; exact hb)
         exact ⟨i1, by simp only [List.map_cons, List.mem_cons, not_or]; exact ⟨Ne.symm hne, i2⟩⟩
       · cases h
     · cases h
   · cases h
theorem StM.hide {N : Nat} {c : Cx N} {Z M L m n} (h : StM c Z M L m n) {b a : Nat} {row : List V} (hb : Z[b]? = some (some a, .cell row)) :
 ExtV Z M (Z.set b (some a, .gone)) M ∧ StM c (Z.set b (some a, .gone)) M (L.set b .gone) (upd m a none) n := by
 have hlt : b < Z.length := (List.getElem?_eq_some_iff.1 hb).1
 have hget : ∀ (i : Nat) p, (Z.set b (some a, LB.gone))[i]? = some p → (i ≠ b ∧ Z[i]? = some p) ∨ (i = b ∧ p = (some a, .gone)) := by
  intro i p hp
  rw [List.getElem?_set] at hp
  by_cases e : b = i
  · subst e; rw [if_pos rfl, if_pos hlt] at hp; cases hp; exact .inr ⟨rfl, rfl⟩
  · rw [if_neg e] at hp; exact .inl ⟨fun e' => e e'.symm, hp⟩
 have hext : ExtV Z M (Z.set b (some a, LB.gone)) M := by
  refine ⟨sub_refl _, fun i p hp => ?_⟩
  by_cases e : b = i
  · subst e; rw [hb] at hp; cases hp
    exact ⟨_, by rw [List.getElem?_set, if_pos rfl, if_pos hlt], grow.ofCl (p := (some a, .cell row)) (p1 := (some a, .gone)) trivial trivial rfl⟩
  · exact ⟨p, by rw [List.getElem?_set, if_neg e]; exact hp, grow.refl p⟩
 obtain ⟨ha0, han, _⟩ := h.cell b a _ hb
 refine ⟨hext, ⟨h.hbs, h.hn, fresh_upd h.fresh han, by simp [List.map_set, h.hL], fun b' x hb' => ?_, sub_upd h.h0 (h.m0A ha0), h.f0, h.hma, h.hbr, fun i a' l hi => ?_, fun i l hi => ?_, fun i j a' l1 l2 hi hj => ?_, fun i a' l hi => ?_⟩⟩
 · obtain ⟨h1, h2, h3⟩ := h.hM b' x hb'
   have hne : b' ≠ a := fun e => h3 b _ (by rw [e]; exact hb)
   refine ⟨by simp only [upd, if_neg hne]; exact h1, h2, fun i l e => ?_⟩
   rcases hget i _ e with ⟨_, e1⟩ | ⟨_, e1⟩
   · exact h3 i l e1
   · cases e1; exact hne rfl
 · rcases hget i _ hi with ⟨hne, e1⟩ | ⟨_, e1⟩
   · obtain ⟨h1, h2, h3⟩ := h.cell i a' l e1
     have : a' ≠ a := fun e => hne (h.inj i b a l _ (by rw [← e]; exact e1) hb)
     exact ⟨h1, h2, h3.mono hext (by simp only [upd, if_neg this])⟩
   · cases e1
     exact ⟨ha0, han, show upd m a none a = none by simp [upd]⟩
 · rcases hget i _ hi with ⟨_, e1⟩ | ⟨_, e1⟩
   · exact h.nl i l e1
   · cases e1
 · rcases hget i _ hi with ⟨hne, e1⟩ | ⟨e0, e1⟩ <;> rcases hget j _ hj with ⟨hne', e2⟩ | ⟨e3, e2⟩
   · exact h.inj i j a' l1 l2 e1 e2
   · cases e2; exact absurd (h.inj i b _ _ _ e1 hb) hne
   · cases e1; exact absurd (h.inj j b _ _ _ e2 hb) hne'
   · omega
 · rcases hget i _ hi with ⟨_, e1⟩ | ⟨e0, e1⟩
   · exact h.lo i a' l e1
   · cases e1; subst e0; exact h.lo i a _ hb
theorem unhide {N : Nat} {c : Cx N} {M : Mem} {n : Nat} : ∀ {hs : Hs} {Z : Zl} {L L' : List LB} {m h : Mem}, StM c Z M L m n → HidR Z M L h [] hs → rstH hs L = some L' → ∃ Z', ExtV Z M Z' M ∧ StM c Z' M L' (mrg h m) n
 | [], Z, L, L', m, h, hM, hH, hr => by
   cases hr
   have e : mrg h m = m := by
    funext a
    cases e1 : h a with
    | none => exact mrg_none e1
    | some x => obtain ⟨e, he, _⟩ := hH.dom a x e1; cases he
   rw [e]; exact ⟨Z, ExtV.refl _ _, hM⟩
 | (b, row, d) :: hs, Z, L, L', m, h, hM, hH, hr => by
   simp only [rstH] at hr
   split at hr
   · rename_i L1 hL1
     obtain ⟨hbl, rfl⟩ := setN_inv hL1
     obtain ⟨hLb, a, cells, hZ, ha, hp, hX⟩ := hH.row (b, row, d) (List.mem_cons_self ..)
     simp only at hLb hZ hp hX
     have hg : grow (some a, LB.gone) (some a, LB.cell row) := ⟨trivial, rfl⟩
     have hlt : b < Z.length := (List.getElem?_eq_some_iff.1 hZ).1
     have he : ExtV Z M (Z.set b (some a, LB.cell row)) M := by
      refine ⟨sub_refl _, fun i p hp => ?_⟩
      by_cases e : b = i
      · subst e; rw [hZ] at hp; cases hp
        exact ⟨_, by rw [List.getElem?_set, if_pos rfl, if_pos hlt], hg⟩
      · exact ⟨p, by rw [List.getElem?_set, if_neg e]; exact hp, grow.refl p⟩
     obtain ⟨_, hM1⟩ := hM.write hZ cells hg rfl (Pt.mono hp fun _ _ => RL.mono he)
     have hnd := hH.nd
     simp only [List.map_cons, List.nodup_cons] at hnd
     have hne : ∀ e, e ∈ hs → e.1 ≠ b := fun e he' e1 => hnd.1 (List.mem_map.2 ⟨e, he', e1⟩)
     have hH1 : HidR (Z.set b (some a, LB.cell row)) M (L.set b (.cell row)) (upd h a none) [] hs := by
      refine ⟨hnd.2, fun e he' => ?_, fun a' x hx => ?_, fun a ⟨_, h⟩ => (nomatch h)⟩
      · obtain ⟨h1, a', cells', h2, h3, h4, h5⟩ := hH.row e (List.mem_cons_of_mem _ he')
        have hb' := hne e he'
        have haa : a' ≠ a := fun e1 => by subst e1; exact hb' (hM.inj _ _ _ _ _ h2 hZ)
        exact ⟨by rw [List.getElem?_set, if_neg (Ne.symm hb')]; exact h1, a', cells', by rw [List.getElem?_set, if_neg (Ne.symm hb')]; exact h2, by simp only [upd, if_neg haa]; exact h3, Pt.mono h4 fun _ _ => RL.mono he, h5⟩
      · simp only [upd] at hx
        split at hx
        · cases hx
        · rename_i haa
          obtain ⟨e, he1, he2⟩ := hH.dom a' x hx
          have hb' : e.1 ≠ b := fun e1 => by rw [e1, hZ] at he2; cases he2; exact haa rfl
          rcases List.mem_cons.1 he1 with rfl | he1
          · exact absurd rfl hb'
          · exact ⟨e, he1, by rw [List.getElem?_set, if_neg (Ne.symm hb')]; exact he2⟩
     obtain ⟨Z', h1, h2⟩ := unhide hM1 hH1 hr
     have e : mrg (upd h a none) (upd m a (some ⟨cells, true, LB.sz .gone⟩)) = mrg h m := by
      funext x
      by_cases hx : x = a
      · subst hx; rw [mrg_none (by simp [upd]), mrg_some ha]; simp [upd, LB.sz]
      · simp only [mrg, upd, if_neg hx]
     rw [e] at h2
     exact ⟨Z', he.tr h1, h2⟩
   · cases hr
theorem hide_all {N : Nat} {c : Cx N} {M : Mem} {n : Nat} : ∀ {bs : List Nat} {Z : Zl} {L L' : List LB} {hs : Hs} {m : Mem}, StM c Z M L m n → hideL bs L = some (L', hs) →
 ∃ Z' m' h, ExtV Z M Z' M ∧ StM c Z' M L' m' n ∧ HidR Z' M L' h [] hs ∧ m = mrg h m' ∧ ∀ a x, h a = some x → m' a = none
 | [], Z, L, L', hs, m, hM, hh => by
   cases hh
   exact ⟨Z, m, fun _ => none, ExtV.refl _ _, hM, ⟨by simp, fun e he => (nomatch he), fun a x h => (nomatch h), fun a ⟨_, h⟩ => (nomatch h)⟩, rfl, fun a x h => (nomatch h)⟩
 | b :: bs, Z, L, L', hs, m, hM, hh => by
   simp only [hideL] at hh
   split at hh
   · rename_i row hr
     split at hh
     · rename_i L1 hL1
       split at hh
       · rename_i L2 hs2 h2
         cases hh
         obtain ⟨hbl, rfl⟩ := setN_inv hL1
         obtain ⟨oa, hZ⟩ := hM.getZ hr
         cases oa with
         | none => obtain ⟨k, e⟩ := hM.nil _ _ hZ; cases e
         | some a =>
           obtain ⟨_, _, cells, hm, hrel⟩ := hM.cell _ _ _ hZ
           obtain ⟨he, hM1⟩ := hM.hide hZ
           obtain ⟨Z2, m2, h, he2, hM2, hH, hmm, hd⟩ := hide_all hM1 h2
           have hlt : b < L.length := hbl
           obtain ⟨hg1, hg2⟩ := hideL_gone (b := b) h2 (by rw [List.getElem?_set, if_pos rfl, if_pos hlt])
           obtain ⟨oa2, hZ2⟩ := hM2.getZ hg1
           have hZ2 : Z2[b]? = some (some a, .gone) := by
            obtain ⟨p1, q1, q2⟩ := he2.hZ b (some a, .gone) (by rw [List.getElem?_set, if_pos rfl, if_pos (by rw [hM.lenZ]; exact hlt)])
            have := (q2.cl trivial).2
            rw [hZ2] at q1; cases q1
            simp only at this; rw [this] at hZ2; exact hZ2
           have hha : ∀ x, h a = some x → False := fun x hx => by
            obtain ⟨e, e1, e2⟩ := hH.dom a x hx
            have := hM2.inj _ _ _ _ _ e2 hZ2
            exact hg2 (List.mem_map.2 ⟨e, e1, this⟩)
           have hha : h a = none := by
            cases e : h a with
            | none => rfl
            | some x => exact (hha x e).elim
           refine ⟨Z2, m2, upd h a (some ⟨cells, true, 1⟩), he.tr he2, hM2, ⟨?_, fun e he' => ?_, fun a' x hx => ?_, fun a ⟨_, h⟩ => (nomatch h)⟩, ?_, fun a' x hx => ?_⟩
           · simp only [List.map_cons, List.nodup_cons]; exact ⟨hg2, hH.nd⟩
           · rcases List.mem_cons.1 he' with rfl | he'
             · have hrel : Pt (RL M Z) row cells := hrel
               exact ⟨hg1, a, cells, hZ2, by simp [upd], Pt.mono hrel fun _ _ h => (h.mono he).mono he2, Mk0.nil _ _⟩
             · obtain ⟨h1, a', cells', h3, h4, h5, h6⟩ := hH.row e he'
               have haa : a' ≠ a := fun e1 => by subst e1; rw [hha] at h4; cases h4
               exact ⟨h1, a', cells', h3, by simp only [upd, if_neg haa]; exact h4, h5, h6⟩
           · simp only [upd] at hx
             split at hx
             · rename_i haa; subst haa; exact ⟨_, List.mem_cons_self .., hZ2⟩
             · obtain ⟨e, e1, e2⟩ := hH.dom a' x hx
               exact ⟨e, List.mem_cons_of_mem _ e1, e2⟩
           · funext x
             by_cases hx : x = a
             · subst hx; rw [mrg_some (by simp [upd]; rfl), hm]; rfl
             · have := congrFun hmm x
               simp only [mrg, upd, if_neg hx] at this ⊢
               exact this
           · simp only [upd] at hx
             split at hx
             · rename_i haa
               subst haa
               have := congrFun hmm a'
               simp only [upd, if_true] at this
               exact (mrg_none_inv this.symm).2
             · exact hd a' x hx
       · cases hh
     · cases hh
   · cases hh
section
variable {N : Nat} {G : Prg} {tl : Tl} {L : List LB} {K : Tl → List LB → Prop} {Q : Ex → Tl → List LB → Prop} {hs : Hs} {l : List IOp}
theorem s_rgH (bs : List Nat) {L1} (hh : hideL bs L = some (L1, hs)) (k : VH N G l (Q .normal) hs tl L1) : VC N G (.rg l) Q tl L := by
 intro c Z M tm m n hM hS
 obtain ⟨Z1, m1, h, he, hM1, hH, rfl, hd⟩ := hide_all hM hh
 obtain ⟨tm2, m2, n2, Z2, M2, tl2, L2, hb, he2, hM2, hS2, hk⟩ := k c Z1 M tm m1 n h [] hM1 (hS.mono he) hH
 exact ⟨_, tm2, m2, n2, Z2, M2, tl2, L2, .rgH hd hb, he.trans he2, hM2, hS2, hk⟩
theorem s_opH (bs : List Nat) {d o v L1 L2} (h : OpV G false o tl L (some v) L1) (hc : ∀ tm, o.callee tm = none) (hh : hideL bs L1 = some (L2, hs)) (k : VH N G l K hs ((d, v) :: tl) L2) : VO N G (⟨some d, o, none, false⟩ :: l) K tl L := by
 intro c Z M tm m n hM hS
 obtain ⟨v', m1, n1, Z1, M1, h1, he, hM1, hr⟩ := h _ c Z M tm m n hM hS
 rcases h1 with h1 | ⟨f, args, h2, _⟩
 · obtain ⟨Z2, m2, hm, he2, hM2, hH, rfl, hd⟩ := hide_all hM1 hh
   obtain ⟨tm3, m3, n3, Z3, M3, tl3, L3, hb, he3, hM3, hS3, hk⟩ := k c Z2 M1 (upd tm d v') m2 n1 hm [] hM2 (((hS.mono he).put (hr v rfl)).mono he2) hH
   exact ⟨tm3, m3, n3, Z3, M3, tl3, L3, .opsPureH (fun g b e => by cases e) rfl h1 hd hb, (he.tr he2).trans he3, hM3, hS3, hk⟩
 · rw [hc] at h2; cases h2
theorem h_nil {L1} (hr : rstH hs L = some L1) (k : K tl L1) : VH N G [] K hs tl L := by
 intro c Z M tm m n h X hM hS hH
 obtain ⟨Z1, he, hM1⟩ := unhide hM hH.noX hr
 exact ⟨tm, _, n, Z1, M, tl, L1, .hNil, he.toN, hM1, hS.mono he, k⟩
theorem h_bar {L1 d o g} (hr : rstH hs L = some L1) (k : VO N G (⟨d, o, g, false⟩ :: l) K tl L1) : VH N G (⟨d, o, g, false⟩ :: l) K hs tl L := by
 intro c Z M tm m n h X hM hS hH
 obtain ⟨Z1, he, hM1⟩ := unhide hM hH.noX hr
 obtain ⟨tm2, m2, n2, Z2, M2, tl2, L2, hb, he2, r⟩ := k c Z1 M tm _ n hM1 (hS.mono he)
 exact ⟨tm2, m2, n2, Z2, M2, tl2, L2, .hBar rfl hb, he.trans he2, r⟩
def gones (L : List LB) : Hs → Bool
 | [] => true
 | e :: hs => (match L[e.1]? with
   | some .gone => true
   | _ => false) && gones L hs
theorem gones_inv {L : List LB} : ∀ {hs : Hs}, gones L hs = true → ∀ e, e ∈ hs → L[e.1]? = some .gone
 | [], _, e, he => by cases he
 | e0 :: hs, h, e, he => by
   simp only [gones, Bool.and_eq_true] at h
   rcases List.mem_cons.1 he with rfl | he
   · have := h.1
     split at this
     · rename_i h1; exact h1
     · cases this
   · exact gones_inv h.2 e he
theorem HidR.mono {N : Nat} {c : Cx N} {Z M L h X hs Z1 M1 L1 m1 n1} (hH : HidR Z M L h X hs) (he : ExtV Z M Z1 M1) (hM1 : StM c Z1 M1 L1 m1 n1) (hg : gones L1 hs = true) : HidR Z1 M1 L1 h X hs := by
 have up : ∀ e a, e ∈ hs → Z[e.1]? = some (some a, LB.gone) → Z1[e.1]? = some (some a, LB.gone) := by
  intro e a he' hz
  obtain ⟨p1, q1, q2⟩ := he.hZ _ _ hz
  have h2 := (q2.cl trivial).2
  obtain ⟨a1, hz1⟩ := hM1.getZ (gones_inv hg e he')
  rw [q1] at hz1; cases hz1
  simp only at h2; subst h2; exact q1
 refine ⟨hH.nd, fun e he' => ?_, fun a x hx => ?_, hH.xs⟩
 · obtain ⟨h1, a, cells, h2, h3, h4, h5⟩ := hH.row e he'
   exact ⟨gones_inv hg e he', a, cells, up e a he' h2, h3, Pt.mono h4 fun _ _ => RL.mono he, h5⟩
 · obtain ⟨e, e1, e2⟩ := hH.dom a x hx
   exact ⟨e, e1, up e a e1 e2⟩
theorem h_op {d o v L1} (h : OpV G true o tl L (some v) L1) (hg : gones L1 hs = true) (k : VH N G l K hs ((d, v) :: tl) L1) : VH N G (⟨some d, o, none, true⟩ :: l) K hs tl L := by
 intro c Z M tm m n hm X hM hS hH
 obtain ⟨v', m1, n1, Z1, M1, h1, he, hM1, hr⟩ := h _ c Z M tm m n hM hS
 obtain ⟨tm3, m3, n3, Z3, M3, tl3, L3, hb, he3, r⟩ := k c Z1 M1 (upd tm d v') m1 n1 hm X hM1 ((hS.mono he).put (hr v rfl)) (hH.mono he hM1 hg)
 refine ⟨tm3, m3, n3, Z3, M3, tl3, L3, ?_, he.trans he3, r⟩
 rcases h1 with h1 | ⟨f, args, h2, h3⟩
 · exact .hPure rfl (fun g b e => by cases e) h1 hb
 · exact .hCall rfl (fun g b e => by cases e) h2 h3 hb
theorem h_call {d f es us u} (ha : evEs tl es = some us) (hz : us.all (V.fzV 6) = true) (hc : CV G f us (fun v => v = u)) (hg : gones L hs = true) (k : VH N G l K hs ((d, u) :: tl) L) : VH N G (⟨some d, .call f es, none, true⟩ :: l) K hs tl L := by
 intro c Z M tm m n hm X hM hS hH
 obtain ⟨v', m1, n1, M1, u', hb1, he, hM1, hr, rfl⟩ := call_plain (q := true) hM (evEs_rel hS ha) hz hc
 obtain ⟨tm3, m3, n3, Z3, M3, tl3, L3, hb, he3, r⟩ := k c Z M1 (upd tm d v') m1 n1 hm X hM1 ((hS.mono he).put hr) (hH.mono he hM1 hg)
 exact ⟨tm3, m3, n3, Z3, M3, tl3, L3, .hCall rfl (fun g b e => by cases e) rfl hb1 hb, he.trans he3, r⟩
def stH (f : List V → Option (List V)) (b : Nat) : Hs → Option Hs
 | [] => none
 | (b', row, d) :: hs => match Nat.beq b' b with
   | true => match d with
     | 0 => match f row with
       | some r => some ((b', r, 2) :: hs)
       | none => none
     | _ => none
   | false => match stH f b hs with
     | some hs' => some ((b', row, d) :: hs')
     | none => none
theorem stH_inv {f : List V → Option (List V)} {b : Nat} : ∀ {hs hs' : Hs}, stH f b hs = some hs' → (hs.map (·.1)).Nodup → ∃ row r, (b, row, 0) ∈ hs ∧ f row = some r ∧ hs'.map (·.1) = hs.map (·.1) ∧ ∀ e, e ∈ hs' → e = (b, r, 2) ∨ (e ∈ hs ∧ e.1 ≠ b)
 | [], hs', h, _ => by cases h
 | (b', row, d) :: hs, hs', h, hnd => by
   simp only [stH] at h
   simp only [List.map_cons, List.nodup_cons] at hnd
   split at h
   · rename_i hb
     have hb := Nat.eq_of_beq_eq_true hb
     subst hb
     split at h
     · split at h
       · rename_i r hr
         cases h
         refine ⟨row, r, List.mem_cons_self .., hr, rfl, fun e he => ?_⟩
         rcases List.mem_cons.1 he with rfl | he
         · exact .inl rfl
         · exact .inr ⟨List.mem_cons_of_mem _ he, fun e1 => hnd.1 (List.mem_map.2 ⟨e, he, e1⟩)⟩
       · cases h
     · cases h
   · rename_i hb
     have hb := Nat.ne_of_beq_eq_false hb
     split at h
     · rename_i hs1 h1
       cases h
       obtain ⟨row1, r, i1, i2, i3, i4⟩ := stH_inv h1 hnd.2
       refine ⟨row1, r, List.mem_cons_of_mem _ i1, i2, by simp [i3], fun e he => ?_⟩
       rcases List.mem_cons.1 he with rfl | he
       · exact .inr ⟨List.mem_cons_self .., hb⟩
       · rcases i4 e he with h4 | ⟨h4, h5⟩
         · exact .inl h4
         · exact .inr ⟨List.mem_cons_of_mem _ h4, h5⟩
     · cases h
theorem h_st {s b off hs'} {o : O} {f : List V → Option (List V)} (hx : look tl s = some (.cp b off)) (hf : stH f b hs = some hs')
 (ho : ∀ (c : Cx N) Z M tm m n a row r cells, StM c Z M L m n → Slots M Z tl tm → c.bs ≤ a → tm s = .pointer (some ⟨a, off, none⟩) → Pt (RL M Z) row cells → f row = some r → o.at tm = some (s, ⟨a, off, none⟩) ∧
   ∃ cells', Pt (RL M Z) r cells' ∧ ∀ m' n', m' a = some ⟨cells, true, 1⟩ → stepO c.bs o tm m' n' = some (junk, upd m' a (some ⟨cells', true, 1⟩), n'))
 (k : VH N G l K hs' tl L) : VH N G (⟨none, o, none, true⟩ :: l) K hs tl L := by
 intro c Z M tm m n hm X hM hS hH
 obtain ⟨row, r, h1, h2, h3, h4⟩ := stH_inv hf hH.nd
 obtain ⟨g1, a, cells, g2, g3, g4, g5⟩ := hH.row _ h1
 simp only at g1 g2 g4 g5
 obtain ⟨a', lb, q1, q2⟩ := (hS _ _ hx).cp_inv
 rw [g2] at q1
 cases q1
 have hbs := hM.bsA (hM.cell _ _ _ g2).1
 obtain ⟨k1, cells', k2, k3⟩ := ho c Z M tm m n a row r cells hM hS hbs q2 g4 h2
 have hH1 : HidR Z M L (upd hm a (some ⟨cells', true, 1⟩)) (XAdd o [a] X) hs' := by
  refine ⟨by rw [h3]; exact hH.nd, fun e he => ?_, fun a' x hx => ?_, fun a' ha' => ?_⟩
  · rcases h4 e he with rfl | ⟨h5, h6⟩
    · exact ⟨g1, a, cells', g2, by simp [upd], k2, (fun e => by cases e), (fun e => by cases e)⟩
    · obtain ⟨j1, a', cells2, j2, j3, j4, j5⟩ := hH.row e h5
      have haa : a' ≠ a := fun e1 => by subst e1; exact h6 (hM.inj _ _ _ _ _ j2 g2)
      exact ⟨j1, a', cells2, j2, by simp only [upd, if_neg haa]; exact j3, j4, j5.add (by simpa using haa)⟩
  · have : ∃ e, e ∈ hs ∧ Z[e.1]? = some (some a', LB.gone) := by
     simp only [upd] at hx
     split at hx
     · rename_i haa; subst haa; exact ⟨_, h1, g2⟩
     · exact hH.dom a' x hx
    obtain ⟨e, e1, e2⟩ := this
    have : e.1 ∈ hs'.map (·.1) := by rw [h3]; exact List.mem_map.2 ⟨e, e1, rfl⟩
    obtain ⟨e', e3, e4⟩ := List.mem_map.1 this
    exact ⟨e', e3, by rw [e4]; exact e2⟩
  · by_cases haa : a' = a
    · subst haa; exact ⟨_, by simp [upd]; rfl⟩
    · rcases XAdd.xin.1 ha' with h | h
      · exact absurd (List.mem_singleton.1 h) haa
      · obtain ⟨x, hx⟩ := hH.xs a' h
        exact ⟨x, by simp only [upd, if_neg haa]; exact hx⟩
 obtain ⟨tm3, m3, n3, Z3, M3, tl3, L3, hb, r⟩ := k c Z M tm m n _ _ hM hS hH1
 exact ⟨tm3, m3, n3, Z3, M3, tl3, L3, .hSide rfl (fun g b e => by cases e) (g5.ok (.inl rfl)) g3 hbs k1 rfl k3 hb, r⟩
theorem h_stn {s v b off c cs hs'} (hx : look tl s = some (.cp b off)) (hv : evE tl v = some (.agg cs)) (hk : cs.length = c) (hn : nars cs = true) (hf : stH (fun row => splN row off cs) b hs = some hs') (k : VH N G l K hs' tl L) :
 VH N G (⟨none, .stn c (.t s) v, none, true⟩ :: l) K hs tl L := by
 refine h_st hx hf (fun cx Z M tm m n a row r cells hM hS hbs ht hp hr => ?_) k
 obtain ⟨hoff, rfl⟩ := splN_inv hr
 obtain ⟨vs, e1, hl, hu⟩ := (evE_rel hS hv).agg_inv
 have hcs : Pt (RL M Z) cs vs.toList := ⟨by simpa using hl, fun i x y h2 h3 => hu i x y h2 (by simpa using h3)⟩
 refine ⟨by simp only [O.at, ht], cells.take off ++ vs.toList ++ cells.drop (off + cs.length), ((hp.take off).append hcs).append (hp.drop _), fun m' n' hm' => ?_⟩
 have hlc : off + vs.size ≤ cells.length := by rw [← hp.1, ← hl]; exact hoff
 have hnar : vs.toList.all (fun u => !wideV u) = true := by
  rw [List.all_eq_true]
  intro y hy
  obtain ⟨i, hi⟩ := List.mem_iff_getElem?.1 hy
  have hi2 : i < cs.length := by rw [hcs.1]; exact (List.getElem?_eq_some_iff.1 hi).1
  have hx := List.getElem?_eq_getElem hi2
  have := (hcs.2 i _ y hx hi).nar (nars_mem hn _ (List.getElem_mem hi2))
  simp [this]
 have hk2 : vs.size = c := by omega
 have ht' : (E.t s).ev tm = .pointer (some ⟨a, off, none⟩) := ht
 simp only [stepO, ht', e1, hnar, hk2, and_self, if_true, AL.wrn, hm', Option.isSome_none, Bool.false_eq_true, if_false, Array.length_toList]
 rw [if_pos ⟨hbs, trivial, by omega⟩]
 have e2 : cs.length = c := by omega
 simp only [e2]
end
def pickH (hs : Hs) : List Nat → Option Hs
 | [] => some []
 | b :: r => match hs.find? (fun e => Nat.beq e.1 b) with
   | some (b', row, d) => match Nat.blt d 2 with
     | true => match pickH hs r with
       | some l => some ((b', row, d) :: l)
       | none => none
     | false => none
   | none => none
theorem pickH_inv {hs : Hs} : ∀ {r : List Nat} {l : Hs}, pickH hs r = some l → l.map (·.1) = r ∧ ∀ e, e ∈ l → e ∈ hs ∧ (e.2.2 = 0 ∨ e.2.2 = 1)
 | [], l, h => by simp [pickH] at h; subst h; exact ⟨rfl, fun e he => nomatch he⟩
 | b :: r, l, h => by
   simp only [pickH] at h
   split at h
   · rename_i b' row d hf
     split at h
     · rename_i hd
       split at h
       · rename_i l1 h1
         cases h
         obtain ⟨i1, i2⟩ := pickH_inv h1
         have hb : b' = b := Nat.eq_of_beq_eq_true (by have := List.find?_some hf; simpa using this)
         subst hb
         rw [Nat.blt_eq] at hd
         refine ⟨by simp [i1], fun e he => ?_⟩
         rcases List.mem_cons.1 he with rfl | he
         · exact ⟨List.mem_of_find?_eq_some hf, by simp only; omega⟩
         · exact i2 e he
       · cases h
     · cases h
   · cases h
def lookH (b : Nat) : Hs → Option (List V)
 | [] => none
 | e :: hs => match Nat.beq e.1 b with
   | true => some e.2.1
   | false => lookH b hs
theorem lookH_inv {b : Nat} {row : List V} : ∀ {hs : Hs}, lookH b hs = some row → ∃ e, e ∈ hs ∧ e.1 = b ∧ e.2.1 = row
 | [], h => by cases h
 | e :: hs, h => by
   simp only [lookH] at h
   split at h
   · rename_i hb; cases h; exact ⟨e, List.mem_cons_self .., Nat.eq_of_beq_eq_true hb, rfl⟩
   · obtain ⟨e', h1, h2⟩ := lookH_inv h; exact ⟨e', List.mem_cons_of_mem _ h1, h2⟩
theorem lookH_none {b : Nat} : ∀ {hs : Hs}, lookH b hs = none → b ∉ hs.map (·.1)
 | [], _ => by simp
 | e :: hs, h => by
   simp only [lookH] at h
   split at h
   · cases h
   · rename_i hb
     simp only [List.map_cons, List.mem_cons, not_or]
     exact ⟨fun e' => Nat.ne_of_beq_eq_false hb e'.symm, lookH_none h⟩
def putH (new : Hs) : Hs → Hs
 | [] => []
 | e :: hs => (match lookH e.1 new with
   | some row => (e.1, row, 1)
   | none => e) :: putH new hs
theorem putH_keys (new : Hs) : ∀ hs : Hs, (putH new hs).map (·.1) = hs.map (·.1)
 | [] => rfl
 | e :: hs => by
   simp only [putH, List.map_cons, putH_keys new hs]
   cases lookH e.1 new <;> rfl
theorem putH_mem {new : Hs} {e' : Nat × List V × Nat} : ∀ {hs : Hs}, e' ∈ putH new hs → ∃ e, e ∈ hs ∧ ((∃ row, lookH e.1 new = some row ∧ e' = (e.1, row, 1)) ∨ (lookH e.1 new = none ∧ e' = e))
 | [], h => nomatch h
 | e :: hs, h => by
   simp only [putH] at h
   rcases List.mem_cons.1 h with h | h
   · refine ⟨e, List.mem_cons_self .., ?_⟩
     split at h
     · rename_i row hr; exact .inl ⟨row, hr, h⟩
     · rename_i hr; exact .inr ⟨hr, h⟩
   · obtain ⟨e1, h1, h2⟩ := putH_mem h
     exact ⟨e1, List.mem_cons_of_mem _ h1, h2⟩
theorem hsuniq : ∀ {hs : Hs}, (hs.map (·.1)).Nodup → ∀ {e e' : Nat × List V × Nat}, e ∈ hs → e' ∈ hs → e.1 = e'.1 → e = e'
 | [], _, e, e', h, _, _ => nomatch h
 | a :: hs, hnd, e, e', h, h', he => by
   simp only [List.map_cons, List.nodup_cons] at hnd
   rcases List.mem_cons.1 h with h1 | h1 <;> rcases List.mem_cons.1 h' with h2 | h2
   · rw [h1, h2]
   · exact absurd (List.mem_map.2 ⟨e', h2, by rw [← he, h1]⟩) hnd.1
   · exact absurd (List.mem_map.2 ⟨e, h1, by rw [he, h2]⟩) hnd.1
   · exact hsuniq hnd.2 h1 h2 he
theorem hideL_keys : ∀ {bs : List Nat} {L L' : List LB} {hs : Hs}, hideL bs L = some (L', hs) → hs.map (·.1) = bs
 | [], L, L', hs, h => by cases h; rfl
 | b :: bs, L, L', hs, h => by
   simp only [hideL] at h
   split at h
   · split at h
     · split at h
       · rename_i L2 hs2 h2; cases h; simp [hideL_keys h2]
       · cases h
     · cases h
   · cases h
def leadsV (us : List V) : List Nat → Bool
 | [] => true
 | b :: r => us.any (fun u => match u with
   | .cp b' _ => Nat.beq b' b
   | _ => false) && leadsV us r
theorem leadsV_inv {us : List V} : ∀ {r : List Nat}, leadsV us r = true → ∀ b, b ∈ r → ∃ off, V.cp b off ∈ us
 | [], _, b, h => nomatch h
 | b0 :: r, h, b, hb => by
   simp only [leadsV, Bool.and_eq_true] at h
   rcases List.mem_cons.1 hb with rfl | hb
   · obtain ⟨u, hu, h1⟩ := List.any_eq_true.1 h.1
     split at h1
     · rename_i b' off; have := Nat.eq_of_beq_eq_true h1; subst this; exact ⟨off, hu⟩
     · cases h1
   · exact leadsV_inv h.2 b hb
theorem words_eq {M M' : Mem} {Z Z' : Zl} {lb : LB} {cells cells' : List Value} (h : LB.rel M Z lb cells) (h' : LB.rel M' Z' lb cells') (hw : lb.words) : cells = cells' := by
 have ptEq : ∀ {R R' : V → Value → Prop} {row : List V} {c c' : List Value}, (∀ v, v ∈ row → ∃ x, v = .w x) → (∀ x y, R (.w x) y → y = x) → (∀ x y, R' (.w x) y → y = x) → Pt R row c → Pt R' row c' → c = c' := by
  intro R R' row c c' hw h1 h2 hp hp'
  apply List.ext_getElem?
  intro i
  rcases Nat.lt_or_ge i row.length with hi | hi
  · obtain ⟨x, hx⟩ := hw _ (List.getElem_mem hi)
    have hr : row[i]? = some (.w x) := by rw [List.getElem?_eq_getElem hi, hx]
    obtain ⟨y, q1, q2⟩ := hp.get hr
    obtain ⟨y', q3, q4⟩ := hp'.get hr
    rw [q1, q3, h1 _ _ q2, h2 _ _ q4]
  · rw [List.getElem?_eq_none (by rw [← hp.1]; exact hi), List.getElem?_eq_none (by rw [← hp'.1]; exact hi)]
 have rfw : ∀ {M : Mem} x y, RF M (.w x) y → y = x := fun x y h => by cases h; rfl
 cases lb with
 | cell row => exact ptEq hw (fun x y h => h.w_inv.1) (fun x y h => h.w_inv.1) h h'
 | gone => exact h.elim
 | dead => exact h.elim
 | arr k rows =>
   obtain ⟨rs, rfl, h2, _, h4, _⟩ := h
   obtain ⟨rs', rfl, g2, _, g4, _⟩ := h'
   congr 1
   apply List.ext_getElem?
   intro i
   rcases Nat.lt_or_ge i rows.length with hi | hi
   · have e1 := List.getElem?_eq_getElem (l := rs) (i := i) (by omega)
     have e2 := List.getElem?_eq_getElem (l := rs') (i := i) (by omega)
     have e3 := List.getElem?_eq_getElem hi
     rw [e1, e2, ptEq (hw _ (List.getElem_mem hi)) rfw rfw (h4 i _ _ e3 e1) (g4 i _ _ e3 e2)]
   · rw [List.getElem?_eq_none (by omega), List.getElem?_eq_none (by omega)]
theorem evEs_get {tl : Tl} : ∀ {es : List E} {us : List V}, evEs tl es = some us → ∀ u, u ∈ us → ∃ e, e ∈ es ∧ evE tl e = some u
 | [], us, h, u, hu => by simp [evEs] at h; subst h; cases hu
 | e :: es, us, h, u, hu => by
   simp only [evEs] at h
   split at h
   · rename_i v r h1 h2
     cases h
     rcases List.mem_cons.1 hu with rfl | hu
     · exact ⟨e, List.mem_cons_self .., h1⟩
     · obtain ⟨e', q1, q2⟩ := evEs_get h2 u hu
       exact ⟨e', List.mem_cons_of_mem _ q1, q2⟩
   · cases h
theorem ofVal_cp {w : Value} {b off : Nat} (h : ofVal w = some (.cp b off)) : False := by
 have key : ∀ {v : Value}, ofW v ≠ some (.cp b off) := fun {v} e => by
  have := (ofW_inv e).1; cases this
 unfold ofVal at h
 split at h
 · split at h <;> cases h
 · split at h <;> cases h
 · split at h <;> cases h
 · exact key h
section
variable {N : Nat} {G : Prg} {tl : Tl} {L : List LB} {K : Tl → List LB → Prop} {hs : Hs} {l : List IOp} {d : Nat}
theorem h_callG {f es us vargs L0 hp L2} {post : V → List LB → Prop} (ρh ρr : List Nat) (ha : evEs tl es = some us) (hpk : pickH hs ρh = some hp) (hrs : rstH hp L = some L2) (hr : rens (V.ren (posN (ρh ++ ρr)) 6) us = some vargs)
 (hL0 : mapO (fun i => L2[i]?) (ρh ++ ρr) = some L0) (hfz : L0.all LB.froz = true) (hnd : (ρh ++ ρr).Nodup) (hld : leadsV us ρh = true) (hc : GV G f L0 vargs post)
 (hwd : ∀ lb, lb ∈ L0.drop ρh.length → lb.words)
 (k : ∀ u L1, post u L1 → (L1.drop ρh.length).take ρr.length = L0.drop ρh.length ∧ ∃ L' u' L3 hn, mergeG L2 L1 (ρh ++ ρr) = some L' ∧ V.ren (backN (ρh ++ ρr) L2.length) 6 u = some u' ∧ hideL ρh L' = some (L3, hn) ∧ gones L3 hs = true ∧ VH N G l K (putH hn hs) ((d, u') :: tl) L3) : VH N G (⟨some d, .call f es, none, true⟩ :: l) K hs tl L := by
 intro c Z M tm m n h X hM hS hH
 obtain ⟨ρ, hρ⟩ : ∃ ρ, ρ = ρh ++ ρr := ⟨_, rfl⟩
 rw [← hρ] at hr hL0 hnd k
 have hndh : ρh.Nodup := (List.nodup_append.1 (hρ ▸ hnd)).1
 obtain ⟨hk, hpm⟩ := pickH_inv hpk
 -- the rows that are lent
 have hdis : ∀ (i : Nat) a, Z[i]? = some (some a, LB.gone) → m a = none ∧ a < n ∧ c.okA a := fun i a hz => by
  obtain ⟨h1, h2, h3⟩ := hM.cell i a _ hz
  exact ⟨h3, h2, h1⟩
 have hpin : ∀ e, e ∈ hp → L[e.1]? = some .gone ∧ ∃ a cells, Z[e.1]? = some (some a, .gone) ∧ h a = some ⟨cells, true, 1⟩ ∧ Pt (RL M Z) e.2.1 cells ∧ Mk0 X a e.2.2 ∧ (e.2.2 = 0 ∨ e.2.2 = 1) := fun e he => by
  obtain ⟨h1, h2⟩ := hpm e he
  obtain ⟨g1, a, cells, g2, g3, g4, g5⟩ := hH.row e h1
  exact ⟨g1, a, cells, g2, g3, g4, g5, h2⟩
 let T : List Nat := hp.filterMap fun e => (Z[e.1]?).bind (·.1)
 have hT : ∀ a, a ∈ T ↔ ∃ e, e ∈ hp ∧ Z[e.1]? = some (some a, .gone) := by
  intro a
  simp only [T, List.mem_filterMap]
  constructor
  · rintro ⟨e, he, h1⟩
    obtain ⟨_, a', cells, g2, _⟩ := hpin e he
    rw [g2] at h1; simp at h1; subst h1
    exact ⟨e, he, g2⟩
  · rintro ⟨e, he, h1⟩
    exact ⟨e, he, by rw [h1]; rfl⟩
 let hT' : Mem := fun a => if a ∈ T then h a else none
 have hHp : HidR Z M L hT' [] hp := by
  refine ⟨by rw [hk]; exact hndh, fun e he => ?_, fun a x hx => ?_, fun a ⟨_, h⟩ => nomatch h⟩
  · obtain ⟨g1, a, cells, g2, g3, g4, _⟩ := hpin e he
    exact ⟨g1, a, cells, g2, by simp only [hT']; rw [if_pos ((hT a).2 ⟨e, he, g2⟩)]; exact g3, g4, Mk0.nil _ _⟩
  · simp only [hT'] at hx
    split at hx
    · rename_i hin; exact (hT a).1 hin
    · cases hx
 obtain ⟨Z2, he2, hM2⟩ := unhide hM hHp hrs
 have hS2 := hS.mono he2
 have addr2 : ∀ (i : Nat) a, Z[i]? = some (some a, LB.gone) → ∃ lb, Z2[i]? = some (some a, lb) := fun i a hz => by
  obtain ⟨⟨a1, lb1⟩, q1, q2⟩ := he2.hZ _ _ hz
  have := (q2.cl trivial).2
  simp only at this; subst this
  exact ⟨lb1, q1⟩
 -- the call
 have hpt := evEs_rel hS2 ha
 rw [← hM2.hL] at hL0
 obtain ⟨Z0, hZ0, hsnd⟩ := mapO_snd (Z := []) (f := fun i => Z2[i]?) (g := fun i => (Z2.map (·.2))[i]?) (fun j => by simp) hL0
 obtain ⟨k1, k2⟩ := mapO_inv hZ0
 have hz0 : ∀ (i : Nat) p, Z0[i]? = some p → ∃ j, ρ[i]? = some j ∧ Z2[j]? = some p := fun i p hp => by
  have hi : i < ρ.length := by rw [← k1]; exact (List.getElem?_eq_some_iff.1 hp).1
  obtain ⟨y, q1, q2⟩ := k2 i _ (List.getElem?_eq_getElem hi)
  rw [hp] at q2; cases q2
  exact ⟨_, List.getElem?_eq_getElem hi, q1⟩
 have hA : ∀ a, a ∈ T → a ∈ adrs Z0 := by
  intro a ha'
  obtain ⟨e, he, g2⟩ := (hT a).1 ha'
  obtain ⟨lb', g3⟩ := addr2 _ _ g2
  have hj : e.1 ∈ ρ := by rw [hρ, ← hk]; exact List.mem_append_left _ (List.mem_map.2 ⟨e, he, rfl⟩)
  obtain ⟨i, hi⟩ := List.mem_iff_getElem?.1 hj
  obtain ⟨y, q1, q2⟩ := k2 i _ hi
  rw [g3] at q1; cases q1
  exact adrs_mem.2 ⟨i, lb', q2⟩
 -- what is lent and was not put aside
 have hR : ∀ (i : Nat) a lb, Z0[i]? = some (some a, lb) → a ∉ T → ρh.length ≤ i ∧ i < ρ.length := by
  intro i a lb hi hnT
  obtain ⟨j, h1, h2⟩ := hz0 i _ hi
  refine ⟨?_, (List.getElem?_eq_some_iff.1 h1).1⟩
  rcases Nat.lt_or_ge i ρh.length with hlt | hge
  · exfalso
    have hj : j ∈ hp.map (·.1) := by rw [hk]; rw [hρ, List.getElem?_append_left hlt] at h1; exact List.mem_of_getElem? h1
    obtain ⟨e, he, rfl⟩ := List.mem_map.1 hj
    obtain ⟨_, a', cells, g2, _⟩ := hpin e he
    obtain ⟨lb', g3⟩ := addr2 _ _ g2
    rw [h2] at g3; cases g3
    exact hnT ((hT a).2 ⟨e, he, g2⟩)
  · exact hge
 have hbs : c.bs ≤ n := by have h1 := hM.hbs; have h2 := hM.hn; omega
 have hLent : Lent c.bs n M (mrg hT' m) Z0 L0 := by
  refine ⟨hsnd, fun a ha' => ?_, fun i lb hi => ?_, fun i j a l1 l2 e1 e2 => ?_, fun i a lb hi => ?_⟩
  · obtain ⟨i, lb, hi⟩ := adrs_mem.1 ha'
    obtain ⟨j, h1, h2⟩ := hz0 i _ hi
    obtain ⟨g1, g2, _⟩ := hM2.cell _ _ _ h2
    refine ⟨hM2.bsA g1, g2, ?_⟩
    cases e : M a with
    | none => rfl
    | some x => exact absurd h2 ((hM2.hM a x e).2.2 _ _)
  · obtain ⟨j, _, h2⟩ := hz0 i _ hi
    exact hM2.nl _ _ h2
  · obtain ⟨j1, h1, h2⟩ := hz0 i _ e1
    obtain ⟨j2, h3, h4⟩ := hz0 j _ e2
    have := hM2.inj _ _ _ _ _ h2 h4
    subst this
    exact (List.getElem?_inj (List.getElem?_eq_some_iff.1 h1).1 hnd).1 (h1.trans h3.symm)
  · obtain ⟨j, h1, h2⟩ := hz0 i _ hi
    obtain ⟨_, _, g5⟩ := hM2.cell _ _ _ h2
    have hfr : lb.froz = true := List.all_eq_true.1 hfz _ (by rw [← hsnd]; exact List.mem_map.2 ⟨_, List.mem_of_getElem? hi, rfl⟩)
    obtain ⟨cells, g3, g4⟩ := g5.froz hfr
    exact ⟨cells, g3, LB.froz_rel g4 hfr (sub_refl _) _⟩
 have hp' : Pt (RL M Z0) vargs (es.map (·.ev tm)) := rens_rel (ren_rel (sub_refl _) (fun b b' p hs hz => by
  obtain ⟨y, q1, q2⟩ := k2 _ _ (posN_inv hs)
  rw [hz] at q1; cases q1
  exact ⟨p, q2, grow.refl p⟩) 6) hr hpt
 obtain ⟨v, m1, n1, hb, u, M1, Z1, g1, g2, B⟩ := hc.run _ _ (mrg hT' m) n M Z0 hM2.fresh hbs hM2.subM hLent hp'
 obtain ⟨hn, hf⟩ := hb.fresh hM2.fresh
 obtain ⟨hsame, L', u', L3, hnw, hL', hu', hhd, hgo, k'⟩ := k u _ g2
 -- what it read alone stands as it stood
 have keep : ∀ a x, a ∉ T → mrg hT' m a = some x → m1 a = some x := by
  intro a x hnT hx
  by_cases hin : a ∈ adrs Z0
  · obtain ⟨i, lb, hi⟩ := adrs_mem.1 hin
    obtain ⟨q1, q2⟩ := hR i a lb hi hnT
    have hLi : L0[i]? = some lb := by rw [← hsnd, List.getElem?_map, hi]; rfl
    have hdr : (L0.drop ρh.length)[i - ρh.length]? = some lb := by rw [List.getElem?_drop, show ρh.length + (i - ρh.length) = i by omega]; exact hLi
    obtain ⟨p1, w1, w2⟩ := B.ext i _ hi
    have hp1 : p1.2 = lb := by
     have h9 : ((Z1.map (·.2)).drop ρh.length).take ρr.length = L0.drop ρh.length := hsame
     have h10 := congrArg (fun l : List LB => l[i - ρh.length]?) h9
     simp only [List.getElem?_take, List.getElem?_drop] at h10
     rw [show ρh.length + (i - ρh.length) = i by omega, if_pos (by rw [hρ, List.length_append] at q2; omega), hLi, List.getElem?_map, w1] at h10
     simpa using h10
    have ha1 : p1.1 = some a := by
     obtain ⟨a1, lb1⟩ := p1
     simp only at hp1
     subst hp1
     unfold grow at w2
     cases lb1 with
     | cell row => exact w2.2
     | gone => exact w2.2
     | arr s rows =>
       rcases w2 with ⟨r1, e1, _, e3⟩ | e1
       · cases e1; exact e3 rfl
       · cases e1
     | dead => obtain ⟨_, _, h9⟩ := hLent.cell i a _ hi; exact h9.elim
    obtain ⟨a1, lb1⟩ := p1
    simp only at hp1 ha1
    subst hp1 ha1
    obtain ⟨_, _, cells1, w3, w4⟩ := B.cell i a lb1 w1
    obtain ⟨cells0, w5, w6⟩ := hLent.cell i a lb1 hi
    have := words_eq w6 w4 (hwd lb1 (List.mem_of_getElem? hdr))
    subst this
    rw [w5] at hx; cases hx; exact w3
  · exact B.keep a x hin hx
 obtain ⟨Z', hM', hE, hback⟩ := merge_st hM2 hn hf hb.dom hnd hZ0 B.hma B.hM (fun i a lb hi => by
  obtain ⟨h1, h2, cells, h3, h4⟩ := B.cell i a lb hi
  exact ⟨h1, h2, cells, h3, fun Z' => LB.froz_rel h4 (B.froz i _ hi) (sub_refl _) Z'⟩) B.nil B.inj B.keep B.ext B.lo hL'
 have hrel : RL M1 Z' u' v := ren_rel (sub_refl _) (fun b b' p hs hz => ⟨p, hback _ _ _ hs hz, grow.refl p⟩) 6 u u' v hu' g1
 -- the rows are put aside again
 obtain ⟨Z3, m2, h3, he3, hM3, hH3, hm12, hd3⟩ := hide_all hM' hhd
 have hk3 := hideL_keys hhd
 have hE3 := hE.tr he3
 have hEE := he2.tr hE3
 have addr3 : ∀ (i : Nat) a, Z[i]? = some (some a, LB.gone) → ∃ lb, Z3[i]? = some (some a, lb) := fun i a hz => by
  obtain ⟨⟨a1, lb1⟩, q1, q2⟩ := hEE.hZ _ _ hz
  have := (q2.cl trivial).2
  simp only at this; subst this
  exact ⟨lb1, q1⟩
 have addr3g : ∀ e a, e ∈ hs → Z[e.1]? = some (some a, LB.gone) → Z3[e.1]? = some (some a, LB.gone) := fun e a he' hz => by
  obtain ⟨lb, q1⟩ := addr3 _ _ hz
  obtain ⟨a1, q2⟩ := hM3.getZ (gones_inv hgo e he')
  rw [q1] at q2; cases q2; exact q1
 -- what was put aside is what was lent
 have hh3 : ∀ a x, h3 a = some x → a ∈ T := fun a x hx => by
  obtain ⟨e, e1, e2⟩ := hH3.dom a x hx
  have hj : e.1 ∈ hp.map (·.1) := by rw [hk, ← hk3]; exact List.mem_map.2 ⟨e, e1, rfl⟩
  obtain ⟨e', he', he1⟩ := List.mem_map.1 hj
  obtain ⟨_, a', cells, g2, _⟩ := hpin e' he'
  obtain ⟨lb, q1⟩ := addr3 _ _ g2
  rw [he1, e2] at q1; cases q1
  exact (hT a).2 ⟨e', he', g2⟩
 have hT3 : ∀ a, a ∈ T → ∃ x, h3 a = some x := fun a ha' => by
  obtain ⟨e, he, g2⟩ := (hT a).1 ha'
  have hj : e.1 ∈ hnw.map (·.1) := by rw [hk3, ← hk]; exact List.mem_map.2 ⟨e, he, rfl⟩
  obtain ⟨e', he', he1⟩ := List.mem_map.1 hj
  obtain ⟨_, a', cells, q2, q3, _⟩ := hH3.row e' he'
  obtain ⟨lb, q1⟩ := addr3 _ _ g2
  rw [he1, q1] at q2; cases q2
  exact ⟨_, q3⟩
 let h2 : Mem := mrg h3 fun a => if a ∈ T then none else h a
 have h2T : ∀ a, a ∈ T → h2 a = h3 a := fun a ha' => by
  obtain ⟨x, hx⟩ := hT3 a ha'
  show mrg h3 _ a = h3 a
  rw [mrg_some hx, hx]
 have h2N : ∀ a, a ∉ T → h2 a = h a := fun a ha' => by
  have e : h3 a = none := by
   cases e : h3 a with
   | none => rfl
   | some x => exact absurd (hh3 a x e) ha'
  show mrg h3 _ a = h a
  rw [mrg_none e, if_neg ha']
 have hdh : ∀ a x, h a = some x → m a = none ∧ a < n := fun a x hx => by
  obtain ⟨e, e1, e2⟩ := hH.dom a x hx
  obtain ⟨q1, q2, _⟩ := hdis _ _ e2
  exact ⟨q1, q2⟩
 have hTh : ∀ a, a ∈ T → ∃ cells, h a = some ⟨cells, true, 1⟩ ∧ XOk (.call f es) X a ∧ m a = none ∧ a < n := fun a ha' => by
  obtain ⟨e, he, g2⟩ := (hT a).1 ha'
  obtain ⟨_, a', cells, q2, q3, _, q5, q8⟩ := hpin e he
  rw [g2] at q2; cases q2
  obtain ⟨q6, q7, _⟩ := hdis _ _ g2
  exact ⟨cells, q3, q5.ok (q8.imp id fun h => ⟨h, rfl⟩), q6, q7⟩
 have hmh : ∀ a x, a ∉ T → (mrg hT' m a = some x ↔ m a = some x) := fun a x ha' => by
  have e : hT' a = none := by simp only [hT']; rw [if_neg ha']
  rw [mrg_none e]
 have hm2 : ∀ a x, m2 a = some x → m1 a = some x ∧ a ∉ T := fun a x hx => by
  have hn3 : h3 a = none := by
   cases e : h3 a with
   | none => rfl
   | some y => rw [hd3 a y e] at hx; cases hx
  refine ⟨by rw [hm12, mrg_none hn3]; exact hx, fun ha' => ?_⟩
  obtain ⟨y, hy⟩ := hT3 a ha'
  rw [hn3] at hy; cases hy
 have hv : HvR (.call f es) tm n h X T m (mrg hT' m) m1 h2 m2 := by
  refine ⟨fun a x e => ?_, fun a ha' => ?_, fun a x e hne => keep a x hne e, fun a x e hne => by rw [h2N a hne]; exact e, fun a x e => ?_, fun a x e => ?_, fun a x e => ?_⟩
  · rcases mrg_inv e with e1 | ⟨_, e1⟩
    · simp only [hT'] at e1
      split at e1
      · exact .inl ⟨by assumption, e1⟩
      · cases e1
    · exact .inr e1
  · obtain ⟨cells, q1, q2, q3, q4⟩ := hTh a ha'
    refine ⟨q2, q3, ⟨_, q1, mrg_some (by simp only [hT']; rw [if_pos ha']; exact q1)⟩, ?_⟩
    obtain ⟨e, he, g2⟩ := (hT a).1 ha'
    obtain ⟨off, hoff⟩ := leadsV_inv hld e.1 (by rw [← hk]; exact List.mem_map.2 ⟨e, he, rfl⟩)
    obtain ⟨ex, hex, hev⟩ := evEs_get ha _ hoff
    have hcp := evE_rel hS hev
    obtain ⟨a1, lb, r1, r2⟩ := hcp.cp_inv
    rw [g2] at r1; cases r1
    cases ex with
    | t s => exact ⟨s, ⟨a, off, none⟩, by simp only [O.slots, List.mem_flatMap]; exact ⟨_, hex, by simp [E.slots]⟩, rfl, rfl, .inl r2⟩
    | k w =>
      exfalso
      exact ofVal_cp hev
  · by_cases ha' : a ∈ T
    · rw [h2T a ha'] at e
      refine .inr ⟨.inl ha', ?_⟩
      rw [hm12]; exact mrg_some e
    · rw [h2N a ha'] at e
      exact .inl ⟨(hdh a x e).2, ha', e⟩
  · obtain ⟨q1, q2⟩ := hm2 a x e
    rcases Nat.lt_or_ge a n with hlt | hge
    · refine .inl ⟨hlt, ?_⟩
      cases e1 : m a with
      | some y =>
        have := keep a y q2 ((hmh a y q2).2 e1)
        rw [q1] at this; exact this.symm
      | none =>
        have : mrg hT' m a = none := by
         cases e2 : mrg hT' m a with
         | none => rfl
         | some y => rw [(hmh a y q2).1 e2] at e1; cases e1
        have := hb.dom a hlt this
        rw [q1] at this; cases this
    · exact .inr ⟨hge, q1⟩
  · by_cases ha' : a ∈ T
    · rw [h2T a ha'] at e; exact hd3 a x e
    · rw [h2N a ha'] at e
      obtain ⟨q1, q2⟩ := hdh a x e
      cases e1 : m2 a with
      | none => rfl
      | some y =>
        have h5 := (hm2 a y e1).1
        have : mrg hT' m a = none := by
         cases e2 : mrg hT' m a with
         | none => rfl
         | some y => rw [(hmh a y ha').1 e2] at q1; cases q1
        have := hb.dom a q2 this
        rw [h5] at this; cases this
 have hHn : HidR Z3 M1 L3 h2 (XAdd (.call f es) T X) (putH hnw hs) := by
  refine ⟨by rw [putH_keys]; exact hH.nd, fun e' he' => ?_, fun a x hx => ?_, fun a ha' => ?_⟩
  · obtain ⟨e, he, hc'⟩ := putH_mem he'
    rcases hc' with ⟨row, hl1, rfl⟩ | ⟨hl1, rfl⟩
    · obtain ⟨e2, r1, r2, r3⟩ := lookH_inv hl1
      obtain ⟨q1, a, cells, q2, q3, q4, _⟩ := hH3.row e2 r1
      rw [r2] at q1 q2; rw [r3] at q4
      have haT := hh3 a _ q3
      refine ⟨q1, a, cells, q2, ?_, q4, ?_⟩
      · rw [h2T a haT]; exact q3
      · obtain ⟨_, a', cells', w2, _, _, w5⟩ := hH.row e he
        have hin : e.1 ∈ hp.map (·.1) := by rw [hk, ← hk3, ← r2]; exact List.mem_map.2 ⟨e2, r1, rfl⟩
        obtain ⟨e3, v1, v2⟩ := List.mem_map.1 hin
        have hee : e3 = e := hsuniq hH.nd (hpm e3 v1).1 he v2
        subst hee
        have hpp := hpin e3 v1
        obtain ⟨_, a2, _, w6, _, _, w7, w8⟩ := hpp
        have h9 := addr3g e3 a2 he w6
        rw [q2] at h9; cases h9
        exact w7.call w8 rfl
    · obtain ⟨q1, a, cells, q2, q3, q4, q5⟩ := hH.row e' he
      have hnT : a ∉ T := fun ha' => by
       obtain ⟨e2, r1, r2⟩ := (hT a).1 ha'
       have := hM.inj _ _ _ _ _ q2 r2
       refine lookH_none hl1 ?_
       rw [hk3, ← hk, this]; exact List.mem_map.2 ⟨e2, r1, rfl⟩
      refine ⟨gones_inv hgo e' he, a, cells, addr3g e' a he q2, by rw [h2N a hnT]; exact q3, Pt.mono q4 fun _ _ => RL.mono hEE, q5.add hnT⟩
  · have : ∃ e, e ∈ hs ∧ Z[e.1]? = some (some a, LB.gone) := by
     by_cases ha' : a ∈ T
     · obtain ⟨e, he, g2⟩ := (hT a).1 ha'
       exact ⟨e, (hpm e he).1, g2⟩
     · rw [h2N a ha'] at hx; exact hH.dom a x hx
    obtain ⟨e, he, g2⟩ := this
    have hj : e.1 ∈ (putH hnw hs).map (·.1) := by rw [putH_keys]; exact List.mem_map.2 ⟨e, he, rfl⟩
    obtain ⟨e', r1, r2⟩ := List.mem_map.1 hj
    exact ⟨e', r1, by rw [r2]; exact addr3g e a he g2⟩
  · by_cases hin : a ∈ T
    · rw [h2T a hin]; exact hT3 a hin
    · rcases XAdd.xin.1 ha' with h1 | h1
      · exact absurd h1 hin
      · rw [h2N a hin]; exact hH.xs a h1
 obtain ⟨tm4, m4, n4, Z4, M4, tl4, L4, hb4, he4, r⟩ := k' c Z3 M1 (upd tm d v) m2 n1 h2 (XAdd (.call f es) T X) hM3 (((hS.mono (he2.tr hE)).put hrel).mono he3) hHn
 exact ⟨tm4, m4, n4, Z4, M4, tl4, L4, .hHvC (T := T) (o := ⟨some d, .call f es, none, true⟩) rfl (fun g b e => by cases e) rfl hb hv hb4, hEE.trans he4, r⟩
theorem h_step {o : O} {f : Nat} {post : V → Prop} (hg : gones L hs = true) (k : ∀ u, post u → VH N G l K hs ((d, u) :: tl) L)
 (h : ∀ (c : Cx N) Z M tm m n, StM c Z M L m n → Slots M Z tl tm → ∃ args, o.callee tm = some (f, args) ∧ ∃ v m1 n1 M2 u, Big G (if true = true then n else c.bs) (.call f args) m n (.ret v) m1 n1 ∧ ExtV Z M Z M2 ∧ StM c Z M2 L m1 n1 ∧ RL M2 Z u v ∧ post u) :
 VH N G (⟨some d, o, none, true⟩ :: l) K hs tl L := by
 intro c Z M tm m n hm X hM hS hH
 obtain ⟨args, hc, v, m1, n1, M2, u, hb, he, hM2, hr, hp⟩ := h c Z M tm m n hM hS
 obtain ⟨tm2, m2, n2, Z2, M3, tl2, L2, hb2, he2, r⟩ := k u hp c Z M2 (upd tm d v) m1 n1 hm X hM2 ((hS.mono he).put hr) (hH.mono he hM2 hg)
 exact ⟨tm2, m2, n2, Z2, M3, tl2, L2, .hCall rfl (fun g b e => by cases e) hc hb hb2, he.trans he2, r⟩
theorem h_callLP {f es us us' p} {post : V → Prop} (ha : evEs tl es = some us) (hz : frs (fr L 6) us = some (us', p)) (ho : ∀ e, e ∈ p → e.1 = e.2) (hc : CV G f us' post) (hfl : ∀ u, post u → V.flat 6 u = true) (hg : gones L hs = true) (k : ∀ u, post u → VH N G l K hs ((d, u) :: tl) L) : VH N G (⟨some d, .call f es, none, true⟩ :: l) K hs tl L :=
 h_step hg k fun c Z M tm m n hM hS => ⟨_, rfl, call_local hM (evEs_rel hS ha) hz ho hc hfl⟩
theorem h_callL {f es us us' p u} (ha : evEs tl es = some us) (hz : frs (fr L 6) us = some (us', p)) (ho : ∀ e, e ∈ p → e.1 = e.2) (hc : CV G f us' (fun v => v = u)) (hfl : V.flat 6 u = true) (hg : gones L hs = true) (k : VH N G l K hs ((d, u) :: tl) L) : VH N G (⟨some d, .call f es, none, true⟩ :: l) K hs tl L :=
 h_callLP ha hz ho hc (fun u' e => by cases e; exact hfl) hg fun u' e => by cases e; exact k
end
end Go.Proofs.Ytdialnejieoelaa.AL
