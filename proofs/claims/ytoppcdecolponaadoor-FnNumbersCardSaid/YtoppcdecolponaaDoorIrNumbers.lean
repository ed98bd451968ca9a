/- Stores whose order is drawn: rows that are put aside while the other operations are carried out. -/
import Derived.Test.YtoppcdecolponaaDoorV6
import Derived.Test.YtoppcdecolponaaDoorAlS3
import Derived.Lib.ItoaLen
import Derived.Lib.AtoiAllCases
import Derived.Test.YtoppcdecolponaaDoorKl
import Derived.Lib.Join
import Derived.KernelRfl
namespace Go.Proofs.YtoppcdecolponaaDoor.AL
open Go
set_option linter.unusedVariables false
set_option linter.unusedSimpArgs false
abbrev Hs := List (Nat × List V × Nat)
def Mk0 (X : Xs) (a d : Nat) : Prop := (d = 0 → ¬ XIn X a) ∧ (d = 1 → (a, false) ∉ X)
theorem Mk0.nil (a d : Nat) : Mk0 [] a d := ⟨fun _ ⟨_, h⟩ => (nomatch h), fun _ h => (nomatch h)⟩
theorem Mk0.ok {X : Xs} {a d : Nat} {o : O} (h : Mk0 X a d) (hd : d = 0 ∨ (d = 1 ∧ o.isCall = true)) : XOk o X a := by
 rcases hd with rfl | ⟨rfl, hc⟩
 · exact ⟨fun h1 => h.1 rfl ⟨_, h1⟩, fun _ h1 => h.1 rfl ⟨_, h1⟩⟩
 · exact ⟨h.2 rfl, fun e => by rw [hc] at e; cases e⟩
theorem Mk0.add {X : Xs} {a d : Nat} {o : O} {T : List Nat} (h : Mk0 X a d) (ha : a ∉ T) : Mk0 (XAdd o T X) a d := by
 refine ⟨fun e h1 => ?_, fun e h1 => ?_⟩
 · rcases XAdd.xin.1 h1 with h2 | h2
   · exact ha h2
   · exact h.1 e h2
 · rcases XAdd.mem.1 h1 with ⟨h2, _⟩ | h2
   · exact ha h2
   · exact h.2 e h2
theorem Mk0.call {X : Xs} {a d : Nat} {o : O} {T : List Nat} (h : Mk0 X a d) (hd : d = 0 ∨ d = 1) (hc : o.isCall = true) : Mk0 (XAdd o T X) a 1 := by
 refine ⟨fun e => (by cases e), fun _ h1 => ?_⟩
 rcases XAdd.mem.1 h1 with ⟨_, h2⟩ | h2
 · rw [hc] at h2; cases h2
 · rcases hd with rfl | rfl
   · exact h.1 rfl ⟨_, h2⟩
   · exact h.2 rfl h2
structure HidR (Z : Zl) (M : Mem) (L : List LB) (h : Mem) (X : Xs) (hs : Hs) : Prop where
 nd : (hs.map (·.1)).Nodup
 row : ∀ e, e ∈ hs → L[e.1]? = some .gone ∧ ∃ a cells, Z[e.1]? = some (some a, .gone) ∧ h a = some ⟨cells, true, 1⟩ ∧ Pt (RL M Z) e.2.1 cells ∧ Mk0 X a e.2.2
 dom : ∀ a x, h a = some x → ∃ e, e ∈ hs ∧ Z[e.1]? = some (some a, .gone)
 xs : ∀ a, XIn X a → ∃ x, h a = some x
theorem HidR.noX {Z M L h X hs} (hH : HidR Z M L h X hs) : HidR Z M L h [] hs :=
 ⟨hH.nd, fun e he => let ⟨h1, a, cells, h2, h3, h4, _⟩ := hH.row e he; ⟨h1, a, cells, h2, h3, h4, Mk0.nil _ _⟩, hH.dom, fun a ⟨_, h⟩ => nomatch h⟩
def VH (N : Nat) (G : Prg) (l : List IOp) (K : Tl → List LB → Prop) (hs : Hs) (tl : Tl) (L : List LB) : Prop :=
 ∀ (c : Cx N) Z M tm m n h X, StM c Z M L m n → Slots M Z tl tm → HidR Z M L h X hs → ∃ tm1 m1 n1 Z1 M1 tl1 L1, Big G c.bs (.opsH h X l tm) m n (.exit .normal tm1) m1 n1 ∧ ExtN N Z M Z1 M1 ∧ StM c Z1 M1 L1 m1 n1 ∧ Slots M1 Z1 tl1 tm1 ∧ K tl1 L1
def rstH : Hs → List LB → Option (List LB)
 | [], L => some L
 | (b, row, _) :: hs, L => match setN L b (.cell row) with
   | some L1 => rstH hs L1
   | none => none
def hideL : List Nat → List LB → Option (List LB × Hs)
 | [], L => some (L, [])
 | b :: bs, L => match L[b]? with
   | some (.cell row) => match setN L b .gone with
     | some L1 => match hideL bs L1 with
       | some (L2, hs) => some (L2, (b, row, 0) :: hs)
       | none => none
     | none => none
   | _ => none
theorem hideL_gone : ∀ {bs : List Nat} {L L' : List LB} {hs : Hs} {b : Nat}, hideL bs L = some (L', hs) → L[b]? = some .gone → L'[b]? = some .gone ∧ b ∉ hs.map (·.1)
 | [], L, L', hs, b, h, hb => by cases h; exact ⟨hb, by simp⟩
 | b0 :: bs, L, L', hs, b, h, hb => by
   simp only [hideL] at h
   split at h
   · rename_i row hr
     split at h
     · rename_i L1 hL1
       split at h
       · rename_i L2 hs2 h2
         cases h
         obtain ⟨_, rfl⟩ := setN_inv hL1
         have hne : b0 ≠ b := fun e => by subst e; rw [hr] at hb; cases hb
         obtain ⟨i1, i2⟩ := hideL_gone h2 (show (L.set b0 LB.gone)[b]? = some .gone by rw [List.getElem?_set, if_neg hne]; exact hb)
         exact ⟨i1, by simp only [List.map_cons, List.mem_cons, not_or]; exact ⟨Ne.symm hne, i2⟩⟩
       · cases h
     · cases h
   · cases h
theorem StM.hide {N : Nat} {c : Cx N} {Z M L m n} (h : StM c Z M L m n) {b a : Nat} {row : List V} (hb : Z[b]? = some (some a, .cell row)) :
 ExtV Z M (Z.set b (some a, .gone)) M ∧ StM c (Z.set b (some a, .gone)) M (L.set b .gone) (upd m a none) n := by
 have hlt : b < Z.length := (List.getElem?_eq_some_iff.1 hb).1
 have hget : ∀ (i : Nat) p, (Z.set b (some a, LB.gone))[i]? = some p → (i ≠ b ∧ Z[i]? = some p) ∨ (i = b ∧ p = (some a, .gone)) := by
  intro i p hp
  rw [List.getElem?_set] at hp
  by_cases e : b = i
  · subst e; rw [if_pos rfl, if_pos hlt] at hp; cases hp; exact .inr ⟨rfl, rfl⟩
  · rw [if_neg e] at hp; exact .inl ⟨fun e' => e e'.symm, hp⟩
 have hext : ExtV Z M (Z.set b (some a, LB.gone)) M := by
  refine ⟨sub_refl _, fun i p hp => ?_⟩
  by_cases e : b = i
  · subst e; rw [hb] at hp; cases hp
    exact ⟨_, by rw [List.getElem?_set, if_pos rfl, if_pos hlt], grow.ofCl (p := (some a, .cell row)) (p1 := (some a, .gone)) trivial trivial rfl⟩
  · exact ⟨p, by rw [List.getElem?_set, if_neg e]; exact hp, grow.refl p⟩
 obtain ⟨ha0, han, _⟩ := h.cell b a _ hb
 refine ⟨hext, ⟨h.hbs, h.hn, fresh_upd h.fresh han, by simp [List.map_set, h.hL], fun b' x hb' => ?_, sub_upd h.h0 (h.m0A ha0), h.f0, h.hma, h.hbr, fun i a' l hi => ?_, fun i l hi => ?_, fun i j a' l1 l2 hi hj => ?_, fun i a' l hi => ?_⟩⟩
 · obtain ⟨h1, h2, h3⟩ := h.hM b' x hb'
   have hne : b' ≠ a := fun e => h3 b _ (by rw [e]; exact hb)
   refine ⟨by simp only [upd, if_neg hne]; exact h1, h2, fun i l e => ?_⟩
   rcases hget i _ e with ⟨_, e1⟩ | ⟨_, e1⟩
   · exact h3 i l e1
   · cases e1; exact hne rfl
 · rcases hget i _ hi with ⟨hne, e1⟩ | ⟨_, e1⟩
   · obtain ⟨h1, h2, h3⟩ := h.cell i a' l e1
     have : a' ≠ a := fun e => hne (h.inj i b a l _ (by rw [← e]; exact e1) hb)
     exact ⟨h1, h2, h3.mono hext (by simp only [upd, if_neg this])⟩
   · cases e1
     exact ⟨ha0, han, show upd m a none a = none by simp [upd]⟩
 · rcases hget i _ hi with ⟨_, e1⟩ | ⟨_, e1⟩
   · exact h.nl i l e1
   · cases e1
 · rcases hget i _ hi with ⟨hne, e1⟩ | ⟨e0, e1⟩ <;> rcases hget j _ hj with ⟨hne', e2⟩ | ⟨e3, e2⟩
   · exact h.inj i j a' l1 l2 e1 e2
   · cases e2; exact absurd (h.inj i b _ _ _ e1 hb) hne
   · cases e1; exact absurd (h.inj j b _ _ _ e2 hb) hne'
   · omega
 · rcases hget i _ hi with ⟨_, e1⟩ | ⟨e0, e1⟩
   · exact h.lo i a' l e1
   · cases e1; subst e0; exact h.lo i a _ hb
theorem unhide {N : Nat} {c : Cx N} {M : Mem} {n : Nat} : ∀ {hs : Hs} {Z : Zl} {L L' : List LB} {m h : Mem}, StM c Z M L m n → HidR Z M L h [] hs → rstH hs L = some L' → ∃ Z', ExtV Z M Z' M ∧ StM c Z' M L' (mrg h m) n
 | [], Z, L, L', m, h, hM, hH, hr => by
   cases hr
   have e : mrg h m = m := by
    funext a
    cases e1 : h a with
    | none => exact mrg_none e1
    | some x => obtain ⟨e, he, _⟩ := hH.dom a x e1; cases he
   rw [e]; exact ⟨Z, ExtV.refl _ _, hM⟩
 | (b, row, d) :: hs, Z, L, L', m, h, hM, hH, hr => by
   simp only [rstH] at hr
   split at hr
   · rename_i L1 hL1
     obtain ⟨hbl, rfl⟩ := setN_inv hL1
     obtain ⟨hLb, a, cells, hZ, ha, hp, hX⟩ := hH.row (b, row, d) (List.mem_cons_self ..)
     simp only at hLb hZ hp hX
     have hg : grow (some a, LB.gone) (some a, LB.cell row) := ⟨trivial, rfl⟩
     have hlt : b < Z.length := (List.getElem?_eq_some_iff.1 hZ).1
     have he : ExtV Z M (Z.set b (some a, LB.cell row)) M := by
      refine ⟨sub_refl _, fun i p hp => ?_⟩
      by_cases e : b = i
      · subst e; rw [hZ] at hp; cases hp
        exact ⟨_, by rw [List.getElem?_set, if_pos rfl, if_pos hlt], hg⟩
      · exact ⟨p, by rw [List.getElem?_set, if_neg e]; exact hp, grow.refl p⟩
     obtain ⟨_, hM1⟩ := hM.write hZ cells hg rfl (Pt.mono hp fun _ _ => RL.mono he)
     have hnd := hH.nd
     simp only [List.map_cons, List.nodup_cons] at hnd
     have hne : ∀ e, e ∈ hs → e.1 ≠ b := fun e he' e1 => hnd.1 (List.mem_map.2 ⟨e, he', e1⟩)
     have hH1 : HidR (Z.set b (some a, LB.cell row)) M (L.set b (.cell row)) (upd h a none) [] hs := by
      refine ⟨hnd.2, fun e he' => ?_, fun a' x hx => ?_, fun a ⟨_, h⟩ => (nomatch h)⟩
      · obtain ⟨h1, a', cells', h2, h3, h4, h5⟩ := hH.row e (List.mem_cons_of_mem _ he')
        have hb' := hne e he'
        have haa : a' ≠ a := fun e1 => by subst e1; exact hb' (hM.inj _ _ _ _ _ h2 hZ)
        exact ⟨by rw [List.getElem?_set, if_neg (Ne.symm hb')]; exact h1, a', cells', by rw [List.getElem?_set, if_neg (Ne.symm hb')]; exact h2, by simp only [upd, if_neg haa]; exact h3, Pt.mono h4 fun _ _ => RL.mono he, h5⟩
      · simp only [upd] at hx
        split at hx
        · cases hx
        · rename_i haa
          obtain ⟨e, he1, he2⟩ := hH.dom a' x hx
          have hb' : e.1 ≠ b := fun e1 => by rw [e1, hZ] at he2; cases he2; exact haa rfl
          rcases List.mem_cons.1 he1 with rfl | he1
          · exact absurd rfl hb'
          · exact ⟨e, he1, by rw [List.getElem?_set, if_neg (Ne.symm hb')]; exact he2⟩
     obtain ⟨Z', h1, h2⟩ := unhide hM1 hH1 hr
     have e : mrg (upd h a none) (upd m a (some ⟨cells, true, LB.sz .gone⟩)) = mrg h m := by
      funext x
      by_cases hx : x = a
      · subst hx; rw [mrg_none (by simp [upd]), mrg_some ha]; simp [upd, LB.sz]
      · simp only [mrg, upd, if_neg hx]
     rw [e] at h2
     exact ⟨Z', he.tr h1, h2⟩
   · cases hr
theorem hide_all {N : Nat} {c : Cx N} {M : Mem} {n : Nat} : ∀ {bs : List Nat} {Z : Zl} {L L' : List LB} {hs : Hs} {m : Mem}, StM c Z M L m n → hideL bs L = some (L', hs) →
 ∃ Z' m' h, ExtV Z M Z' M ∧ StM c Z' M L' m' n ∧ HidR Z' M L' h [] hs ∧ m = mrg h m' ∧ ∀ a x, h a = some x → m' a = none
 | [], Z, L, L', hs, m, hM, hh => by
   cases hh
   exact ⟨Z, m, fun _ => none, ExtV.refl _ _, hM, ⟨by simp, fun e he => (nomatch he), fun a x h => (nomatch h), fun a ⟨_, h⟩ => (nomatch h)⟩, rfl, fun a x h => (nomatch h)⟩
 | b :: bs, Z, L, L', hs, m, hM, hh => by
   simp only [hideL] at hh
   split at hh
   · rename_i row hr
     split at hh
     · rename_i L1 hL1
       split at hh
       · rename_i L2 hs2 h2
         cases hh
         obtain ⟨hbl, rfl⟩ := setN_inv hL1
         obtain ⟨oa, hZ⟩ := hM.getZ hr
         cases oa with
         | none => obtain ⟨k, e⟩ := hM.nil _ _ hZ; cases e
         | some a =>
           obtain ⟨_, _, cells, hm, hrel⟩ := hM.cell _ _ _ hZ
           obtain ⟨he, hM1⟩ := hM.hide hZ
           obtain ⟨Z2, m2, h, he2, hM2, hH, hmm, hd⟩ := hide_all hM1 h2
           have hlt : b < L.length := hbl
           obtain ⟨hg1, hg2⟩ := hideL_gone (b := b) h2 (by rw [List.getElem?_set, if_pos rfl, if_pos hlt])
           obtain ⟨oa2, hZ2⟩ := hM2.getZ hg1
           have hZ2 : Z2[b]? = some (some a, .gone) := by
            obtain ⟨p1, q1, q2⟩ := he2.hZ b (some a, .gone) (by rw [List.getElem?_set, if_pos rfl, if_pos (by rw [hM.lenZ]; exact hlt)])
            have := (q2.cl trivial).2
            rw [hZ2] at q1; cases q1
            simp only at this; rw [this] at hZ2; exact hZ2
           have hha : ∀ x, h a = some x → False := fun x hx => by
            obtain ⟨e, e1, e2⟩ := hH.dom a x hx
            have := hM2.inj _ _ _ _ _ e2 hZ2
            exact hg2 (List.mem_map.2 ⟨e, e1, this⟩)
           have hha : h a = none := by
            cases e : h a with
            | none => rfl
            | some x => exact (hha x e).elim
           refine ⟨Z2, m2, upd h a (some ⟨cells, true, 1⟩), he.tr he2, hM2, ⟨?_, fun e he' => ?_, fun a' x hx => ?_, fun a ⟨_, h⟩ => (nomatch h)⟩, ?_, fun a' x hx => ?_⟩
           · simp only [List.map_cons, List.nodup_cons]; exact ⟨hg2, hH.nd⟩
           · rcases List.mem_cons.1 he' with rfl | he'
             · have hrel : Pt (RL M Z) row cells := hrel
               exact ⟨hg1, a, cells, hZ2, by simp [upd], Pt.mono hrel fun _ _ h => (h.mono he).mono he2, Mk0.nil _ _⟩
             · obtain ⟨h1, a', cells', h3, h4, h5, h6⟩ := hH.row e he'
               have haa : a' ≠ a := fun e1 => by subst e1; rw [hha] at h4; cases h4
               exact ⟨h1, a', cells', h3, by simp only [upd, if_neg haa]; exact h4, h5, h6⟩
           · simp only [upd] at hx
             split at hx
             · rename_i haa; subst haa; exact ⟨_, List.mem_cons_self .., hZ2⟩
             · obtain ⟨e, e1, e2⟩ := hH.dom a' x hx
               exact ⟨e, List.mem_cons_of_mem _ e1, e2⟩
           · funext x
             by_cases hx : x = a
             · subst hx; rw [mrg_some (by simp [upd]; rfl), hm]; rfl
             · have := congrFun hmm x
               simp only [mrg, upd, if_neg hx] at this ⊢
               exact this
           · simp only [upd] at hx
             split at hx
             · rename_i haa
               subst haa
               have := congrFun hmm a'
               simp only [upd, if_true] at this
               exact (mrg_none_inv this.symm).2
             · exact hd a' x hx
       · cases hh
     · cases hh
   · cases hh
section
variable {N : Nat} {G : Prg} {tl : Tl} {L : List LB} {K : Tl → List LB → Prop} {Q : Ex → Tl → List LB → Prop} {hs : Hs} {l : List IOp}
theorem s_rgH (bs : List Nat) {L1} (hh : hideL bs L = some (L1, hs)) (k : VH N G l (Q .normal) hs tl L1) : VC N G (.rg l) Q tl L := by
 intro c Z M tm m n hM hS
 obtain ⟨Z1, m1, h, he, hM1, hH, rfl, hd⟩ := hide_all hM hh
 obtain ⟨tm2, m2, n2, Z2, M2, tl2, L2, hb, he2, hM2, hS2, hk⟩ := k c Z1 M tm m1 n h [] hM1 (hS.mono he) hH
 exact ⟨_, tm2, m2, n2, Z2, M2, tl2, L2, .rgH hd hb, he.trans he2, hM2, hS2, hk⟩
theorem h_bar {L1 d o g} (hr : rstH hs L = some L1) (k : VO N G (⟨d, o, g, false⟩ :: l) K tl L1) : VH N G (⟨d, o, g, false⟩ :: l) K hs tl L := by
 intro c Z M tm m n h X hM hS hH
 obtain ⟨Z1, he, hM1⟩ := unhide hM hH.noX hr
 obtain ⟨tm2, m2, n2, Z2, M2, tl2, L2, hb, he2, r⟩ := k c Z1 M tm _ n hM1 (hS.mono he)
 exact ⟨tm2, m2, n2, Z2, M2, tl2, L2, .hBar rfl hb, he.trans he2, r⟩
def gones (L : List LB) : Hs → Bool
 | [] => true
 | e :: hs => (match L[e.1]? with
   | some .gone => true
   | _ => false) && gones L hs
theorem gones_inv {L : List LB} : ∀ {hs : Hs}, gones L hs = true → ∀ e, e ∈ hs → L[e.1]? = some .gone
 | [], _, e, he => by cases he
 | e0 :: hs, h, e, he => by
   simp only [gones, Bool.and_eq_true] at h
   rcases List.mem_cons.1 he with rfl | he
   · have := h.1
     split at this
     · rename_i h1; exact h1
     · cases this
   · exact gones_inv h.2 e he
theorem HidR.mono {N : Nat} {c : Cx N} {Z M L h X hs Z1 M1 L1 m1 n1} (hH : HidR Z M L h X hs) (he : ExtV Z M Z1 M1) (hM1 : StM c Z1 M1 L1 m1 n1) (hg : gones L1 hs = true) : HidR Z1 M1 L1 h X hs := by
 have up : ∀ e a, e ∈ hs → Z[e.1]? = some (some a, LB.gone) → Z1[e.1]? = some (some a, LB.gone) := by
  intro e a he' hz
  obtain ⟨p1, q1, q2⟩ := he.hZ _ _ hz
  have h2 := (q2.cl trivial).2
  obtain ⟨a1, hz1⟩ := hM1.getZ (gones_inv hg e he')
  rw [q1] at hz1; cases hz1
  simp only at h2; subst h2; exact q1
 refine ⟨hH.nd, fun e he' => ?_, fun a x hx => ?_, hH.xs⟩
 · obtain ⟨h1, a, cells, h2, h3, h4, h5⟩ := hH.row e he'
   exact ⟨gones_inv hg e he', a, cells, up e a he' h2, h3, Pt.mono h4 fun _ _ => RL.mono he, h5⟩
 · obtain ⟨e, e1, e2⟩ := hH.dom a x hx
   exact ⟨e, e1, up e a e1 e2⟩
theorem h_op {d o v L1} (h : OpV G true o tl L (some v) L1) (hg : gones L1 hs = true) (k : VH N G l K hs ((d, v) :: tl) L1) : VH N G (⟨some d, o, none, true⟩ :: l) K hs tl L := by
 intro c Z M tm m n hm X hM hS hH
 obtain ⟨v', m1, n1, Z1, M1, h1, he, hM1, hr⟩ := h _ c Z M tm m n hM hS
 obtain ⟨tm3, m3, n3, Z3, M3, tl3, L3, hb, he3, r⟩ := k c Z1 M1 (upd tm d v') m1 n1 hm X hM1 ((hS.mono he).put (hr v rfl)) (hH.mono he hM1 hg)
 refine ⟨tm3, m3, n3, Z3, M3, tl3, L3, ?_, he.trans he3, r⟩
 rcases h1 with h1 | ⟨f, args, h2, h3⟩
 · exact .hPure rfl (fun g b e => by cases e) h1 hb
 · exact .hCall rfl (fun g b e => by cases e) h2 h3 hb
end
def pickH (hs : Hs) : List Nat → Option Hs
 | [] => some []
 | b :: r => match hs.find? (fun e => Nat.beq e.1 b) with
   | some (b', row, d) => match Nat.blt d 2 with
     | true => match pickH hs r with
       | some l => some ((b', row, d) :: l)
       | none => none
     | false => none
   | none => none
theorem pickH_inv {hs : Hs} : ∀ {r : List Nat} {l : Hs}, pickH hs r = some l → l.map (·.1) = r ∧ ∀ e, e ∈ l → e ∈ hs ∧ (e.2.2 = 0 ∨ e.2.2 = 1)
 | [], l, h => by simp [pickH] at h; subst h; exact ⟨rfl, fun e he => nomatch he⟩
 | b :: r, l, h => by
   simp only [pickH] at h
   split at h
   · rename_i b' row d hf
     split at h
     · rename_i hd
       split at h
       · rename_i l1 h1
         cases h
         obtain ⟨i1, i2⟩ := pickH_inv h1
         have hb : b' = b := Nat.eq_of_beq_eq_true (by have := List.find?_some hf; simpa using this)
         subst hb
         rw [Nat.blt_eq] at hd
         refine ⟨by simp [i1], fun e he => ?_⟩
         rcases List.mem_cons.1 he with rfl | he
         · exact ⟨List.mem_of_find?_eq_some hf, by simp only; omega⟩
         · exact i2 e he
       · cases h
     · cases h
   · cases h
def lookH (b : Nat) : Hs → Option (List V)
 | [] => none
 | e :: hs => match Nat.beq e.1 b with
   | true => some e.2.1
   | false => lookH b hs
theorem lookH_inv {b : Nat} {row : List V} : ∀ {hs : Hs}, lookH b hs = some row → ∃ e, e ∈ hs ∧ e.1 = b ∧ e.2.1 = row
 | [], h => by cases h
 | e :: hs, h => by
   simp only [lookH] at h
   split at h
   · rename_i hb; cases h; exact ⟨e, List.mem_cons_self .., Nat.eq_of_beq_eq_true hb, rfl⟩
   · obtain ⟨e', h1, h2⟩ := lookH_inv h; exact ⟨e', List.mem_cons_of_mem _ h1, h2⟩
theorem lookH_none {b : Nat} : ∀ {hs : Hs}, lookH b hs = none → b ∉ hs.map (·.1)
 | [], _ => by simp
 | e :: hs, h => by
   simp only [lookH] at h
   split at h
   · cases h
   · rename_i hb
     simp only [List.map_cons, List.mem_cons, not_or]
     exact ⟨fun e' => Nat.ne_of_beq_eq_false hb e'.symm, lookH_none h⟩
def putH (new : Hs) : Hs → Hs
 | [] => []
 | e :: hs => (match lookH e.1 new with
   | some row => (e.1, row, 1)
   | none => e) :: putH new hs
theorem putH_keys (new : Hs) : ∀ hs : Hs, (putH new hs).map (·.1) = hs.map (·.1)
 | [] => rfl
 | e :: hs => by
   simp only [putH, List.map_cons, putH_keys new hs]
   cases lookH e.1 new <;> rfl
theorem putH_mem {new : Hs} {e' : Nat × List V × Nat} : ∀ {hs : Hs}, e' ∈ putH new hs → ∃ e, e ∈ hs ∧ ((∃ row, lookH e.1 new = some row ∧ e' = (e.1, row, 1)) ∨ (lookH e.1 new = none ∧ e' = e))
 | [], h => nomatch h
 | e :: hs, h => by
   simp only [putH] at h
   rcases List.mem_cons.1 h with h | h
   · refine ⟨e, List.mem_cons_self .., ?_⟩
     split at h
     · rename_i row hr; exact .inl ⟨row, hr, h⟩
     · rename_i hr; exact .inr ⟨hr, h⟩
   · obtain ⟨e1, h1, h2⟩ := putH_mem h
     exact ⟨e1, List.mem_cons_of_mem _ h1, h2⟩
theorem hsuniq : ∀ {hs : Hs}, (hs.map (·.1)).Nodup → ∀ {e e' : Nat × List V × Nat}, e ∈ hs → e' ∈ hs → e.1 = e'.1 → e = e'
 | [], _, e, e', h, _, _ => nomatch h
 | a :: hs, hnd, e, e', h, h', he => by
   simp only [List.map_cons, List.nodup_cons] at hnd
   rcases List.mem_cons.1 h with h1 | h1 <;> rcases List.mem_cons.1 h' with h2 | h2
   · rw [h1, h2]
   · exact absurd (List.mem_map.2 ⟨e', h2, by rw [← he, h1]⟩) hnd.1
   · exact absurd (List.mem_map.2 ⟨e, h1, by rw [he, h2]⟩) hnd.1
   · exact hsuniq hnd.2 h1 h2 he
theorem hideL_keys : ∀ {bs : List Nat} {L L' : List LB} {hs : Hs}, hideL bs L = some (L', hs) → hs.map (·.1) = bs
 | [], L, L', hs, h => by cases h; rfl
 | b :: bs, L, L', hs, h => by
   simp only [hideL] at h
   split at h
   · split at h
     · split at h
       · rename_i L2 hs2 h2; cases h; simp [hideL_keys h2]
       · cases h
     · cases h
   · cases h
def leadsV (us : List V) : List Nat → Bool
 | [] => true
 | b :: r => us.any (fun u => match u with
   | .cp b' _ => Nat.beq b' b
   | _ => false) && leadsV us r
theorem leadsV_inv {us : List V} : ∀ {r : List Nat}, leadsV us r = true → ∀ b, b ∈ r → ∃ off, V.cp b off ∈ us
 | [], _, b, h => nomatch h
 | b0 :: r, h, b, hb => by
   simp only [leadsV, Bool.and_eq_true] at h
   rcases List.mem_cons.1 hb with rfl | hb
   · obtain ⟨u, hu, h1⟩ := List.any_eq_true.1 h.1
     split at h1
     · rename_i b' off; have := Nat.eq_of_beq_eq_true h1; subst this; exact ⟨off, hu⟩
     · cases h1
   · exact leadsV_inv h.2 b hb
theorem words_eq {M M' : Mem} {Z Z' : Zl} {lb : LB} {cells cells' : List Value} (h : LB.rel M Z lb cells) (h' : LB.rel M' Z' lb cells') (hw : lb.words) : cells = cells' := by
 have ptEq : ∀ {R R' : V → Value → Prop} {row : List V} {c c' : List Value}, (∀ v, v ∈ row → ∃ x, v = .w x) → (∀ x y, R (.w x) y → y = x) → (∀ x y, R' (.w x) y → y = x) → Pt R row c → Pt R' row c' → c = c' := by
  intro R R' row c c' hw h1 h2 hp hp'
  apply List.ext_getElem?
  intro i
  rcases Nat.lt_or_ge i row.length with hi | hi
  · obtain ⟨x, hx⟩ := hw _ (List.getElem_mem hi)
    have hr : row[i]? = some (.w x) := by rw [List.getElem?_eq_getElem hi, hx]
    obtain ⟨y, q1, q2⟩ := hp.get hr
    obtain ⟨y', q3, q4⟩ := hp'.get hr
    rw [q1, q3, h1 _ _ q2, h2 _ _ q4]
  · rw [List.getElem?_eq_none (by rw [← hp.1]; exact hi), List.getElem?_eq_none (by rw [← hp'.1]; exact hi)]
 have rfw : ∀ {M : Mem} x y, RF M (.w x) y → y = x := fun x y h => by cases h; rfl
 cases lb with
 | cell row => exact ptEq hw (fun x y h => h.w_inv.1) (fun x y h => h.w_inv.1) h h'
 | gone => exact h.elim
 | dead => exact h.elim
 | arr k rows =>
   obtain ⟨rs, rfl, h2, _, h4, _⟩ := h
   obtain ⟨rs', rfl, g2, _, g4, _⟩ := h'
   congr 1
   apply List.ext_getElem?
   intro i
   rcases Nat.lt_or_ge i rows.length with hi | hi
   · have e1 := List.getElem?_eq_getElem (l := rs) (i := i) (by omega)
     have e2 := List.getElem?_eq_getElem (l := rs') (i := i) (by omega)
     have e3 := List.getElem?_eq_getElem hi
     rw [e1, e2, ptEq (hw _ (List.getElem_mem hi)) rfw rfw (h4 i _ _ e3 e1) (g4 i _ _ e3 e2)]
   · rw [List.getElem?_eq_none (by omega), List.getElem?_eq_none (by omega)]
theorem evEs_get {tl : Tl} : ∀ {es : List E} {us : List V}, evEs tl es = some us → ∀ u, u ∈ us → ∃ e, e ∈ es ∧ evE tl e = some u
 | [], us, h, u, hu => by simp [evEs] at h; subst h; cases hu
 | e :: es, us, h, u, hu => by
   simp only [evEs] at h
   split at h
   · rename_i v r h1 h2
     cases h
     rcases List.mem_cons.1 hu with rfl | hu
     · exact ⟨e, List.mem_cons_self .., h1⟩
     · obtain ⟨e', q1, q2⟩ := evEs_get h2 u hu
       exact ⟨e', List.mem_cons_of_mem _ q1, q2⟩
   · cases h
theorem ofVal_cp {w : Value} {b off : Nat} (h : ofVal w = some (.cp b off)) : False := by
 have key : ∀ {v : Value}, ofW v ≠ some (.cp b off) := fun {v} e => by
  have := (ofW_inv e).1; cases this
 unfold ofVal at h
 split at h
 · split at h <;> cases h
 · split at h <;> cases h
 · split at h <;> cases h
 · exact key h
section
variable {N : Nat} {G : Prg} {tl : Tl} {L : List LB} {K : Tl → List LB → Prop} {hs : Hs} {l : List IOp} {d : Nat}
theorem h_callG {f es us vargs L0 hp L2} {post : V → List LB → Prop} (ρh ρr : List Nat) (ha : evEs tl es = some us) (hpk : pickH hs ρh = some hp) (hrs : rstH hp L = some L2) (hr : rens (V.ren (posN (ρh ++ ρr)) 6) us = some vargs)
 (hL0 : mapO (fun i => L2[i]?) (ρh ++ ρr) = some L0) (hfz : L0.all LB.froz = true) (hnd : (ρh ++ ρr).Nodup) (hld : leadsV us ρh = true) (hc : GV G f L0 vargs post)
 (hwd : ∀ lb, lb ∈ L0.drop ρh.length → lb.words)
 (k : ∀ u L1, post u L1 → (L1.drop ρh.length).take ρr.length = L0.drop ρh.length ∧ ∃ L' u' L3 hn, mergeG L2 L1 (ρh ++ ρr) = some L' ∧ V.ren (backN (ρh ++ ρr) L2.length) 6 u = some u' ∧ hideL ρh L' = some (L3, hn) ∧ gones L3 hs = true ∧ VH N G l K (putH hn hs) ((d, u') :: tl) L3) : VH N G (⟨some d, .call f es, none, true⟩ :: l) K hs tl L := by
 intro c Z M tm m n h X hM hS hH
 obtain ⟨ρ, hρ⟩ : ∃ ρ, ρ = ρh ++ ρr := ⟨_, rfl⟩
 rw [← hρ] at hr hL0 hnd k
 have hndh : ρh.Nodup := (List.nodup_append.1 (hρ ▸ hnd)).1
 obtain ⟨hk, hpm⟩ := pickH_inv hpk
 -- the rows that are lent
 have hdis : ∀ (i : Nat) a, Z[i]? = some (some a, LB.gone) → m a = none ∧ a < n ∧ c.okA a := fun i a hz => by
  obtain ⟨h1, h2, h3⟩ := hM.cell i a _ hz
  exact ⟨h3, h2, h1⟩
 have hpin : ∀ e, e ∈ hp → L[e.1]? = some .gone ∧ ∃ a cells, Z[e.1]? = some (some a, .gone) ∧ h a = some ⟨cells, true, 1⟩ ∧ Pt (RL M Z) e.2.1 cells ∧ Mk0 X a e.2.2 ∧ (e.2.2 = 0 ∨ e.2.2 = 1) := fun e he => by
  obtain ⟨h1, h2⟩ := hpm e he
  obtain ⟨g1, a, cells, g2, g3, g4, g5⟩ := hH.row e h1
  exact ⟨g1, a, cells, g2, g3, g4, g5, h2⟩
 let T : List Nat := hp.filterMap fun e => (Z[e.1]?).bind (·.1)
 have hT : ∀ a, a ∈ T ↔ ∃ e, e ∈ hp ∧ Z[e.1]? = some (some a, .gone) := by
  intro a
  simp only [T, List.mem_filterMap]
  constructor
  · rintro ⟨e, he, h1⟩
    obtain ⟨_, a', cells, g2, _⟩ := hpin e he
    rw [g2] at h1; simp at h1; subst h1
    exact ⟨e, he, g2⟩
  · rintro ⟨e, he, h1⟩
    exact ⟨e, he, by rw [h1]; rfl⟩
 let hT' : Mem := fun a => if a ∈ T then h a else none
 have hHp : HidR Z M L hT' [] hp := by
  refine ⟨by rw [hk]; exact hndh, fun e he => ?_, fun a x hx => ?_, fun a ⟨_, h⟩ => nomatch h⟩
  · obtain ⟨g1, a, cells, g2, g3, g4, _⟩ := hpin e he
    exact ⟨g1, a, cells, g2, by simp only [hT']; rw [if_pos ((hT a).2 ⟨e, he, g2⟩)]; exact g3, g4, Mk0.nil _ _⟩
  · simp only [hT'] at hx
    split at hx
    · rename_i hin; exact (hT a).1 hin
    · cases hx
 obtain ⟨Z2, he2, hM2⟩ := unhide hM hHp hrs
 have hS2 := hS.mono he2
 have addr2 : ∀ (i : Nat) a, Z[i]? = some (some a, LB.gone) → ∃ lb, Z2[i]? = some (some a, lb) := fun i a hz => by
  obtain ⟨⟨a1, lb1⟩, q1, q2⟩ := he2.hZ _ _ hz
  have := (q2.cl trivial).2
  simp only at this; subst this
  exact ⟨lb1, q1⟩
 -- the call
 have hpt := evEs_rel hS2 ha
 rw [← hM2.hL] at hL0
 obtain ⟨Z0, hZ0, hsnd⟩ := mapO_snd (Z := []) (f := fun i => Z2[i]?) (g := fun i => (Z2.map (·.2))[i]?) (fun j => by simp) hL0
 obtain ⟨k1, k2⟩ := mapO_inv hZ0
 have hz0 : ∀ (i : Nat) p, Z0[i]? = some p → ∃ j, ρ[i]? = some j ∧ Z2[j]? = some p := fun i p hp => by
  have hi : i < ρ.length := by rw [← k1]; exact (List.getElem?_eq_some_iff.1 hp).1
  obtain ⟨y, q1, q2⟩ := k2 i _ (List.getElem?_eq_getElem hi)
  rw [hp] at q2; cases q2
  exact ⟨_, List.getElem?_eq_getElem hi, q1⟩
 have hA : ∀ a, a ∈ T → a ∈ adrs Z0 := by
  intro a ha'
  obtain ⟨e, he, g2⟩ := (hT a).1 ha'
  obtain ⟨lb', g3⟩ := addr2 _ _ g2
  have hj : e.1 ∈ ρ := by rw [hρ, ← hk]; exact List.mem_append_left _ (List.mem_map.2 ⟨e, he, rfl⟩)
  obtain ⟨i, hi⟩ := List.mem_iff_getElem?.1 hj
  obtain ⟨y, q1, q2⟩ := k2 i _ hi
  rw [g3] at q1; cases q1
  exact adrs_mem.2 ⟨i, lb', q2⟩
 -- what is lent and was not put aside
 have hR : ∀ (i : Nat) a lb, Z0[i]? = some (some a, lb) → a ∉ T → ρh.length ≤ i ∧ i < ρ.length := by
  intro i a lb hi hnT
  obtain ⟨j, h1, h2⟩ := hz0 i _ hi
  refine ⟨?_, (List.getElem?_eq_some_iff.1 h1).1⟩
  rcases Nat.lt_or_ge i ρh.length with hlt | hge
  · exfalso
    have hj : j ∈ hp.map (·.1) := by rw [hk]; rw [hρ, List.getElem?_append_left hlt] at h1; exact List.mem_of_getElem? h1
    obtain ⟨e, he, rfl⟩ := List.mem_map.1 hj
    obtain ⟨_, a', cells, g2, _⟩ := hpin e he
    obtain ⟨lb', g3⟩ := addr2 _ _ g2
    rw [h2] at g3; cases g3
    exact hnT ((hT a).2 ⟨e, he, g2⟩)
  · exact hge
 have hbs : c.bs ≤ n := by have h1 := hM.hbs; have h2 := hM.hn; omega
 have hLent : Lent c.bs n M (mrg hT' m) Z0 L0 := by
  refine ⟨hsnd, fun a ha' => ?_, fun i lb hi => ?_, fun i j a l1 l2 e1 e2 => ?_, fun i a lb hi => ?_⟩
  · obtain ⟨i, lb, hi⟩ := adrs_mem.1 ha'
    obtain ⟨j, h1, h2⟩ := hz0 i _ hi
    obtain ⟨g1, g2, _⟩ := hM2.cell _ _ _ h2
    refine ⟨hM2.bsA g1, g2, ?_⟩
    cases e : M a with
    | none => rfl
    | some x => exact absurd h2 ((hM2.hM a x e).2.2 _ _)
  · obtain ⟨j, _, h2⟩ := hz0 i _ hi
    exact hM2.nl _ _ h2
  · obtain ⟨j1, h1, h2⟩ := hz0 i _ e1
    obtain ⟨j2, h3, h4⟩ := hz0 j _ e2
    have := hM2.inj _ _ _ _ _ h2 h4
    subst this
    exact (List.getElem?_inj (List.getElem?_eq_some_iff.1 h1).1 hnd).1 (h1.trans h3.symm)
  · obtain ⟨j, h1, h2⟩ := hz0 i _ hi
    obtain ⟨_, _, g5⟩ := hM2.cell _ _ _ h2
    have hfr : lb.froz = true := List.all_eq_true.1 hfz _ (by rw [← hsnd]; exact List.mem_map.2 ⟨_, List.mem_of_getElem? hi, rfl⟩)
    obtain ⟨cells, g3, g4⟩ := g5.froz hfr
    exact ⟨cells, g3, LB.froz_rel g4 hfr (sub_refl _) _⟩
 have hp' : Pt (RL M Z0) vargs (es.map (·.ev tm)) := rens_rel (ren_rel (sub_refl _) (fun b b' p hs hz => by
  obtain ⟨y, q1, q2⟩ := k2 _ _ (posN_inv hs)
  rw [hz] at q1; cases q1
  exact ⟨p, q2, grow.refl p⟩) 6) hr hpt
 obtain ⟨v, m1, n1, hb, u, M1, Z1, g1, g2, B⟩ := hc.run _ _ (mrg hT' m) n M Z0 hM2.fresh hbs hM2.subM hLent hp'
 obtain ⟨hn, hf⟩ := hb.fresh hM2.fresh
 obtain ⟨hsame, L', u', L3, hnw, hL', hu', hhd, hgo, k'⟩ := k u _ g2
 -- what it read alone stands as it stood
 have keep : ∀ a x, a ∉ T → mrg hT' m a = some x → m1 a = some x := by
  intro a x hnT hx
  by_cases hin : a ∈ adrs Z0
  · obtain ⟨i, lb, hi⟩ := adrs_mem.1 hin
    obtain ⟨q1, q2⟩ := hR i a lb hi hnT
    have hLi : L0[i]? = some lb := by rw [← hsnd, List.getElem?_map, hi]; rfl
    have hdr : (L0.drop ρh.length)[i - ρh.length]? = some lb := by rw [List.getElem?_drop, show ρh.length + (i - ρh.length) = i by omega]; exact hLi
    obtain ⟨p1, w1, w2⟩ := B.ext i _ hi
    have hp1 : p1.2 = lb := by
     have h9 : ((Z1.map (·.2)).drop ρh.length).take ρr.length = L0.drop ρh.length := hsame
     have h10 := congrArg (fun l : List LB => l[i - ρh.length]?) h9
     simp only [List.getElem?_take, List.getElem?_drop] at h10
     rw [show ρh.length + (i - ρh.length) = i by omega, if_pos (by rw [hρ, List.length_append] at q2; omega), hLi, List.getElem?_map, w1] at h10
     simpa using h10
    have ha1 : p1.1 = some a := by
     obtain ⟨a1, lb1⟩ := p1
     simp only at hp1
     subst hp1
     unfold grow at w2
     cases lb1 with
     | cell row => exact w2.2
     | gone => exact w2.2
     | arr s rows =>
       rcases w2 with ⟨r1, e1, _, e3⟩ | e1
       · cases e1; exact e3 rfl
       · cases e1
     | dead => obtain ⟨_, _, h9⟩ := hLent.cell i a _ hi; exact h9.elim
    obtain ⟨a1, lb1⟩ := p1
    simp only at hp1 ha1
    subst hp1 ha1
    obtain ⟨_, _, cells1, w3, w4⟩ := B.cell i a lb1 w1
    obtain ⟨cells0, w5, w6⟩ := hLent.cell i a lb1 hi
    have := words_eq w6 w4 (hwd lb1 (List.mem_of_getElem? hdr))
    subst this
    rw [w5] at hx; cases hx; exact w3
  · exact B.keep a x hin hx
 obtain ⟨Z', hM', hE, hback, _⟩ := merge_st hM2 hn hf (fun _ _ _ hz e => hb.dom _ (hM2.cell _ _ _ hz).2.1 e) hnd hZ0 B.hma B.hM (fun i a lb hi => by
  obtain ⟨h1, h2, cells, h3, h4⟩ := B.cell i a lb hi
  exact ⟨h1, h2, cells, h3, fun Z' => LB.froz_rel h4 (B.froz i _ hi) (sub_refl _) Z'⟩) B.nil B.inj B.keep B.ext B.lo hL'
 have hrel : RL M1 Z' u' v := ren_rel (sub_refl _) (fun b b' p hs hz => ⟨p, hback _ _ _ hs hz, grow.refl p⟩) 6 u u' v hu' g1
 -- the rows are put aside again
 obtain ⟨Z3, m2, h3, he3, hM3, hH3, hm12, hd3⟩ := hide_all hM' hhd
 have hk3 := hideL_keys hhd
 have hE3 := hE.tr he3
 have hEE := he2.tr hE3
 have addr3 : ∀ (i : Nat) a, Z[i]? = some (some a, LB.gone) → ∃ lb, Z3[i]? = some (some a, lb) := fun i a hz => by
  obtain ⟨⟨a1, lb1⟩, q1, q2⟩ := hEE.hZ _ _ hz
  have := (q2.cl trivial).2
  simp only at this; subst this
  exact ⟨lb1, q1⟩
 have addr3g : ∀ e a, e ∈ hs → Z[e.1]? = some (some a, LB.gone) → Z3[e.1]? = some (some a, LB.gone) := fun e a he' hz => by
  obtain ⟨lb, q1⟩ := addr3 _ _ hz
  obtain ⟨a1, q2⟩ := hM3.getZ (gones_inv hgo e he')
  rw [q1] at q2; cases q2; exact q1
 -- what was put aside is what was lent
 have hh3 : ∀ a x, h3 a = some x → a ∈ T := fun a x hx => by
  obtain ⟨e, e1, e2⟩ := hH3.dom a x hx
  have hj : e.1 ∈ hp.map (·.1) := by rw [hk, ← hk3]; exact List.mem_map.2 ⟨e, e1, rfl⟩
  obtain ⟨e', he', he1⟩ := List.mem_map.1 hj
  obtain ⟨_, a', cells, g2, _⟩ := hpin e' he'
  obtain ⟨lb, q1⟩ := addr3 _ _ g2
  rw [he1, e2] at q1; cases q1
  exact (hT a).2 ⟨e', he', g2⟩
 have hT3 : ∀ a, a ∈ T → ∃ x, h3 a = some x := fun a ha' => by
  obtain ⟨e, he, g2⟩ := (hT a).1 ha'
  have hj : e.1 ∈ hnw.map (·.1) := by rw [hk3, ← hk]; exact List.mem_map.2 ⟨e, he, rfl⟩
  obtain ⟨e', he', he1⟩ := List.mem_map.1 hj
  obtain ⟨_, a', cells, q2, q3, _⟩ := hH3.row e' he'
  obtain ⟨lb, q1⟩ := addr3 _ _ g2
  rw [he1, q1] at q2; cases q2
  exact ⟨_, q3⟩
 let h2 : Mem := mrg h3 fun a => if a ∈ T then none else h a
 have h2T : ∀ a, a ∈ T → h2 a = h3 a := fun a ha' => by
  obtain ⟨x, hx⟩ := hT3 a ha'
  show mrg h3 _ a = h3 a
  rw [mrg_some hx, hx]
 have h2N : ∀ a, a ∉ T → h2 a = h a := fun a ha' => by
  have e : h3 a = none := by
   cases e : h3 a with
   | none => rfl
   | some x => exact absurd (hh3 a x e) ha'
  show mrg h3 _ a = h a
  rw [mrg_none e, if_neg ha']
 have hdh : ∀ a x, h a = some x → m a = none ∧ a < n := fun a x hx => by
  obtain ⟨e, e1, e2⟩ := hH.dom a x hx
  obtain ⟨q1, q2, _⟩ := hdis _ _ e2
  exact ⟨q1, q2⟩
 have hTh : ∀ a, a ∈ T → ∃ cells, h a = some ⟨cells, true, 1⟩ ∧ XOk (.call f es) X a ∧ m a = none ∧ a < n := fun a ha' => by
  obtain ⟨e, he, g2⟩ := (hT a).1 ha'
  obtain ⟨_, a', cells, q2, q3, _, q5, q8⟩ := hpin e he
  rw [g2] at q2; cases q2
  obtain ⟨q6, q7, _⟩ := hdis _ _ g2
  exact ⟨cells, q3, q5.ok (q8.imp id fun h => ⟨h, rfl⟩), q6, q7⟩
 have hmh : ∀ a x, a ∉ T → (mrg hT' m a = some x ↔ m a = some x) := fun a x ha' => by
  have e : hT' a = none := by simp only [hT']; rw [if_neg ha']
  rw [mrg_none e]
 have hm2 : ∀ a x, m2 a = some x → m1 a = some x ∧ a ∉ T := fun a x hx => by
  have hn3 : h3 a = none := by
   cases e : h3 a with
   | none => rfl
   | some y => rw [hd3 a y e] at hx; cases hx
  refine ⟨by rw [hm12, mrg_none hn3]; exact hx, fun ha' => ?_⟩
  obtain ⟨y, hy⟩ := hT3 a ha'
  rw [hn3] at hy; cases hy
 have hv : HvR (.call f es) tm n h X T m (mrg hT' m) m1 h2 m2 := by
  refine ⟨fun a x e => ?_, fun a ha' => ?_, fun a x e hne => keep a x hne e, fun a x e hne => by rw [h2N a hne]; exact e, fun a x e => ?_, fun a x e => ?_, fun a x e => ?_⟩
  · rcases mrg_inv e with e1 | ⟨_, e1⟩
    · simp only [hT'] at e1
      split at e1
      · exact .inl ⟨by assumption, e1⟩
      · cases e1
    · exact .inr e1
  · obtain ⟨cells, q1, q2, q3, q4⟩ := hTh a ha'
    refine ⟨q2, q3, ⟨_, q1, mrg_some (by simp only [hT']; rw [if_pos ha']; exact q1)⟩, ?_⟩
    obtain ⟨e, he, g2⟩ := (hT a).1 ha'
    obtain ⟨off, hoff⟩ := leadsV_inv hld e.1 (by rw [← hk]; exact List.mem_map.2 ⟨e, he, rfl⟩)
    obtain ⟨ex, hex, hev⟩ := evEs_get ha _ hoff
    have hcp := evE_rel hS hev
    obtain ⟨a1, lb, r1, r2⟩ := hcp.cp_inv
    rw [g2] at r1; cases r1
    cases ex with
    | t s => exact ⟨s, ⟨a, off, none⟩, by simp only [O.slots, List.mem_flatMap]; exact ⟨_, hex, by simp [E.slots]⟩, rfl, rfl, .inl r2⟩
    | k w =>
      exfalso
      exact ofVal_cp hev
  · by_cases ha' : a ∈ T
    · rw [h2T a ha'] at e
      refine .inr ⟨.inl ha', ?_⟩
      rw [hm12]; exact mrg_some e
    · rw [h2N a ha'] at e
      exact .inl ⟨(hdh a x e).2, ha', e⟩
  · obtain ⟨q1, q2⟩ := hm2 a x e
    rcases Nat.lt_or_ge a n with hlt | hge
    · refine .inl ⟨hlt, ?_⟩
      cases e1 : m a with
      | some y =>
        have := keep a y q2 ((hmh a y q2).2 e1)
        rw [q1] at this; exact this.symm
      | none =>
        have : mrg hT' m a = none := by
         cases e2 : mrg hT' m a with
         | none => rfl
         | some y => rw [(hmh a y q2).1 e2] at e1; cases e1
        have := hb.dom a hlt this
        rw [q1] at this; cases this
    · exact .inr ⟨hge, q1⟩
  · by_cases ha' : a ∈ T
    · rw [h2T a ha'] at e; exact hd3 a x e
    · rw [h2N a ha'] at e
      obtain ⟨q1, q2⟩ := hdh a x e
      cases e1 : m2 a with
      | none => rfl
      | some y =>
        have h5 := (hm2 a y e1).1
        have : mrg hT' m a = none := by
         cases e2 : mrg hT' m a with
         | none => rfl
         | some y => rw [(hmh a y ha').1 e2] at q1; cases q1
        have := hb.dom a q2 this
        rw [h5] at this; cases this
 have hHn : HidR Z3 M1 L3 h2 (XAdd (.call f es) T X) (putH hnw hs) := by
  refine ⟨by rw [putH_keys]; exact hH.nd, fun e' he' => ?_, fun a x hx => ?_, fun a ha' => ?_⟩
  · obtain ⟨e, he, hc'⟩ := putH_mem he'
    rcases hc' with ⟨row, hl1, rfl⟩ | ⟨hl1, rfl⟩
    · obtain ⟨e2, r1, r2, r3⟩ := lookH_inv hl1
      obtain ⟨q1, a, cells, q2, q3, q4, _⟩ := hH3.row e2 r1
      rw [r2] at q1 q2; rw [r3] at q4
      have haT := hh3 a _ q3
      refine ⟨q1, a, cells, q2, ?_, q4, ?_⟩
      · rw [h2T a haT]; exact q3
      · obtain ⟨_, a', cells', w2, _, _, w5⟩ := hH.row e he
        have hin : e.1 ∈ hp.map (·.1) := by rw [hk, ← hk3, ← r2]; exact List.mem_map.2 ⟨e2, r1, rfl⟩
        obtain ⟨e3, v1, v2⟩ := List.mem_map.1 hin
        have hee : e3 = e := hsuniq hH.nd (hpm e3 v1).1 he v2
        subst hee
        have hpp := hpin e3 v1
        obtain ⟨_, a2, _, w6, _, _, w7, w8⟩ := hpp
        have h9 := addr3g e3 a2 he w6
        rw [q2] at h9; cases h9
        exact w7.call w8 rfl
    · obtain ⟨q1, a, cells, q2, q3, q4, q5⟩ := hH.row e' he
      have hnT : a ∉ T := fun ha' => by
       obtain ⟨e2, r1, r2⟩ := (hT a).1 ha'
       have := hM.inj _ _ _ _ _ q2 r2
       refine lookH_none hl1 ?_
       rw [hk3, ← hk, this]; exact List.mem_map.2 ⟨e2, r1, rfl⟩
      refine ⟨gones_inv hgo e' he, a, cells, addr3g e' a he q2, by rw [h2N a hnT]; exact q3, Pt.mono q4 fun _ _ => RL.mono hEE, q5.add hnT⟩
  · have : ∃ e, e ∈ hs ∧ Z[e.1]? = some (some a, LB.gone) := by
     by_cases ha' : a ∈ T
     · obtain ⟨e, he, g2⟩ := (hT a).1 ha'
       exact ⟨e, (hpm e he).1, g2⟩
     · rw [h2N a ha'] at hx; exact hH.dom a x hx
    obtain ⟨e, he, g2⟩ := this
    have hj : e.1 ∈ (putH hnw hs).map (·.1) := by rw [putH_keys]; exact List.mem_map.2 ⟨e, he, rfl⟩
    obtain ⟨e', r1, r2⟩ := List.mem_map.1 hj
    exact ⟨e', r1, by rw [r2]; exact addr3g e a he g2⟩
  · by_cases hin : a ∈ T
    · rw [h2T a hin]; exact hT3 a hin
    · rcases XAdd.xin.1 ha' with h1 | h1
      · exact absurd h1 hin
      · rw [h2N a hin]; exact hH.xs a h1
 obtain ⟨tm4, m4, n4, Z4, M4, tl4, L4, hb4, he4, r⟩ := k' c Z3 M1 (upd tm d v) m2 n1 h2 (XAdd (.call f es) T X) hM3 (((hS.mono (he2.tr hE)).put hrel).mono he3) hHn
 exact ⟨tm4, m4, n4, Z4, M4, tl4, L4, .hHvC (T := T) (o := ⟨some d, .call f es, none, true⟩) rfl (fun g b e => by cases e) rfl hb hv hb4, hEE.trans he4, r⟩
end
end Go.Proofs.YtoppcdecolponaaDoor.AL
namespace Go.Proofs.YtoppcdecolponaaDoor.AL
open Go
set_option linter.unusedVariables false
set_option linter.unusedSimpArgs false
end Go.Proofs.YtoppcdecolponaaDoor.AL
namespace Go.Proofs.YtoppcdecolponaaDoor.AL
open Go
set_option linter.unusedVariables false
set_option linter.unusedSimpArgs false
def LB.ren (s : Nat → Option Nat) : LB → Option LB
 | .cell row => match rens (V.ren s 6) row with
   | some r => some (.cell r)
   | none => none
 | .arr k rows => some (.arr k rows)
 | .gone => none
 | .dead => some .dead
theorem LB.ren_rel {M : Mem} {Z Z' : Zl} {s : Nat → Option Nat} (hs : ∀ (b b' : Nat) p, s b = some b' → Z[b]? = some p → ∃ p', Z'[b']? = some p' ∧ grow p p') {lb lb' cells} (h : LB.ren s lb = some lb') (hr : LB.rel M Z lb cells) : LB.rel M Z' lb' cells := by
 cases lb with
 | cell row =>
   simp only [LB.ren] at h
   split at h
   · rename_i r e
     cases h
     exact rens_rel (R := RL M Z) (R' := RL M Z') (AL.ren_rel (sub_refl _) hs 6) e hr
   · cases h
 | arr k rows => cases h; exact hr
 | gone => cases h
 | dead => cases h; exact hr.elim
end Go.Proofs.YtoppcdecolponaaDoor.AL
namespace Go.Proofs.YtoppcdecolponaaDoor.AL
open Go
set_option linter.unusedVariables false
set_option linter.unusedSimpArgs false
theorem Wk.nar {a b : V} (h : Wk a b) (hn : a.nar = true) : b.nar = true := by
 cases h with
 | refl => exact hn
 | nil => rfl
 | agg => cases hn
 | tup => cases hn
end Go.Proofs.YtoppcdecolponaaDoor.AL
namespace Go.Proofs.YtoppcdecolponaaDoor.AL
open Go
set_option linter.unusedVariables false
set_option linter.unusedSimpArgs false
abbrev Ob := List Mem
structure OBs {N : Nat} (c : Cx N) (Z : Zl) (M m : Mem) (n : Nat) (OL : Ob) : Prop where
 pt : ∀ (i : Nat) D a b, OL[i]? = some D → D a = some b → m a = some b ∧ b.own = true ∧ c.okA a ∧ a < n ∧ M a = none ∧ (∀ (j : Nat) lb, Z[j]? ≠ some (some a, lb)) ∧ ∀ (j : Nat), c.ad[j]? ≠ some (some a)
 low : ∀ (i : Nat) a, c.ad[i]? = some (some a) → a < c.n0
 dis : ∀ (i j : Nat) D E a b b', OL[i]? = some D → OL[j]? = some E → D a = some b → E a = some b' → i = j
theorem OBs.nil {N : Nat} {c : Cx N} {Z M m n} (h : ∀ (i : Nat) a, c.ad[i]? = some (some a) → a < c.n0) : OBs c Z M m n [] := ⟨fun i D a b h => by simp at h, h, fun i j D E a b b' h => by simp at h⟩
end Go.Proofs.YtoppcdecolponaaDoor.AL
namespace Go.Proofs.YtoppcdecolponaaDoor.AL
open Go
set_option linter.unusedVariables false
set_option linter.unusedSimpArgs false
abbrev M0 : Mem := fun _ => none
structure BackX (n n1 : Nat) (m m1 : Mem) (Z0 : Zl) (O0 : Mem) (Z1 : Zl) (O1 : Mem) : Prop where
 cell : ∀ (i : Nat) a lb, Z1[i]? = some (some a, lb) → (a ∈ adrs Z0 ∨ n ≤ a) ∧ a < n1 ∧ ∃ cells, m1 a = some ⟨cells, true, lb.sz⟩ ∧ ∀ M' Z', lb.rel M' Z' cells
 nil : ∀ (i : Nat) lb, Z1[i]? = some (none, lb) → lb = .dead ∨ ∃ k, lb = .arr k []
 inj : ∀ (i j : Nat) a lb lb', Z1[i]? = some (some a, lb) → Z1[j]? = some (some a, lb') → i = j
 keep : ∀ b x, b ∉ adrs Z0 → O0 b = none → m b = some x → m1 b = some x
 ext : ∀ (b : Nat) p, Z0[b]? = some p → ∃ p1, Z1[b]? = some p1 ∧ grow p p1
 lo : ∀ (i : Nat) a lb, Z1[i]? = some (some a, lb) → n ≤ a ∨ ∃ lb0, Z0[i]? = some (some a, lb0)
 ob : ∀ a b, O1 a = some b → m1 a = some b ∧ b.own = true ∧ a < n1 ∧ (O0 a ≠ none ∨ n ≤ a) ∧ a ∉ adrs Z1
structure GX (G : Prg) (f : Nat) (L0 : List LB) (O0 : Mem) (vargs : List V) (post : V → List LB → Mem → Prop) : Prop where
 run : ∀ args bs m n Ma Z0, Fresh m n → bs ≤ n → sub Ma m → Lent bs n Ma m Z0 L0 → (∀ a b, O0 a = some b → m a = some b ∧ b.own = true ∧ bs ≤ a ∧ a < n ∧ Ma a = none ∧ a ∉ adrs Z0) → Pt (RL Ma Z0) vargs args →
  CallW G f args bs m n fun v m1 n1 => ∃ u Z1 O1, RL M0 Z1 u v ∧ post u (Z1.map (·.2)) O1 ∧ BackX n n1 m m1 Z0 O0 Z1 O1
theorem GX.mono {G f L0 O0 vargs} {post post' : V → List LB → Mem → Prop} (h : GX G f L0 O0 vargs post) (hp : ∀ u L1 D, post u L1 D → post' u L1 D) : GX G f L0 O0 vargs post' :=
 ⟨fun args bs m n Ma Z0 h1 h2 h3 h4 h5 h6 => (h.run args bs m n Ma Z0 h1 h2 h3 h4 h5 h6).mono fun v m1 n1 ⟨u, Z1, O1, g1, g2, g3⟩ => ⟨u, Z1, O1, g1, hp _ _ _ g2, g3⟩⟩
end Go.Proofs.YtoppcdecolponaaDoor.AL
namespace Go.Proofs.YtoppcdecolponaaDoor.AL
open Go
set_option linter.unusedVariables false
set_option linter.unusedSimpArgs false
section
variable {N : Nat} {G : Prg} {tl : Tl} {L : List LB} {OL : Ob} {K : Tl → List LB → Ob → Prop} {l : List IOp} {q : Bool} {d : Nat}
def Vew (OL : Ob) (us us' : List V) : Prop := ∀ M', (∀ (i : Nat) D, OL[i]? = some D → sub D M') → ∀ args, Pt (RF M') us args → Pt (RF M') us' args
end
end Go.Proofs.YtoppcdecolponaaDoor.AL
namespace Go.Proofs.YtoppcdecolponaaDoor.AL
open Go
set_option linter.unusedVariables false
set_option linter.unusedSimpArgs false
end Go.Proofs.YtoppcdecolponaaDoor.AL
namespace Go.Proofs.YtoppcdecolponaaDoor.AL
open Go
set_option linter.unusedVariables false
set_option linter.unusedSimpArgs false
abbrev Ps := List (Nat × Nat × Nat × List (List V))
structure PendR {N : Nat} (c : Cx N) (Z : Zl) (M m h : Mem) (n : Nat) (X : Xs) (ps : Ps) : Prop where
 nd : (ps.map (·.2.1)).Nodup
 row : ∀ e, e ∈ ps → ∃ cells, h e.2.1 = some ⟨cells, true, e.2.2.1⟩ ∧ LB.rel M Z (.arr e.2.2.1 e.2.2.2) cells
 dom : ∀ a x, h a = some x → c.n0 ≤ a ∧ a < n ∧ m a = none ∧ a ∈ ps.map (·.2.1)
 xs : ∀ a, XIn X a → a < n ∧ a ∉ ps.map (·.2.1)
theorem PendR.keep {N : Nat} {c : Cx N} {Z M m h n X ps Z1 M1 m1 n1} (hP : PendR c Z M m h n X ps) (he : ExtV Z M Z1 M1) (hn : n ≤ n1) (hd : ∀ b, b < n → m b = none → m1 b = none) : PendR c Z1 M1 m1 h n1 X ps :=
 ⟨hP.nd, fun e h1 => let ⟨cells, h2, h3⟩ := hP.row e h1; ⟨cells, h2, h3.mono he⟩, fun a x h1 => let ⟨h2, h3, h4, h5⟩ := hP.dom a x h1; ⟨h2, by omega, hd a h3 h4, h5⟩, fun a h1 => let ⟨h2, h3⟩ := hP.xs a h1; ⟨by omega, h3⟩⟩
section
variable {N : Nat} {G : Prg} {tl : Tl} {L : List LB} {K : Tl → List LB → Prop} {ps : Ps} {l : List IOp}
theorem PendR.noX {c : Cx N} {Z M m h n X} (hP : PendR c Z M m h n X ps) : PendR c Z M m h n [] ps := ⟨hP.nd, hP.row, hP.dom, fun a ⟨_, e⟩ => nomatch e⟩
end
end Go.Proofs.YtoppcdecolponaaDoor.AL
namespace Go.Proofs.YtoppcdecolponaaDoor.AL
open Go
set_option linter.unusedVariables false
section
variable {G : Prg} {q : Bool} {tl : List (Nat × V)} {L : List LB}
theorem o_cvbs1 {x : E} {b : Nat} {k : Int} (hx : evE tl x = some (.ls b 1)) (hb : L[b]? = some (.arr 1 [[.w (.int .u8 k)]])) (hk : 0 ≤ k ∧ k < 256) :
 OpV G q (.cvbs x) tl L (some (.w (.string ⟨#[UInt8.ofNat k.toNat]⟩))) L :=
 .same fun N c Z M tm m n hM hS => by
  obtain ⟨a, ha⟩ := hM.getZ hb
  have h1 := (evE_rel hS hx).ls_inv ha rfl
  cases a with
  | none => obtain ⟨k', e⟩ := hM.nil _ _ ha; cases e
  | some ad =>
    obtain ⟨_, _, cells, hm, rows', rfl, hl, hall, hpt, hn⟩ := hM.cell _ _ _ ha
    match rows', hl with
    | [r], _ =>
      have h2 := hpt 0 _ r rfl rfl
      obtain ⟨y, r2, rfl, e1, e2⟩ := h2.uncons
      rw [e2.unnil] at hm
      cases e1
      refine ⟨_, fun _ => ?_, .fz (.w rfl)⟩
      simp only [stepO, h1, slOf]
      simp [AL.rdn, hm, bytesV, hk]
end
end Go.Proofs.YtoppcdecolponaaDoor.AL
namespace Go.Proofs.YtoppcdecolponaaDoor.AL
open Go
set_option linter.unusedVariables false
def byR (b : UInt8) : List V := [.w (.int .u8 (b.toNat : Int))]
theorem str_at (a : List UInt8) (i : Nat) : (ByteArray.mk a.toArray)[i]? = a[i]? := by
 by_cases h : i < a.length
 · have h2 : i < (ByteArray.mk a.toArray).size := h
   rw [getElem?_pos _ i h2, List.getElem?_eq_getElem h]
   congr 1
 · have h2 : ¬ i < (ByteArray.mk a.toArray).size := h
   rw [getElem?_neg _ i h2, List.getElem?_eq_none (by omega)]
theorem str_list (a : List UInt8) : (ByteArray.mk a.toArray).toList = a := by rw [ByteArray.toList_eq]
theorem beq_dec (a b : List UInt8) : (a == b) = decide (a = b) := by
 by_cases h : a = b
 · subst h; simp
 · rw [decide_eq_false h, beq_eq_false_iff_ne]; exact h
theorem str_app (a b : List UInt8) : (ByteArray.mk a.toArray) ++ (ByteArray.mk b.toArray) = ByteArray.mk (a ++ b).toArray := by
 apply ByteArray.ext
 simp
theorem str_cut (a : List UInt8) (l h : Nat) : (ByteArray.mk a.toArray).extract l h = ByteArray.mk ((a.take h).drop l).toArray := by
 apply ByteArray.ext
 simp [List.drop_take]
section
variable {G : Prg} {q : Bool} {tl : List (Nat × V)} {L : List LB}
theorem o_adds {x y a b} (hx : evE tl x = some (.w (.string ⟨List.toArray a⟩))) (hy : evE tl y = some (.w (.string ⟨List.toArray b⟩))) (h : (a.length : Int) + b.length ≤ 9223372036854775807) :
 OpV G q (.bin .add x y) tl L (some (.w (.string ⟨(a ++ b).toArray⟩))) L :=
 o_bin hx hy (by
  have e : (((ByteArray.mk a.toArray).size + (ByteArray.mk b.toArray).size : Nat) : Int) = (a.length : Int) + b.length := by
   rw [show (ByteArray.mk a.toArray).size = a.length from rfl, show (ByteArray.mk b.toArray).size = b.length from rfl]; omega
  simp only [binv, e]
  rw [if_neg (by simp [IntKind.max, IntKind.bits, IntKind.signed]; omega), str_app]) rfl
theorem Ey {x y a b} (hx : evE tl x = some (.w (.string ⟨List.toArray a⟩))) (hy : evE tl y = some (.w (.string ⟨List.toArray b⟩))) : OpV G q (.bin .eql x y) tl L (some (.w (.bool (decide (a = b))))) L :=
 o_bin hx hy (by simp only [binv, str_list, beq_dec]) rfl
theorem o_neqs {x y a b} (hx : evE tl x = some (.w (.string ⟨List.toArray a⟩))) (hy : evE tl y = some (.w (.string ⟨List.toArray b⟩))) : OpV G q (.bin .neq x y) tl L (some (.w (.bool (decide (¬ a = b))))) L :=
 o_bin hx hy (by simp only [binv, str_list, beq_dec]; simp) rfl
theorem Ev {x a} (hx : evE tl x = some (.w (.string ⟨List.toArray a⟩))) : OpV G q (.lens x) tl L (some (.w (.int .i64 a.length))) L := o_lens hx
theorem o_ixb {x i a t j b} (hx : evE tl x = some (.w (.string ⟨List.toArray a⟩))) (hi : evE tl i = some (.w (.int t j))) (hj : 0 ≤ j) (hb : a[j.toNat]? = some b) : OpV G q (.ix x i) tl L (some (.w (.int .u8 b.toNat))) L :=
 o_ix hx hi hj (by rw [str_at]; exact hb)
theorem o_slsb {x lo hi l h a} (hx : evE tl x = some (.w (.string ⟨List.toArray a⟩))) (hh : bndV tl (a.length : Nat) hi = some h) (hl : bndV tl (0 : Nat) lo = some l) (hb : 0 ≤ l ∧ l ≤ h ∧ h ≤ a.length) :
 OpV G q (.sls x lo hi) tl L (some (.w (.string ⟨((a.take h.toNat).drop l.toNat).toArray⟩))) L := by
 have := o_sls (G := G) (q := q) (L := L) hx hh hl hb
 rwa [str_cut] at this
theorem bytesV_map : ∀ (l : List UInt8), bytesV (l.map fun b => Value.int .u8 (b.toNat : Int)) = some l
 | [] => rfl
 | b :: l => by
   have hb := b.toNat_lt
   simp only [List.map_cons, bytesV, bytesV_map l]
   rw [if_pos (by omega)]
   simp
theorem flat_bytes {M} : ∀ (l : List UInt8) (rows' : List (List Value)), rows'.length = (l.map byR).length →
 (∀ (i : Nat) r r', (l.map byR)[i]? = some r → rows'[i]? = some r' → Pt (RF M) r r') → rows'.flatten = l.map fun b => Value.int .u8 (b.toNat : Int)
 | [], [], _, _ => rfl
 | [], _ :: _, h, _ => by simp at h
 | _ :: _, [], h, _ => by simp at h
 | b :: l, r :: rs, h, hp => by
   obtain ⟨y, r2, rfl, e1, e2⟩ := (hp 0 _ r rfl rfl).uncons
   rw [e2.unnil]
   cases e1
   rw [List.flatten_cons, flat_bytes l rs (by simpa using h) fun i r r' h1 h2 => hp (i + 1) r r' h1 h2]
   rfl
theorem o_cvbsb {x : E} {b n : Nat} {l : List UInt8} (hx : evE tl x = some (.ls b n)) (hb : L[b]? = some (.arr 1 (l.map byR))) (hn : (l.map byR).length = n) :
 OpV G q (.cvbs x) tl L (some (.w (.string ⟨l.toArray⟩))) L :=
 .same fun N c Z M tm m n' hM hS => by
  obtain ⟨a, ha⟩ := hM.getZ hb
  have h1 := (evE_rel hS hx).ls_inv ha hn
  cases a with
  | none =>
    obtain ⟨k', e⟩ := hM.nil _ _ ha
    simp only [LB.arr.injEq, List.map_eq_nil_iff] at e
    have e2 := e.2
    subst e2
    subst hn
    refine ⟨_, fun _ => ?_, .fz (.w rfl)⟩
    simp only [stepO, h1, slOf]
  | some ad =>
    obtain ⟨_, _, cells, hm, rows', rfl, hl, hall, hpt, hnn⟩ := hM.cell _ _ _ ha
    have key := flat_bytes l rows' hl hpt
    rw [key] at hm
    refine ⟨_, fun _ => ?_, .fz (.w rfl)⟩
    simp only [stepO, h1, slOf]
    have hlen : (l.map fun b => Value.int .u8 (b.toNat : Int)).length = n := by rw [List.length_map, ← hn, List.length_map]
    have e : AL.rdn m ⟨ad, 0, none⟩ n = some (l.map fun b => Value.int .u8 (b.toNat : Int)) := by
     simp only [AL.rdn, hm, Option.isSome_none, Bool.false_eq_true, if_false]
     rw [if_pos (by simp only [hlen]; omega), List.drop_zero, List.take_of_length_le (by omega)]
    rw [e]
    simp only [bytesV_map]
end
section
variable {N : Nat} {G : Prg} {q : Bool} {tl : Tl} {L : List LB} {K : Tl → List LB → Prop} {l : List IOp} {d : Nat}
theorem s_ixM {x i a t j} (hx : evE tl x = some (.w (.string ⟨List.toArray a⟩))) (hi : evE tl i = some (.w (.int t j))) (hj : 0 ≤ j ∧ j < (a.length : Int))
 (k : ∀ y : UInt8, a[j.toNat]? = some y → VO N G l K ((d, .w (.int .u8 (y.toNat : Int))) :: tl) L) : VO N G (⟨some d, .ix x i, none, q⟩ :: l) K tl L := by
 have h : j.toNat < a.length := by omega
 exact Ea (o_ixb hx hi hj.1 (List.getElem?_eq_getElem h)) (k _ (List.getElem?_eq_getElem h))
end
theorem pt_w {M : Mem} : ∀ {vs args : List Value}, Pt (RF M) (vs.map V.w) args → args = vs
 | [], args, h => h.unnil
 | v :: vs, args, h => by
   obtain ⟨x, r, rfl, h1, h2⟩ := h.uncons
   rw [pt_w h2, show x = v from (RL.fz (Z := []) h1).w_inv.1]
theorem cv_nat {G : Prg} {f : Nat} (vs : List Value) {v : Value} {u : V} (h : AL.nat f vs = some v) (hr : ∀ M, RF M u v) : CV G f (vs.map V.w) (fun x => x = u) :=
 ⟨fun args bs m n Ma hF hb hs hp => by
   rw [pt_w hp]
   exact ⟨v, m, n, .callN h, u, fun _ => none, hr _, rfl, sub_refl _, (fun b x e => by cases e), (fun b x e => by cases e)⟩⟩
theorem rf_two {M : Mem} {a : Int} {b : Bool} : RF M (.tup [.w (.int .i64 a), .w (.bool b)]) (.tuple #[.int .i64 a, .bool b]) :=
 .tup rfl fun i x y h1 h2 => by
  match i with
  | 0 => cases h1; cases h2; exact .w rfl
  | 1 => cases h1; cases h2; exact .w rfl
  | i + 2 => simp at h1
theorem cn_408 {G : Prg} (s : List UInt8) (d : Int) (hs : s.length ≤ 140737488355328) : CV G 408 [.w (.string ⟨s.toArray⟩), .w (.int .i64 d)] (fun v => v = .tup [.w (.int .i64 (numN s d).1), .w (.bool (numN s d).2)]) :=
 cv_nat [.string ⟨s.toArray⟩, .int .i64 d] (by
  show natS 408 ⟨s.toArray⟩ (.int .i64 d) = _
  have e : (ByteArray.mk s.toArray).size = s.length := rfl
  simp only [natS, e, hs, and_self, if_true]) fun M => rf_two
theorem cn_272 {G : Prg} (n : Int) (h : -9223372036854775808 ≤ n ∧ n ≤ 9223372036854775807) : CV G 272 [.w (.int .i64 n)] (fun v => v = .w (.string ⟨(Lib.itoa n).toArray⟩)) :=
 cv_nat [.int .i64 n] (v := .string ⟨(Lib.itoa n).toArray⟩) (by simp only [AL.nat, h, and_self, if_true]) fun M => .w rfl
theorem cn_273 {G : Prg} (s : List UInt8) (c : UInt8) : CV G 273 [.w (.string ⟨s.toArray⟩), .w (.int .u8 (c.toNat : Int))] (fun v => v = .w (.int .i64 (Lib.indexByte s c))) :=
 cv_nat [.string ⟨s.toArray⟩, .int .u8 (c.toNat : Int)] (by
  show natS 273 ⟨s.toArray⟩ (.int .u8 (c.toNat : Int)) = some (.int .i64 (Lib.indexByte s c))
  simp [natS]) fun M => .w rfl
end Go.Proofs.YtoppcdecolponaaDoor.AL
namespace Go.Proofs.YtoppcdecolponaaDoor.AL
open Go
set_option linter.unusedVariables false
def i64 (x : Int) : Prop := -9223372036854775808 ≤ x ∧ x ≤ 9223372036854775807
structure MConf where
 weight : Int
 prio : Bool
 every : Int
 cap : Int
 deriving DecidableEq
def MConf.wf (x : MConf) : Prop := i64 x.weight ∧ i64 x.every ∧ i64 x.cap
structure Bucket where
 tokens : Int
 count : Int
 deriving DecidableEq
def Bucket.wf (x : Bucket) : Prop := i64 x.tokens ∧ i64 x.count
structure Wrr where
 pos : Int
 credit : Int
 deriving DecidableEq
def Wrr.wf (x : Wrr) : Prop := i64 x.pos ∧ i64 x.credit
structure Beat where
 live : Bool
 who : Int
 num : Int
 first : Bool
 via : Int
 left : Int
 resp : Int
 second : Bool
 deriving DecidableEq
def Beat.wf (x : Beat) : Prop := i64 x.who ∧ i64 x.num ∧ i64 x.via ∧ i64 x.left ∧ i64 x.resp
structure Done where
 cycle : Int
 who : Int
 write : Bool
 addr : Int
 size : Int
 value : Int
 resp : Int
 deriving DecidableEq
def Done.wf (x : Done) : Prop := i64 x.cycle ∧ i64 x.who ∧ i64 x.addr ∧ i64 x.size ∧ i64 x.value ∧ i64 x.resp
structure Wave where
 cycle : Int
 addr : Int
 kind : Int
 who : Int
 data : Int
 src : Int
 ready : Bool
 resp : Int
 got : Int
 deriving DecidableEq
def Wave.wf (x : Wave) : Prop := i64 x.cycle ∧ i64 x.addr ∧ i64 x.kind ∧ i64 x.who ∧ i64 x.data ∧ i64 x.src ∧ i64 x.resp ∧ i64 x.got
structure Apb where
 state : Int
 left : Int
 deriving DecidableEq
def Apb.wf (x : Apb) : Prop := i64 x.state ∧ i64 x.left
structure Req where
 write : Bool
 addr : Int
 size : Int
 burst : Int
 lock : Bool
 data : List Int
 deriving DecidableEq
def Req.wf (x : Req) : Prop := i64 x.addr ∧ i64 x.size ∧ i64 x.burst ∧ (x.data.length ≤ 140737488355328 ∧ ∀ y, y ∈ x.data → i64 y)
structure Conf where
 masters : List MConf
 quantum : Int
 maxWait : Int
 maxRetry : Int
 maxSplit : Int
 lockMost : Int
 deriving DecidableEq
def Conf.wf (x : Conf) : Prop := (x.masters.length ≤ 140737488355328 ∧ ∀ y, y ∈ x.masters → MConf.wf y) ∧ i64 x.quantum ∧ i64 x.maxWait ∧ i64 x.maxRetry ∧ i64 x.maxSplit ∧ i64 x.lockMost
structure Post where
 moment : Int
 who : Int
 req : Req
 deriving DecidableEq
def Post.wf (x : Post) : Prop := i64 x.moment ∧ i64 x.who ∧ Req.wf x.req
structure Script where
 posts : List Post
 waits : List Int
 says : List Int
 deriving DecidableEq
def Script.wf (x : Script) : Prop := (x.posts.length ≤ 140737488355328 ∧ ∀ y, y ∈ x.posts → Post.wf y) ∧ (x.waits.length ≤ 140737488355328 ∧ ∀ y, y ∈ x.waits → i64 y) ∧ (x.says.length ≤ 140737488355328 ∧ ∀ y, y ∈ x.says → i64 y)
structure Dev where
 regs : List Int
 timer : Int
 fifo : List Int
 deriving DecidableEq
def Dev.wf (x : Dev) : Prop := (x.regs.length ≤ 140737488355328 ∧ ∀ y, y ∈ x.regs → i64 y) ∧ i64 x.timer ∧ (x.fifo.length ≤ 140737488355328 ∧ ∀ y, y ∈ x.fifo → i64 y)
structure Model where
 ram : List Int
 dev : Dev
 deriving DecidableEq
def Model.wf (x : Model) : Prop := (x.ram.length ≤ 140737488355328 ∧ ∀ y, y ∈ x.ram → i64 y) ∧ Dev.wf x.dev
structure Mst where
 queue : List Req
 beat : Int
 done : Int
 tries : Int
 parted : Bool
 broken : Bool
 deriving DecidableEq
def Mst.wf (x : Mst) : Prop := (x.queue.length ≤ 140737488355328 ∧ ∀ y, y ∈ x.queue → Req.wf y) ∧ i64 x.beat ∧ i64 x.done ∧ i64 x.tries
structure Bus where
 conf : Conf
 now : Int
 ms : List Mst
 arb : Wrr
 buckets : List Bucket
 splits : List Int
 holder : Int
 kept : Int
 last : Int
 addr : Beat
 data : Beat
 model : Model
 picks : Int
 log : List Done
 deriving DecidableEq
def Bus.wf (x : Bus) : Prop := Conf.wf x.conf ∧ i64 x.now ∧ (x.ms.length ≤ 140737488355328 ∧ ∀ y, y ∈ x.ms → Mst.wf y) ∧ Wrr.wf x.arb ∧ (x.buckets.length ≤ 140737488355328 ∧ ∀ y, y ∈ x.buckets → Bucket.wf y) ∧ (x.splits.length ≤ 140737488355328 ∧ ∀ y, y ∈ x.splits → i64 y) ∧ i64 x.holder ∧ i64 x.kept ∧ i64 x.last ∧ Beat.wf x.addr ∧ Beat.wf x.data ∧ Model.wf x.model ∧ i64 x.picks ∧ (x.log.length ≤ 140737488355328 ∧ ∀ y, y ∈ x.log → Done.wf y)
end Go.Proofs.YtoppcdecolponaaDoor.AL
namespace Go.Proofs.YtoppcdecolponaaDoor.AL
open Go
set_option linter.unusedVariables false
def iR (x : Int) : List V := [.w (.int .i64 x)]
def bR (x : Bool) : List V := [.w (.bool x)]
def uR (x : Int) : List V := [.w (.int .u8 x)]
abbrev u8 (x : Int) : Prop := 0 ≤ x ∧ x ≤ 255
def MConf.r (x : MConf) : List V := [.w (.int .i64 x.weight), .w (.bool x.prio), .w (.int .i64 x.every), .w (.int .i64 x.cap)]
def Bucket.r (x : Bucket) : List V := [.w (.int .i64 x.tokens), .w (.int .i64 x.count)]
def Wrr.r (x : Wrr) : List V := [.w (.int .i64 x.pos), .w (.int .i64 x.credit)]
def Beat.r (x : Beat) : List V := [.w (.bool x.live), .w (.int .i64 x.who), .w (.int .i64 x.num), .w (.bool x.first), .w (.int .i64 x.via), .w (.int .i64 x.left), .w (.int .i64 x.resp), .w (.bool x.second)]
def Done.r (x : Done) : List V := [.w (.int .i64 x.cycle), .w (.int .i64 x.who), .w (.bool x.write), .w (.int .i64 x.addr), .w (.int .i64 x.size), .w (.int .i64 x.value), .w (.int .i64 x.resp)]
def Wave.r (x : Wave) : List V := [.w (.int .i64 x.cycle), .w (.int .i64 x.addr), .w (.int .i64 x.kind), .w (.int .i64 x.who), .w (.int .i64 x.data), .w (.int .i64 x.src), .w (.bool x.ready), .w (.int .i64 x.resp), .w (.int .i64 x.got)]
def Apb.r (x : Apb) : List V := [.w (.int .i64 x.state), .w (.int .i64 x.left)]
def Req.r (x : Req) : List V := [.w (.bool x.write), .w (.int .i64 x.addr), .w (.int .i64 x.size), .w (.int .i64 x.burst), .w (.bool x.lock), .sl 1 (x.data.map iR)]
def Conf.r (x : Conf) : List V := [.sl 4 (x.masters.map MConf.r), .w (.int .i64 x.quantum), .w (.int .i64 x.maxWait), .w (.int .i64 x.maxRetry), .w (.int .i64 x.maxSplit), .w (.int .i64 x.lockMost)]
def Post.r (x : Post) : List V := [.w (.int .i64 x.moment), .w (.int .i64 x.who), .w (.bool x.req.write), .w (.int .i64 x.req.addr), .w (.int .i64 x.req.size), .w (.int .i64 x.req.burst), .w (.bool x.req.lock), .sl 1 (x.req.data.map iR)]
def Script.r (x : Script) : List V := [.sl 8 (x.posts.map Post.r), .sl 1 (x.waits.map iR), .sl 1 (x.says.map iR)]
def Dev.r (x : Dev) : List V := [.sl 1 (x.regs.map iR), .w (.int .i64 x.timer), .sl 1 (x.fifo.map iR)]
def Model.r (x : Model) : List V := [.sl 1 (x.ram.map iR), .sl 1 (x.dev.regs.map iR), .w (.int .i64 x.dev.timer), .sl 1 (x.dev.fifo.map iR)]
def Mst.r (x : Mst) : List V := [.sl 6 (x.queue.map Req.r), .w (.int .i64 x.beat), .w (.int .i64 x.done), .w (.int .i64 x.tries), .w (.bool x.parted), .w (.bool x.broken)]
def Bus.r (x : Bus) : List V := [.sl 4 (x.conf.masters.map MConf.r), .w (.int .i64 x.conf.quantum), .w (.int .i64 x.conf.maxWait), .w (.int .i64 x.conf.maxRetry), .w (.int .i64 x.conf.maxSplit), .w (.int .i64 x.conf.lockMost), .w (.int .i64 x.now), .sl 6 (x.ms.map Mst.r), .w (.int .i64 x.arb.pos), .w (.int .i64 x.arb.credit), .sl 2 (x.buckets.map Bucket.r), .sl 1 (x.splits.map iR), .w (.int .i64 x.holder), .w (.int .i64 x.kept), .w (.int .i64 x.last), .w (.bool x.addr.live), .w (.int .i64 x.addr.who), .w (.int .i64 x.addr.num), .w (.bool x.addr.first), .w (.int .i64 x.addr.via), .w (.int .i64 x.addr.left), .w (.int .i64 x.addr.resp), .w (.bool x.addr.second), .w (.bool x.data.live), .w (.int .i64 x.data.who), .w (.int .i64 x.data.num), .w (.bool x.data.first), .w (.int .i64 x.data.via), .w (.int .i64 x.data.left), .w (.int .i64 x.data.resp), .w (.bool x.data.second), .sl 1 (x.model.ram.map iR), .sl 1 (x.model.dev.regs.map iR), .w (.int .i64 x.model.dev.timer), .sl 1 (x.model.dev.fifo.map iR), .w (.int .i64 x.picks), .sl 7 (x.log.map Done.r)]
end Go.Proofs.YtoppcdecolponaaDoor.AL
namespace Go.Proofs.YtoppcdecolponaaDoor.AL
open Go
set_option linter.unusedVariables false
theorem take_get {α : Type} {xs : List α} {i : Nat} {y : α} (h : xs[i]? = some y) : xs.take (i + 1) = xs.take i ++ [y] := by
 rw [List.take_add_one, h]; rfl
theorem take_end {α : Type} {xs : List α} {i : Nat} (h : xs.length ≤ i) : xs.take i = xs := List.take_of_length_le h
def inB (x a b : Int) : Bool := decide (a ≤ x) && decide (x ≤ b)
theorem inB_t {x a b : Int} (h : inB x a b = true) : a ≤ x ∧ x ≤ b := by simpa [inB] using h
theorem inB_f {x a b : Int} (h : inB x a b = false) : x < a ∨ b < x := by simp [inB] at h; omega
def room (left : Int) (n : Nat) : Int := max (left - n) (-1)
def sumL {α : Type} (f : α → Nat) : List α → Nat
 | [] => 0
 | x :: l => f x + sumL f l
theorem sumL_mem {α : Type} (f : α → Nat) {xs : List α} {y : α} (h : y ∈ xs) : f y ≤ sumL f xs := by
 induction xs with
 | nil => cases h
 | cons x xs ih =>
   simp only [List.mem_cons] at h
   simp only [sumL]
   rcases h with rfl | h
   · omega
   · have := ih h; omega
end Go.Proofs.YtoppcdecolponaaDoor.AL
namespace Go.Proofs.YtoppcdecolponaaDoor.AL
open Go
set_option linter.unusedVariables false
def dig (b : UInt8) : Bool := decide (48 ≤ b.toNat) && decide (b.toNat ≤ 57)
theorem dig_iff {b : UInt8} : dig b = true ↔ 48 ≤ b.toNat ∧ b.toNat ≤ 57 := by
 unfold dig; rw [Bool.and_eq_true, decide_eq_true_eq, decide_eq_true_eq]
def valN (acc : Nat) (l : List UInt8) : Nat := l.foldl (fun n b => n * 10 + (b.toNat - 48)) acc
theorem valN_nil (acc) : valN acc [] = acc := rfl
theorem valN_cons (acc : Nat) (b : UInt8) (l : List UInt8) : valN acc (b :: l) = valN (acc * 10 + (b.toNat - 48)) l := by unfold valN; rw [List.foldl_cons]
theorem valN_app (acc l r) : valN acc (l ++ r) = valN (valN acc l) r := by simp [valN, List.foldl_append]
theorem valN_ge : ∀ (l : List UInt8) (acc : Nat), acc ≤ valN acc l
 | [], acc => Nat.le_refl _
 | b :: l, acc => by rw [valN_cons]; exact Nat.le_trans (by omega) (valN_ge l _)
theorem ofNat_dig {u : Nat} (h : u < 10) : (UInt8.ofNat (48 + u)).toNat = 48 + u := by simp; omega
theorem dec_all (u : Nat) : ∀ b, b ∈ Lib.decDigits u → dig b = true := by
 induction u using Nat.strongRecOn with
 | _ u ih =>
   intro b hb
   rw [Lib.decDigits] at hb
   split at hb
   · rename_i h
     simp only [List.mem_cons, List.not_mem_nil, or_false] at hb
     subst hb
     rw [dig_iff, ofNat_dig h]; omega
   · rename_i h
     simp only [List.mem_append, List.mem_cons, List.not_mem_nil, or_false] at hb
     rcases hb with hb | hb
     · exact ih (u / 10) (by omega) b hb
     · subst hb
       rw [dig_iff, ofNat_dig (Nat.mod_lt _ (by decide))]; omega
theorem dec_val (u : Nat) : valN 0 (Lib.decDigits u) = u := by
 induction u using Nat.strongRecOn with
 | _ u ih =>
   rw [Lib.decDigits]
   split
   · rename_i h
     rw [valN_cons, valN_nil, ofNat_dig h]; omega
   · rename_i h
     rw [valN_app, ih (u / 10) (by omega), valN_cons, valN_nil, ofNat_dig (Nat.mod_lt _ (by decide))]; omega
theorem dec_ne (u : Nat) : Lib.decDigits u ≠ [] := by
 rw [Lib.decDigits]; split <;> simp
theorem dec_len (u : Nat) : (Lib.decDigits u).length = Lib.nDigits u := by
 induction u using Nat.strongRecOn with
 | _ u ih =>
   rw [Lib.decDigits, Lib.nDigits]
   split
   · rfl
   · rw [List.length_append, ih (u / 10) (by omega)]; rfl
theorem dec_head (u : Nat) : ∃ b r, Lib.decDigits u = b :: r ∧ dig b = true := by
 cases h : Lib.decDigits u with
 | nil => exact absurd h (dec_ne u)
 | cons b r => exact ⟨b, r, rfl, dec_all u b (by rw [h]; simp)⟩
theorem parse_dec : ∀ (l : List UInt8) (acc : Nat), (∀ b, b ∈ l → dig b = true) → valN acc l < 18446744073709551616 → Lib.parseUint10 acc l = .ok (valN acc l)
 | [], acc, _, _ => rfl
 | b :: l, acc, h, hv => by
   have hb := dig_iff.1 (h b (by simp))
   rw [valN_cons] at hv ⊢
   have := valN_ge l (acc * 10 + (b.toNat - 48))
   rw [Lib.parseUint10, if_pos ⟨hb.1, hb.2⟩, if_neg (by omega), if_neg (by omega)]
   exact parse_dec l _ (fun x hx => h x (by simp [hx])) hv
theorem parse_mag (u : Nat) (h : u < 18446744073709551616) : Lib.parseMag (Lib.decDigits u) = .ok u := by
 rw [Lib.parseMag, if_neg (dec_ne u), parse_dec _ _ (dec_all u) (by rw [dec_val]; exact h), dec_val]
theorem atoi_itoa (n : Int) (h : -9223372036854775808 ≤ n ∧ n ≤ 9223372036854775807) : Lib.atoiAll (Lib.itoa n) = .ok n := by
 unfold Lib.itoa
 split
 · rename_i hn
   have e : (45 : UInt8).toNat = 45 := rfl
   simp only [Lib.atoiAll, e, or_true, if_true, parse_mag n.natAbs (by omega)]
   rw [if_neg (by simp), if_neg (by simp; omega)]
   simp; omega
 · rename_i hn
   obtain ⟨b, r, hbr, hd⟩ := dec_head n.toNat
   have hd := dig_iff.1 hd
   have hp := parse_mag n.toNat (by omega)
   rw [hbr] at hp ⊢
   simp only [Lib.atoiAll]
   rw [if_neg (by omega), hp]
   simp only
   rw [if_neg (by omega), if_neg (by omega), if_neg (by omega)]
   congr 1; omega
end Go.Proofs.YtoppcdecolponaaDoor.AL
namespace Go.Proofs.YtoppcdecolponaaDoor.AL
open Go
set_option linter.unusedVariables false
theorem wrap_u8 (x : Int) : 0 ≤ IntKind.wrap .u8 x ∧ IntKind.wrap .u8 x < 256 := by
 have e : IntKind.wrap .u8 x = x % 256 := rfl
 rw [e]; omega
theorem wrap_u8_in {x : Int} (h : 0 ≤ x ∧ x < 256) : IntKind.wrap .u8 x = x := by
 have e : IntKind.wrap .u8 x = x % 256 := rfl
 rw [e]; omega
theorem byR_of (v : Int) : byR (UInt8.ofNat (IntKind.wrap .u8 v).toNat) = [.w (.int .u8 (IntKind.wrap .u8 v))] := by
 have h := wrap_u8 v
 have e : (UInt8.ofNat (IntKind.wrap .u8 v).toNat).toNat = (IntKind.wrap .u8 v).toNat := by simp; omega
 rw [byR, e]
 congr 3; omega
theorem byR_snoc (out : List UInt8) (v : Int) : (out ++ [UInt8.ofNat (IntKind.wrap .u8 v).toNat]).map byR = out.map byR ++ [[.w (.int .u8 (IntKind.wrap .u8 v))]] := by
 rw [List.map_append, List.map_cons, byR_of]; rfl
theorem itoa_n {n : Int} (h : n < 0) : Lib.itoa n = 45 :: Lib.decDigits n.natAbs := by unfold Lib.itoa; rw [if_pos h]
theorem itoa_p {n : Int} (h : ¬ n < 0) : Lib.itoa n = Lib.decDigits n.natAbs := by unfold Lib.itoa; rw [if_neg h]; congr 1; omega
theorem itoa_len {n : Int} (hb : -9223372036854775808 ≤ n ∧ n ≤ 9223372036854775807) : (Lib.itoa n).length ≤ 21 := Lib.itoa_length_le n hb.1 hb.2
theorem dig45 : dig 45 = false := rfl
def stripM (l : List UInt8) : List UInt8 := match l with
 | 45 :: r => r
 | _ => l
theorem numN_eq (l : List UInt8) (d : Int) : numN l d = match Lib.atoiAll l with
 | .ok v => if Lib.itoa v = l ∧ ((stripM l).length : Int) ≤ d then (v, true) else (0, false)
 | _ => (0, false) := rfl
theorem strip_no {b : UInt8} {r : List UInt8} (h : b ≠ 45) : stripM (b :: r) = b :: r := by
 unfold stripM
 split
 · rename_i e; cases e; exact absurd rfl h
 · rfl
theorem strip_itoa (n : Int) : stripM (Lib.itoa n) = Lib.decDigits n.natAbs := by
 by_cases h : n < 0
 · rw [itoa_n h]; rfl
 · rw [itoa_p h]
   obtain ⟨b, r, e, hd⟩ := dec_head n.natAbs
   rw [e]
   exact strip_no fun e2 => by subst e2; rw [dig45] at hd; cases hd
theorem numN_itoa {n : Int} (hb : -9223372036854775808 ≤ n ∧ n ≤ 9223372036854775807) (d : Int) : numN (Lib.itoa n) d = if ((Lib.decDigits n.natAbs).length : Int) ≤ d then (n, true) else (0, false) := by
 rw [numN_eq, atoi_itoa n hb]
 simp only [true_and]
 rw [strip_itoa]
end Go.Proofs.YtoppcdecolponaaDoor.AL
namespace Go.Proofs.YtoppcdecolponaaDoor.AL
open Go
def Conf.cost (c : Conf) : Int := if inB c.maxRetry 0 3 && inB c.maxWait 0 3 then (c.maxRetry + 2) * (c.maxWait + 6) else 0
def Conf.slot (c : Conf) : Int := if c.cost = 0 ∨ inB c.lockMost 1 40 = false then 0 else 2 * c.cost + c.lockMost
def priosOf (l : List MConf) : Nat := l.countP (·.prio)
def Conf.least (c : Conf) : Int := 2 * c.slot * (priosOf c.masters : Int)
def MConf.ok (l : Int) (m : MConf) : Bool :=
 inB m.weight 1 4 && (if m.prio then inB m.every l 1000 && inB m.cap 1 8 else decide (m.every = 0) && decide (m.cap = 0))
def Conf.ok (c : Conf) : Bool :=
 inB c.masters.length 1 4 && inB c.quantum 1 4 && inB c.maxSplit 1 12 && decide (c.slot ≠ 0) && c.masters.all (MConf.ok c.least)
def Conf.turn (c : Conf) (who : Int) : Int := if c.ok && inB who 0 (c.masters.length - 1) then IntKind.wrap .i64 ((match c.masters[who.toNat]? with | some m => m.weight | none => 0) * c.quantum) else 0
def caps1 (slot : Int) (s : Int) (m : MConf) : Int := if m.prio then IntKind.wrap .i64 (s + IntKind.wrap .i64 (IntKind.wrap .i64 (m.cap + 1) * slot)) else s
def Conf.caps (c : Conf) : Int := c.masters.foldl (caps1 c.slot) 0
def Conf.first (c : Conf) : Int := if c.ok then IntKind.wrap .i64 (IntKind.wrap .i64 (2 * IntKind.wrap .i64 (c.caps + c.slot)) + 10) else 0
def Wrr.ok (w : Wrr) (c : Conf) : Bool := c.ok && inB w.pos 0 (c.masters.length - 1) && inB w.credit 0 (c.turn w.pos)
end Go.Proofs.YtoppcdecolponaaDoor.AL
namespace Go.Proofs.YtoppcdecolponaaDoor.AL
open Go
open Go.ChangeShapes Go.WideShapes Go.RowKit
set_option linter.unusedVariables false
set_option linter.unusedSimpArgs false
structure VR {α : Type} (r : α → List V) (wf : α → Prop) (m : Mem) (x : α) (vs : List Value) : Prop where
 pt : Pt (RF m) (r x) vs
 nar : ∀ u, u ∈ r x → u.nar = true
 wf : wf x
theorem VR.mono {α : Type} {r : α → List V} {wf : α → Prop} : Mono (VR r wf) := fun m m1 x vs h hs => ⟨h.pt.mono fun _ _ => RF.mono hs, h.nar, h.wf⟩
theorem VR.int {m : Mem} {x : Int} {vs : List Value} (h : RInt .i64 m x vs) : VR iR i64 m x vs := by
 obtain ⟨rfl, hw⟩ := h
 refine ⟨Pt.cons (.w rfl) Pt.nil, fun u hu => by simp [iR] at hu; subst hu; rfl, ?_⟩
 simp [Lit.wf, IntKind.min, IntKind.max, IntKind.bits, IntKind.signed] at hw
 unfold AL.i64
 omega
theorem VR.byte {m : Mem} {x : Int} {vs : List Value} (h : RInt .u8 m x vs) : VR uR u8 m x vs := by
 obtain ⟨rfl, hw⟩ := h
 refine ⟨Pt.cons (.w rfl) Pt.nil, fun u hu => by simp [uR] at hu; subst hu; rfl, ?_⟩
 simp [Lit.wf, IntKind.min, IntKind.max, IntKind.bits, IntKind.signed] at hw
 unfold AL.u8
 omega
theorem VR.bool {m : Mem} {x : Bool} {vs : List Value} (h : RBool m x vs) : VR bR (fun _ => True) m x vs := by
 cases h
 exact ⟨Pt.cons (.w rfl) Pt.nil, fun u hu => by simp [bR] at hu; subst hu; rfl, trivial⟩
def slR {α : Type} (k : Nat) (r : α → List V) (xs : List α) : List V := [.sl k (xs.map r)]
theorem VR.sl {α : Type} {k : Nat} {r : α → List V} {wf : α → Prop} {m : Mem} {xs : List α} {vs : List Value} (h : RSl k (VR r wf) m xs vs) : VR (slR k r) (fun xs => xs.length ≤ 140737488355328 ∧ ∀ y, y ∈ xs → wf y) m xs vs := by
 obtain ⟨a, c, rows, rfl, hc, hr, hl, hx, hb⟩ := h
 have hx' : ∀ (i : Nat) (u : List V) r', (xs.map r)[i]? = some u → rows[i]? = some r' → Pt (RF m) u r' ∧ ∀ v, v ∈ u → v.nar = true := by
  intro i u r' h1 h2
  rw [List.getElem?_map] at h1
  cases e : xs[i]? with
  | none => rw [e] at h1; cases h1
  | some x =>
    rw [e] at h1; cases h1
    have := hx i x r' e h2
    exact ⟨this.pt, this.nar⟩
 have he : (xs.map r).length = xs.length := by simp
 have hsl : RF m (.sl k (xs.map r)) (.slice a (xs.map r).length c) := by
  have hr' : ∀ (i : Nat) u, (xs.map r)[i]? = some u → ∃ r', rows[i]? = some r' := fun i u h => by
   have := (List.getElem?_eq_some_iff.1 h).1
   exact ⟨_, List.getElem?_eq_getElem (by omega)⟩
  refine .sl (by omega) hr (by omega) (fun i u j x h1 h2 => ?_) (fun i u r' h1 h2 => (hx' i u r' h1 h2).1.1) (fun i u r' j x y h1 h2 h3 h4 => (hx' i u r' h1 h2).1.2 j x y h3 h4)
  obtain ⟨r', h3⟩ := hr' i u h1
  exact (hx' i u r' h1 h3).2 x (List.mem_of_getElem? h2)
 rw [he] at hsl
 refine ⟨Pt.cons hsl Pt.nil, fun u hu => by simp [slR] at hu; subst hu; rfl, by simpa using hb, fun y hy => ?_⟩
 obtain ⟨i, hi⟩ := List.mem_iff_getElem?.1 hy
 have hi2 : i < rows.length := by have := (List.getElem?_eq_some_iff.1 hi).1; omega
 exact (hx i y _ hi (List.getElem?_eq_getElem hi2)).wf
theorem VR.nil {m : Mem} {x : Unit} {vs : List Value} (h : RNil m x vs) : VR (fun _ : Unit => []) (fun _ => True) m x vs := by
 cases h
 exact ⟨Pt.nil, by simp, trivial⟩
theorem VR.cons {α γ : Type} {r1 : α → List V} {w1 : α → Prop} {r2 : γ → List V} {w2 : γ → Prop} {R2 : Mem → γ → List Value → Prop} {m : Mem} {x : α × γ} {vs : List Value} (h : RCons (VR r1 w1) R2 m x vs) (k : ∀ vs', R2 m x.2 vs' → VR r2 w2 m x.2 vs') :
 VR (fun p : α × γ => r1 p.1 ++ r2 p.2) (fun p => w1 p.1 ∧ w2 p.2) m x vs := by
 obtain ⟨v1, v2, rfl, h1, h2⟩ := h
 have h2 := k _ h2
 refine ⟨h1.pt.append h2.pt, fun u hu => ?_, h1.wf, h2.wf⟩
 rcases List.mem_append.1 hu with hu | hu
 · exact h1.nar u hu
 · exact h2.nar u hu
section
variable {H : Type} {enc : TypeId × Value → H} {P : Program} {no : No} {W : World}
theorem VO.int {t : TypeId} (ht : P.underlying t = some (.int .i64)) : Opn enc P no W t (VR iR i64) := (Opn.int ht).imp fun m x vs h => ⟨x, VR.int h⟩
theorem VO.byte {t : TypeId} (ht : P.underlying t = some (.int .u8)) : Opn enc P no W t (VR uR u8) := (Opn.int ht).imp fun m x vs h => ⟨x, VR.byte h⟩
theorem VO.bool {t : TypeId} (ht : P.underlying t = some .bool) : Opn enc P no W t (VR bR fun _ => True) := (Opn.bool ht).imp fun m x vs h => ⟨x, VR.bool h⟩
theorem VO.slice {α : Type} {t e : TypeId} {k : Nat} {r : α → List V} {wf : α → Prop} (ht : P.underlying t = some (.slice e)) (hk : P.cellsOf e = k) (hk0 : 0 < k) (hb : 0 < P.bytesOf e)
 (h : Opn enc P no W e (VR r wf)) : Opn enc P no W t (VR (slR k r) fun xs => xs.length ≤ 140737488355328 ∧ ∀ y, y ∈ xs → wf y) := (Opn.slice VR.mono ht hk hk0 hb h).imp fun m x vs h => ⟨x, VR.sl h⟩
theorem Pt.word {R : V → Value → Prop} {u : V} {v : Value} (h : Pt R [u] [v]) : R u v := h.2 0 _ _ rfl rfl
theorem law_end {G : Prg} {f g : Nat} (hm : P.follows .mixedOrders = true) (hL : Link P no G) (hno : no f = some g) {β : Inj} {m : Mem} {n : Nat} (V : View no W β m n) {args : Array Value} {vals : List Value} {us : List AL.V}
 (hw : Wds no β n vals args.toList) (hp : Pt (RF m) us vals) (hc : CV G g us fun v => v = .w (.bool true)) : Calls P f args W fun e W' => e = .returned (.bool true) ∧ Below W.heap.size W W' := by
 refine law_run hm hL hno V hw ?_
 refine (hc.run vals n m n m V.mlt.fresh (Nat.le_refl _) (sub_refl _) hp).mono ?_
 rintro v m1 n1 ⟨u, M1, h1, rfl, _⟩
 cases h1
 rfl
end
end Go.Proofs.YtoppcdecolponaaDoor.AL
namespace Go.Proofs.YtoppcdecolponaaDoor.AL
open Go
set_option linter.unusedVariables false
end Go.Proofs.YtoppcdecolponaaDoor.AL
namespace Go.Proofs.YtoppcdecolponaaDoor.AL
open Go
set_option linter.unusedVariables false
def bor1 (a b : Int) : Int := IntKind.wrap .i64 ((BitVec.ofInt 64 a ||| BitVec.ofInt 64 b).toNat : Nat)
def band1 (a b : Int) : Int := IntKind.wrap .i64 ((BitVec.ofInt 64 a &&& BitVec.ofInt 64 b).toNat : Nat)
theorem ofInt_nat (m : Nat) (h : m < 18446744073709551616) : (BitVec.ofInt 64 (m : Int)).toNat = m := by
 rw [BitVec.ofInt_natCast, BitVec.toNat_ofNat]; exact Nat.mod_eq_of_lt h
theorem bor1_add {m x p : Nat} (hm : m < 2 ^ p) (h : m + 2 ^ p * x < 9223372036854775808) : bor1 (m : Int) ((2 ^ p * x : Nat) : Int) = ((m + 2 ^ p * x : Nat) : Int) := by
 have e : (BitVec.ofInt 64 (m : Int) ||| BitVec.ofInt 64 ((2 ^ p * x : Nat) : Int)).toNat = m + 2 ^ p * x := by
  rw [BitVec.toNat_or, ofInt_nat _ (by omega), ofInt_nat _ (by omega), Nat.or_comm, ← Nat.two_pow_add_eq_or_of_lt hm]; omega
 unfold bor1
 rw [e, wrap_in _ (by omega)]
theorem bor1_low {m x p : Nat} (hm : m < 2 ^ p) (h : m + 2 ^ p * x < 9223372036854775808) : bor1 ((2 ^ p * x : Nat) : Int) (m : Int) = ((m + 2 ^ p * x : Nat) : Int) := by
 have e : (BitVec.ofInt 64 ((2 ^ p * x : Nat) : Int) ||| BitVec.ofInt 64 (m : Int)).toNat = m + 2 ^ p * x := by
  rw [BitVec.toNat_or, ofInt_nat _ (by omega), ofInt_nat _ (by omega), ← Nat.two_pow_add_eq_or_of_lt hm]; omega
 unfold bor1
 rw [e, wrap_in _ (by omega)]
theorem band1_127 {m : Nat} (h : m < 9223372036854775808) : band1 (m : Int) 127 = ((m % 128 : Nat) : Int) := by
 have e : (BitVec.ofInt 64 (m : Int) &&& BitVec.ofInt 64 127).toNat = m % 128 := by
  rw [BitVec.toNat_and, ofInt_nat _ (by omega), show (BitVec.ofInt 64 127).toNat = 2 ^ 7 - 1 from rfl, Nat.and_two_pow_sub_one_eq_mod]
 unfold band1
 rw [e, wrap_in _ (by omega)]
def vb (n : Nat) : List UInt8 := if h : n < 128 then [UInt8.ofNat n] else UInt8.ofNat (128 + n % 128) :: vb (n / 128)
 termination_by n
 decreasing_by omega
theorem vb_small {n : Nat} (h : n < 128) : vb n = [UInt8.ofNat n] := by rw [vb, dif_pos h]
theorem vb_big {n : Nat} (h : ¬ n < 128) : vb n = UInt8.ofNat (128 + n % 128) :: vb (n / 128) := by rw [vb, dif_neg h]
theorem vb_ne (n : Nat) : vb n ≠ [] := by rw [vb]; split <;> simp
theorem vb_len : ∀ (k n : Nat), n < 128 ^ (k + 1) → (vb n).length ≤ k + 1
 | 0, n, h => by rw [vb_small (by simpa using h)]; simp
 | k + 1, n, h => by
   by_cases h1 : n < 128
   · rw [vb_small h1]; simp
   · rw [vb_big h1, List.length_cons]
     have := vb_len k (n / 128) (by rw [Nat.pow_succ] at h; omega)
     omega
def varS (n : Int) : List UInt8 := if 0 ≤ n ∧ n ≤ 562949953421311 then vb n.toNat else []
theorem varS_len (n : Int) : (varS n).length ≤ 7 := by
 unfold varS
 split
 · exact vb_len 6 _ (by omega)
 · simp
theorem varS_yes {n : Int} (h : 0 ≤ n ∧ n ≤ 562949953421311) : varS n = vb n.toNat := by rw [varS, if_pos h]
theorem varS_no {n : Int} (h : ¬ (0 ≤ n ∧ n ≤ 562949953421311)) : varS n = [] := by rw [varS, if_neg h]
def vl : List UInt8 → Nat
 | [] => 0
 | b :: l => b.toNat % 128 + 128 * vl l
theorem vl_lt : ∀ (l : List UInt8), vl l < 128 ^ l.length
 | [] => by simp [vl]
 | b :: l => by
   have := vl_lt l
   rw [List.length_cons, Nat.pow_succ, vl]
   have := Nat.mod_lt b.toNat (show 128 > 0 by decide)
   omega
theorem vl_snoc : ∀ (l : List UInt8) (b : UInt8), vl (l ++ [b]) = vl l + 128 ^ l.length * (b.toNat % 128)
 | [], b => by simp [vl]
 | a :: l, b => by
   have e : 128 * (128 ^ l.length * (b.toNat % 128)) = 128 ^ l.length * 128 * (b.toNat % 128) := by rw [Nat.mul_comm (128 ^ l.length) 128, Nat.mul_assoc]
   rw [List.cons_append, vl, vl_snoc l b, vl, List.length_cons, Nat.pow_succ, Nat.mul_add, e]; omega
def gd (q : List UInt8) : Prop := ∃ p b, q = p ++ [b] ∧ (∀ x, x ∈ p → 128 ≤ x.toNat) ∧ b.toNat < 128 ∧ (b.toNat ≠ 0 ∨ p = [])
theorem ofNat_toNat (b : UInt8) : UInt8.ofNat b.toNat = b := by simp
theorem vb_vl : ∀ (p : List UInt8) (b : UInt8), (∀ x, x ∈ p → 128 ≤ x.toNat) → b.toNat < 128 → (b.toNat ≠ 0 ∨ p = []) → vb (vl (p ++ [b])) = p ++ [b] ∧ (b.toNat ≠ 0 → 1 ≤ vl (p ++ [b]))
 | [], b, _, hb, _ => by
   have e : vl ([] ++ [b]) = b.toNat := by simp [vl]; omega
   rw [e, vb_small hb, ofNat_toNat]
   exact ⟨rfl, fun h => by omega⟩
 | a :: p, b, hp, hb, h0 => by
   have hb0 : b.toNat ≠ 0 := by
    rcases h0 with h | h
    · exact h
    · cases h
   obtain ⟨h1, h2⟩ := vb_vl p b (fun x hx => hp x (by simp [hx])) hb (.inl hb0)
   have ha := hp a (by simp)
   have ha2 := a.toNat_lt
   have h3 := h2 hb0
   have e : vl ((a :: p) ++ [b]) = a.toNat % 128 + 128 * vl (p ++ [b]) := rfl
   rw [e, vb_big (by omega)]
   have e1 : (a.toNat % 128 + 128 * vl (p ++ [b])) % 128 = a.toNat % 128 := by omega
   have e2 : (a.toNat % 128 + 128 * vl (p ++ [b])) / 128 = vl (p ++ [b]) := by omega
   rw [e1, e2, h1, show 128 + a.toNat % 128 = a.toNat by omega, ofNat_toNat]
   exact ⟨rfl, fun _ => by omega⟩
theorem gd_vb {q : List UInt8} (h : gd q) : vb (vl q) = q := by
 obtain ⟨p, b, rfl, h1, h2, h3⟩ := h
 exact (vb_vl p b h1 h2 h3).1
theorem vb_gd (n : Nat) : gd (vb n) ∧ vl (vb n) = n ∧ (n ≠ 0 → ∃ p b, vb n = p ++ [b] ∧ (∀ x, x ∈ p → 128 ≤ x.toNat) ∧ b.toNat < 128 ∧ b.toNat ≠ 0) := by
 induction n using Nat.strongRecOn with
 | _ n ih =>
   by_cases h : n < 128
   · have e : (UInt8.ofNat n).toNat = n := by simp; omega
     rw [vb_small h]
     refine ⟨⟨[], UInt8.ofNat n, rfl, by simp, by omega, .inr rfl⟩, by simp [vl]; omega, fun h0 => ⟨[], _, rfl, by simp, by omega, by omega⟩⟩
   · obtain ⟨_, h2, h3⟩ := ih (n / 128) (by omega)
     obtain ⟨p, b, e, hp, hb, hb0⟩ := h3 (by omega)
     have e1 : (UInt8.ofNat (128 + n % 128)).toNat = 128 + n % 128 := by simp; omega
     have hp2 : ∀ x, x ∈ UInt8.ofNat (128 + n % 128) :: p → 128 ≤ x.toNat := by
      intro x hx
      simp only [List.mem_cons] at hx
      rcases hx with rfl | hx
      · omega
      · exact hp x hx
     rw [vb_big h]
     refine ⟨⟨UInt8.ofNat (128 + n % 128) :: p, b, by rw [e]; rfl, hp2, hb, .inl hb0⟩, ?_, fun _ => ⟨UInt8.ofNat (128 + n % 128) :: p, b, by rw [e]; rfl, hp2, hb, hb0⟩⟩
     rw [vl, h2, e1]; omega
def rvG (s : List UInt8) (k : Nat) : Int × Int :=
 if h : k < 7 then match s[k]? with
  | none => (0, 0)
  | some b => if b.toNat < 128 then (if b.toNat = 0 ∧ 0 < k then (0, 0) else (((vl (s.take (k + 1)) : Nat) : Int), (k : Int) + 1)) else rvG s (k + 1)
 else (0, 0)
 termination_by 7 - k
def readV (s : List UInt8) : Int × Int := rvG s 0
theorem rvG_end {s : List UInt8} {k : Nat} (h : ¬ ((k : Int) < s.length ∧ (k : Int) < 7)) : rvG s k = (0, 0) := by
 rw [rvG]
 split
 · rw [List.getElem?_eq_none (by omega)]
 · rfl
theorem rvG_next {s : List UInt8} {k : Nat} {b : UInt8} (hk : k < 7) (h : s[k]? = some b) (hb : ¬ (b.toNat : Int) < 128) : rvG s k = rvG s (k + 1) := by
 rw [rvG, dif_pos hk, h]; simp only; rw [if_neg (by omega)]
theorem rvG_zero {s : List UInt8} {k : Nat} {b : UInt8} (hk : k < 7) (h : s[k]? = some b) (hb : (b.toNat : Int) = 0) (h0 : (0 : Int) < k) : rvG s k = (0, 0) := by
 rw [rvG, dif_pos hk, h]; simp only; rw [if_pos (by omega), if_pos (by omega)]
theorem rvG_got {s : List UInt8} {k : Nat} {b : UInt8} (hk : k < 7) (h : s[k]? = some b) (hb : (b.toNat : Int) < 128) (h0 : ¬ ((b.toNat : Int) = 0 ∧ (0 : Int) < k)) : rvG s k = (((vl (s.take (k + 1)) : Nat) : Int), (k : Int) + 1) := by
 rw [rvG, dif_pos hk, h]; simp only; rw [if_pos (by omega), if_neg (by omega)]
theorem rvG_sound (s : List UInt8) : ∀ (m k : Nat) (z j : Int), 7 - k ≤ m → (∀ x, x ∈ s.take k → 128 ≤ x.toNat) → rvG s k = (z, j) → j = 0 ∨ (0 < j ∧ j ≤ 7 ∧ j ≤ s.length ∧ z = ((vl (s.take j.toNat) : Nat) : Int) ∧ gd (s.take j.toNat))
 | 0, k, z, j, hm, _, h => by
   rw [rvG, dif_neg (by omega)] at h
   cases h; exact .inl rfl
 | m + 1, k, z, j, hm, hx, h => by
   by_cases hk : k < 7
   · cases e : s[k]? with
     | none => rw [rvG, dif_pos hk, e] at h; cases h; exact .inl rfl
     | some b =>
       have hl := (List.getElem?_eq_some_iff.1 e).1
       by_cases hb : b.toNat < 128
       · by_cases h0 : b.toNat = 0 ∧ 0 < k
         · rw [rvG_zero hk e (by omega) (by omega)] at h; cases h; exact .inl rfl
         · rw [rvG_got hk e (by omega) (by omega)] at h
           cases h
           have ej : ((k : Int) + 1).toNat = k + 1 := by omega
           refine .inr ⟨by omega, by omega, by omega, by rw [ej], ?_⟩
           rw [ej, take_get e]
           refine ⟨s.take k, b, rfl, hx, hb, ?_⟩
           by_cases hb0 : b.toNat = 0
           · right; have : k = 0 := by omega
             subst this; rfl
           · exact .inl hb0
       · rw [rvG_next hk e (by omega)] at h
         refine rvG_sound s m (k + 1) z j (by omega) (fun x hx2 => ?_) h
         rw [take_get e] at hx2
         simp only [List.mem_append, List.mem_cons, List.not_mem_nil, or_false] at hx2
         rcases hx2 with hx2 | rfl
         · exact hx x hx2
         · omega
   · rw [rvG, dif_neg hk] at h; cases h; exact .inl rfl
theorem readV_sound {s : List UInt8} {z j : Int} (h : readV s = (z, j)) : j = 0 ∨ (0 < j ∧ j ≤ s.length ∧ varS z = s.take j.toNat) := by
 rcases rvG_sound s 7 0 z j (by omega) (by simp) h with h1 | ⟨h1, h2, h3, h4, h5⟩
 · exact .inl h1
 · refine .inr ⟨h1, h3, ?_⟩
   have hlt := vl_lt (s.take j.toNat)
   have hl : (s.take j.toNat).length ≤ 7 := by rw [List.length_take]; omega
   have hp : 128 ^ (s.take j.toNat).length ≤ 128 ^ 7 := Nat.pow_le_pow_right (by decide) hl
   have e7 : (128 : Nat) ^ 7 = 562949953421312 := by decide
   rw [h4, varS_yes (by omega), Int.toNat_natCast, gd_vb h5]
theorem rvG_pre {p : List UInt8} {b : UInt8} {r : List UInt8} (hp : ∀ x, x ∈ p → 128 ≤ x.toNat) (hl : p.length < 7) : ∀ (m k : Nat), p.length - k = m → k ≤ p.length → rvG (p ++ [b] ++ r) k = rvG (p ++ [b] ++ r) p.length
 | 0, k, hm, hk => by have : k = p.length := by omega
                      rw [this]
 | m + 1, k, hm, hk => by
   have hk2 : k < p.length := by omega
   have e : (p ++ [b] ++ r)[k]? = some p[k] := by
    rw [List.append_assoc, List.getElem?_append_left hk2, List.getElem?_eq_getElem hk2]
   have := hp p[k] (List.getElem_mem hk2)
   rw [rvG_next (by omega) e (by omega)]
   exact rvG_pre hp hl m (k + 1) (by omega) (by omega)
theorem readV_var {n : Int} (h : 0 ≤ n ∧ n ≤ 562949953421311) (r : List UInt8) : readV (varS n ++ r) = (n, ((varS n).length : Int)) := by
 rw [varS_yes h]
 have hv := (vb_gd n.toNat).2.1
 obtain ⟨p, b, e, hp, hb, h0⟩ := (vb_gd n.toNat).1
 have hl := vb_len 6 n.toNat (by omega)
 rw [e, List.length_append] at hl
 simp only [List.length_cons, List.length_nil] at hl
 have e2 : (p ++ [b] ++ r)[p.length]? = some b := by simp
 have e3 : (p ++ [b] ++ r).take (p.length + 1) = p ++ [b] := by rw [List.take_left' (by simp)]
 rw [e, readV, rvG_pre hp (by omega) p.length 0 (by omega) (by omega), rvG_got (by omega) e2 (by omega), e3, ← e, hv]
 · simp only [e, List.length_append, List.length_cons, List.length_nil]
   refine Prod.ext (by simp only; omega) (by simp only; omega)
 · rintro ⟨g1, g2⟩
   rcases h0 with h0 | h0
   · omega
   · subst h0; simp at g2
theorem rv_or {s : List UInt8} {k : Nat} {b : UInt8} (hk : k < 7) (h : s[k]? = some b) : bor1 ((vl (s.take k) : Nat) : Int) (IntKind.wrap .i64 (IntKind.wrap .i64 ((b.toNat % 128 : Nat) : Int) * 2 ^ (min (7 * (k : Int)).toNat (IntKind.bits .i64)))) = ((vl (s.take (k + 1)) : Nat) : Int) := by
 have hl := (List.getElem?_eq_some_iff.1 h).1
 have e0 : (s.take k).length = k := by rw [List.length_take]; omega
 have e1 : min (7 * (k : Int)).toNat (IntKind.bits .i64) = 7 * k := by
  have : IntKind.bits .i64 = 64 := rfl
  omega
 have e2 : (128 : Nat) ^ k = 2 ^ (7 * k) := by rw [Nat.pow_mul]
 have hv := vl_lt (s.take k)
 rw [e0, e2] at hv
 have hm : b.toNat % 128 < 128 := Nat.mod_lt _ (by decide)
 have h42 : 2 ^ (7 * k) ≤ 2 ^ 42 := Nat.pow_le_pow_right (by decide) (by omega)
 have h42' : (2 : Nat) ^ 42 = 4398046511104 := by decide
 have hx : 2 ^ (7 * k) * (b.toNat % 128) ≤ 4398046511104 * 127 := Nat.mul_le_mul (by omega) (by omega)
 have e3 : (((b.toNat % 128 : Nat) : Int) * 2 ^ (7 * k)) = ((2 ^ (7 * k) * (b.toNat % 128) : Nat) : Int) := by push_cast; rw [Int.mul_comm]
 rw [e1, wrap_in ((b.toNat % 128 : Nat) : Int) (by omega), e3, wrap_in _ (by omega), bor1_add hv (by omega), take_get h, vl_snoc, e0, e2]
theorem tmod_nat {n : Int} (h : 0 ≤ n) : n.tmod 128 = ((n.toNat % 128 : Nat) : Int) ∧ n.tdiv 128 = ((n.toNat / 128 : Nat) : Int) := by
 rw [Int.tmod_eq_emod_of_nonneg h, Int.tdiv_eq_ediv_of_nonneg h]; omega
theorem vb_step1 {n : Int} (h : 128 ≤ n) (hn : n ≤ 562949953421311) : vb n.toNat = UInt8.ofNat (IntKind.wrap .u8 (IntKind.wrap .i64 (128 + n.tmod 128))).toNat :: vb (IntKind.wrap .i64 (n.tdiv 128)).toNat ∧
 (0 ≤ IntKind.wrap .i64 (n.tdiv 128) ∧ IntKind.wrap .i64 (n.tdiv 128) < n) := by
 obtain ⟨e1, e2⟩ := tmod_nat (n := n) (by omega)
 have hm : n.toNat % 128 < 128 := Nat.mod_lt _ (by decide)
 rw [e1, e2, wrap_in (128 + _) (by omega), wrap_u8_in (by omega), wrap_in _ (by omega), vb_big (by omega)]
 refine ⟨?_, by omega⟩
 congr 2 <;> omega
theorem vb_step2 {n : Int} (h : 127 < n) (hn : n ≤ 562949953421311) : vb n.toNat = UInt8.ofNat (IntKind.wrap .u8 (bor1 (band1 n 127) 128)).toNat :: vb (n.fdiv (2 ^ (min (Int.toNat 7) (IntKind.bits .i64)))).toNat ∧
 (0 ≤ n.fdiv (2 ^ (min (Int.toNat 7) (IntKind.bits .i64))) ∧ n.fdiv (2 ^ (min (Int.toNat 7) (IntKind.bits .i64))) < n) := by
 have hm : n.toNat % 128 < 128 := Nat.mod_lt _ (by decide)
 have e0 : n = ((n.toNat : Nat) : Int) := by omega
 have e1 : band1 n 127 = ((n.toNat % 128 : Nat) : Int) := by
  have := band1_127 (m := n.toNat) (by omega)
  rwa [← e0] at this
 have e2 : bor1 ((n.toNat % 128 : Nat) : Int) 128 = ((n.toNat % 128 + 128 : Nat) : Int) := bor1_add (m := n.toNat % 128) (x := 1) (p := 7) (by omega) (by omega)
 have e3 : n.fdiv (2 ^ (min (Int.toNat 7) (IntKind.bits .i64))) = ((n.toNat / 128 : Nat) : Int) := by
  have : (2 : Int) ^ (min (Int.toNat 7) (IntKind.bits .i64)) = 128 := by decide
  rw [this, Int.fdiv_eq_ediv_of_nonneg _ (by omega)]; omega
 rw [e1, e2, e3, wrap_u8_in (by omega), vb_big (by omega)]
 refine ⟨?_, by omega⟩
 congr 2 <;> omega
theorem var_end {n m : Int} {out : List UInt8} (hn : 0 ≤ n ∧ n ≤ 562949953421311) (hr : out ++ vb m.toNat = vb n.toNat) (hm : 0 ≤ m) (h : m < 128) : V.w (.string ⟨(out ++ [UInt8.ofNat (IntKind.wrap .u8 m).toNat]).toArray⟩) = V.w (.string ⟨(varS n).toArray⟩) := by
 rw [vb_small (by omega)] at hr
 rw [varS_yes hn, ← hr, wrap_u8_in (by omega)]
theorem var_none {n : Int} (h : inB n 0 562949953421311 = false) : V.w (.string ⟨#[]⟩) = V.w (.string ⟨(varS n).toArray⟩) := by
 rw [varS_no (by have := inB_f h; omega)]
theorem var_short {n m : Int} {out : List UInt8} (hn : n ≤ 562949953421311) (hr : out ++ vb m.toNat = vb n.toNat) : out.length ≤ 7 := by
 have h1 := congrArg List.length hr
 have h2 := vb_len 6 n.toNat (by omega)
 rw [List.length_append] at h1
 omega
def fx (n : Nat) (j : Nat) : List UInt8 := (List.range j).map fun t => UInt8.ofNat (n / 256 ^ (6 - t) % 256)
def fixS (n : Int) : List UInt8 := if 0 ≤ n ∧ n < 72057594037927936 then fx n.toNat 7 else []
theorem fx_len (n j : Nat) : (fx n j).length = j := by simp [fx]
theorem fx_next (n j : Nat) : fx n (j + 1) = fx n j ++ [UInt8.ofNat (n / 256 ^ (6 - j) % 256)] := by simp [fx, List.range_succ]
def rf (l : List UInt8) : Nat := l.foldl (fun a b => a * 256 + b.toNat) 0
theorem rf_snoc (l : List UInt8) (b : UInt8) : rf (l ++ [b]) = rf l * 256 + b.toNat := by simp [rf, List.foldl_append]
theorem rf_lt (l : List UInt8) : rf l < 256 ^ l.length := by
 suffices h : ∀ (l : List UInt8) (a k : Nat), a < 256 ^ k → l.foldl (fun a b => a * 256 + b.toNat) a < 256 ^ (k + l.length) by
  have := h l 0 0 (by decide); simpa [rf] using this
 intro l
 induction l with
 | nil => intro a k h; exact h
 | cons b l ih =>
   intro a k h
   rw [List.foldl_cons, List.length_cons, show k + (l.length + 1) = (k + 1) + l.length by omega]
   refine ih _ _ ?_
   have := b.toNat_lt
   rw [Nat.pow_succ]; omega
theorem byte_nat (m : Nat) : (UInt8.ofNat (m % 256)).toNat = m % 256 := by simp
theorem rf_fx {n : Nat} (h : n < 72057594037927936) : rf (fx n 7) = n := by
 simp only [fx_next, rf_snoc, byte_nat, show fx n 0 = [] from rfl, show rf [] = 0 from rfl]
 simp only [Nat.reduceSub, Nat.reducePow, Nat.zero_mul, Nat.zero_add, Nat.sub_zero, Nat.div_one]
 omega
def readFx (s : List UInt8) : Int × Bool := if (7 : Int) ≤ s.length then (((rf (s.take 7) : Nat) : Int), true) else (0, false)
theorem readFx_fix {n : Int} (h : 0 ≤ n ∧ n < 72057594037927936) (r : List UInt8) : readFx (fixS n ++ r) = (n, true) := by
 rw [fixS, if_pos h, readFx, if_pos (by rw [List.length_append, fx_len]; omega), List.take_left' (fx_len _ _), rf_fx (by omega)]
 refine Prod.ext (by simp only; omega) rfl
theorem fixS_yes {n : Int} (h : 0 ≤ n ∧ n < 72057594037927936) : fixS n = fx n.toNat 7 := by rw [fixS, if_pos h]
theorem fixS_no {n : Int} (h : ¬ (0 ≤ n ∧ n < 72057594037927936)) : fixS n = [] := by rw [fixS, if_neg h]
theorem fixS_len {n : Int} (h : 0 ≤ n ∧ n < 72057594037927936) : (fixS n).length = 7 := by rw [fixS_yes h, fx_len]
theorem fixS_le (n : Int) : (fixS n).length ≤ 7 := by
 unfold fixS; split
 · rw [fx_len]; omega
 · simp
theorem rf_or {s : List UInt8} {k : Nat} {b : UInt8} (hk : k < 7) (h : s[k]? = some b) : bor1 (IntKind.wrap .i64 (((rf (s.take k) : Nat) : Int) * 2 ^ (min (Int.toNat 8) (IntKind.bits .i64)))) (IntKind.wrap .i64 ((b.toNat : Nat) : Int)) = ((rf (s.take (k + 1)) : Nat) : Int) := by
 have hl := (List.getElem?_eq_some_iff.1 h).1
 have e0 : (s.take k).length = k := by rw [List.length_take]; omega
 have hv := rf_lt (s.take k)
 rw [e0] at hv
 have h6 : 256 ^ k ≤ 256 ^ 6 := Nat.pow_le_pow_right (by decide) (by omega)
 have h6' : (256 : Nat) ^ 6 = 281474976710656 := by decide
 have hb := b.toNat_lt
 have e3 : (((rf (s.take k) : Nat) : Int) * 2 ^ (min (Int.toNat 8) (IntKind.bits .i64))) = ((2 ^ 8 * rf (s.take k) : Nat) : Int) := by
  have : (2 : Int) ^ (min (Int.toNat 8) (IntKind.bits .i64)) = 256 := by decide
  rw [this]; omega
 rw [e3, wrap_in _ (by omega), wrap_in _ (by omega), bor1_low (p := 8) (by omega) (by omega), take_get h, rf_snoc]
 omega
theorem e56 : IntKind.wrap .i64 (IntKind.wrap .i64 (1 * 2 ^ (min (Int.toNat (8 * 7)) (IntKind.bits .i64))) - 1) = 72057594037927935 := by decide
theorem fx_byte {n : Int} {j : Nat} (hn : 0 ≤ n) (hj : j < 7) : UInt8.ofNat (IntKind.wrap .u8 (n.fdiv (2 ^ (min (8 * (6 - (j : Int))).toNat (IntKind.bits .i64))))).toNat = UInt8.ofNat (n.toNat / 256 ^ (6 - j) % 256) := by
 have e1 : min (8 * (6 - (j : Int))).toNat (IntKind.bits .i64) = 8 * (6 - j) := by
  have : IntKind.bits .i64 = 64 := rfl
  omega
 have e2 : (2 : Int) ^ (8 * (6 - j)) = ((256 ^ (6 - j) : Nat) : Int) := by
  rw [show (256 : Nat) = 2 ^ 8 by rfl, ← Nat.pow_mul]; push_cast; rfl
 have e3 : n = ((n.toNat : Nat) : Int) := by omega
 have e4 : n.fdiv ((256 ^ (6 - j) : Nat) : Int) = ((n.toNat / 256 ^ (6 - j) : Nat) : Int) := by
  rw [Int.fdiv_eq_ediv_of_nonneg _ (Int.natCast_nonneg _), Int.natCast_ediv, ← e3]
 have e5 : IntKind.wrap .u8 ((n.toNat / 256 ^ (6 - j) : Nat) : Int) = ((n.toNat / 256 ^ (6 - j) % 256 : Nat) : Int) := by
  show ((n.toNat / 256 ^ (6 - j) : Nat) : Int) % 256 = _
  omega
 rw [e1, e2, e4, e5, Int.toNat_natCast]
theorem fx_snoc {n : Int} {j : Nat} (hn : 0 ≤ n) (hj : j < 7) : (fx n.toNat (j + 1)).map byR = (fx n.toNat j).map byR ++ [[.w (.int .u8 (IntKind.wrap .u8 (n.fdiv (2 ^ (min (8 * (6 - (j : Int))).toNat (IntKind.bits .i64))))))]] := by
 rw [fx_next, ← fx_byte hn hj, byR_snoc]
theorem fix_none {n : Int} (h : inB n 0 72057594037927935 = false) : V.w (.string ⟨#[]⟩) = V.w (.string ⟨(fixS n).toArray⟩) := by
 rw [fixS_no (by have := inB_f h; omega)]
theorem fix_end {n : Int} {j : Nat} (h : inB n 0 72057594037927935 = true) (hj : j = 7) : V.w (.string ⟨(fx n.toNat j).toArray⟩) = V.w (.string ⟨(fixS n).toArray⟩) := by
 rw [fixS_yes (by have := inB_t h; omega), hj]
theorem rfx_no {s : List UInt8} (h : (s.length : Int) < 7) : V.tup [.w (.int .i64 0), .w (.bool false)] = V.tup [.w (.int .i64 (readFx s).1), .w (.bool (readFx s).2)] := by
 rw [readFx, if_neg (by omega)]
theorem rfx_yes {s : List UInt8} {k : Nat} (h : ¬ (s.length : Int) < 7) (hk : k = 7) : V.tup [.w (.int .i64 ((rf (s.take k) : Nat) : Int)), .w (.bool true)] = V.tup [.w (.int .i64 (readFx s).1), .w (.bool (readFx s).2)] := by
 rw [readFx, if_pos (by omega), hk]
theorem rv_leaf {s : List UInt8} {k : Nat} {z j : Int} (hR : rvG s k = readV s) (h : rvG s k = (z, j)) : V.tup [.w (.int .i64 z), .w (.int .i64 j)] = V.tup [.w (.int .i64 (readV s).1), .w (.int .i64 (readV s).2)] := by
 rw [← hR, h]
theorem min7 (a : Int) : minL a [7] = min a 7 := by
 show (if (7 : Int) < a then 7 else a) = min a 7
 split <;> omega
def hexL : List UInt8 := [48, 49, 50, 51, 52, 53, 54, 55, 56, 57, 97, 98, 99, 100, 101, 102]
def hxd (k : Nat) : UInt8 := (hexL[k]?).getD 0
def hexS (l : List UInt8) : List UInt8 := (l.map fun b => [hxd (b.toNat / 16), hxd (b.toNat % 16)]).flatten
theorem hd_at {k : Nat} (h : k < 16) : hexL[k]? = some (hxd k) := by
 unfold hxd
 rw [List.getElem?_eq_getElem (show k < hexL.length from h)]; rfl
theorem hd_ix {k : Nat} (h : k < 16) : Lib.indexByte hexL (hxd k) = k := by
 have : ∀ j, j < 16 → Lib.indexByte hexL (hxd j) = j := by decide
 exact this k h
theorem hexS_len (l : List UInt8) : (hexS l).length = 2 * l.length := by
 induction l with
 | nil => simp [hexS]
 | cons b l ih => simp only [hexS, List.map_cons, List.flatten_cons, List.length_append, List.length_cons, List.length_nil] at ih ⊢; omega
theorem hexS_at : ∀ {l : List UInt8} {j : Nat} {b : UInt8}, l[j]? = some b → (hexS l)[2 * j]? = some (hxd (b.toNat / 16)) ∧ (hexS l)[2 * j + 1]? = some (hxd (b.toNat % 16))
 | [], j, b, h => by simp at h
 | a :: l, 0, b, h => by
   simp only [List.getElem?_cons_zero, Option.some.injEq] at h
   subst h
   exact ⟨rfl, rfl⟩
 | a :: l, j + 1, b, h => by
   have := hexS_at (l := l) (j := j) (b := b) (by simpa using h)
   exact this
theorem hexS_take {l : List UInt8} {i : Nat} {b : UInt8} (h : l[i]? = some b) : hexS (l.take (i + 1)) = hexS (l.take i) ++ [hxd (b.toNat / 16), hxd (b.toNat % 16)] := by
 rw [take_get h]; simp [hexS]
theorem hex_at {k : Nat} (h : k < 16) : hexL[((k : Nat) : Int).toNat]? = some (hxd k) := by rw [Int.toNat_natCast]; exact hd_at h
theorem hexS_snoc {l : List UInt8} {i : Nat} {b : UInt8} (h : l[i]? = some b) : (hexS (l.take (i + 1))).map byR = (hexS (l.take i)).map byR ++ [byR (hxd (b.toNat / 16)), byR (hxd (b.toNat % 16))] := by
 rw [hexS_take h, List.map_append]; rfl
theorem hex_even (t : List UInt8) : ((hexS t).length : Int).tmod 2 = 0 := by
 rw [hexS_len, Int.tmod_eq_emod_of_nonneg (by omega)]; omega
theorem hex_at1 {t : List UInt8} {j : Nat} {b : UInt8} (h : t[j]? = some b) : (hexS t)[(2 * (j : Int)).toNat]? = some (hxd (b.toNat / 16)) := by
 rw [show (2 * (j : Int)).toNat = 2 * j by omega]; exact (hexS_at h).1
theorem hex_at2 {t : List UInt8} {j : Nat} {b : UInt8} (h : t[j]? = some b) : (hexS t)[(2 * (j : Int) + 1).toNat]? = some (hxd (b.toNat % 16)) := by
 rw [show (2 * (j : Int) + 1).toNat = 2 * j + 1 by omega]; exact (hexS_at h).2
theorem un_snoc {t : List UInt8} {j : Nat} {b : UInt8} (h : t[j]? = some b) : (t.take (j + 1)).map byR = (t.take j).map byR ++ [[.w (.int .u8 (IntKind.wrap .u8 (16 * ((b.toNat / 16 : Nat) : Int) + ((b.toNat % 16 : Nat) : Int))))]] := by
 have hb := b.toNat_lt
 rw [take_get h, List.map_append, wrap_u8_in (by omega), show 16 * ((b.toNat / 16 : Nat) : Int) + ((b.toNat % 16 : Nat) : Int) = (b.toNat : Int) by omega]; rfl
theorem dne {α : Type} [DecidableEq α] (a : α) : decide (¬ a = a) = false := decide_eq_false (fun h => h rfl)
theorem deq {α : Type} [DecidableEq α] (a : α) : decide (a = a) = true := decide_eq_true rfl
theorem varS_some {n : Int} (h : 0 ≤ n ∧ n ≤ 562949953421311) : ¬ varS n = [] := by rw [varS_yes h]; exact vb_ne _
theorem fixS_some {n : Int} (h : 0 ≤ n ∧ n < 72057594037927936) : ¬ fixS n = [] := by
 intro e; have := fixS_len h; rw [e] at this; cases this
theorem fixS_len7 {n : Int} (h : 0 ≤ n ∧ n < 72057594037927936) : decide (¬ ((fixS n).length : Int) = 7) = false := decide_eq_false (fun k => k (by rw [fixS_len h]; rfl))
theorem nine {n : Int} : (Lib.decDigits n.natAbs).length ≤ 9 ↔ -1000000000 < n ∧ n < 1000000000 := by
 rw [dec_len]
 have h1 := Lib.lt_pow_nDigits n.natAbs
 constructor
 · intro h
   have h2 : 10 ^ Lib.nDigits n.natAbs ≤ 10 ^ 9 := Nat.pow_le_pow_right (by decide) h
   have h3 : (10 : Nat) ^ 9 = 1000000000 := by decide
   omega
 · intro h
   have key : ∀ (k u : Nat), u < 10 ^ (k + 1) → Lib.nDigits u ≤ k + 1 := by
    intro k
    induction k with
    | zero => intro u hu; rw [Lib.nDigits_small (by simpa using hu)]; omega
    | succ k ih =>
      intro u hu
      by_cases h10 : u < 10
      · rw [Lib.nDigits_small h10]; omega
      · rw [Lib.nDigits_big h10]
        have := ih (u / 10) (by rw [Nat.pow_succ] at hu; omega)
        omega
   exact key 8 n.natAbs (by omega)
theorem numN_yes {n : Int} (hn : i64 n) (h : -1000000000 < n ∧ n < 1000000000) : numN (Lib.itoa n) 9 = (n, true) := by
 have := nine.2 h
 rw [numN_itoa hn, if_pos (by omega)]
theorem numN_no9 {n : Int} (hn : i64 n) (h : ¬ (-1000000000 < n ∧ n < 1000000000)) : numN (Lib.itoa n) 9 = (0, false) := by
 have : ¬ (Lib.decDigits n.natAbs).length ≤ 9 := fun e => h (nine.1 e)
 rw [numN_itoa hn, if_neg (by omega)]
theorem readV_cut {s : List UInt8} {z j : Int} (h : readV s = (z, j)) (h0 : ¬ j = 0) : 0 < j ∧ j ≤ s.length ∧ varS z = (s.take j.toNat).drop (Int.toNat ((0 : Nat) : Int)) := by
 rcases readV_sound h with h1 | h1
 · exact absurd h1 h0
 · exact h1
theorem nlt_false {k : Int} (h : 0 ≤ k) : decide (k < 0) = false := decide_eq_false (by omega)
end Go.Proofs.YtoppcdecolponaaDoor.AL
namespace Go.Proofs.YtoppcdecolponaaDoor.AL
open Go
def F38 : Fnc := ⟨(.seq (.rg [p 2 (.mv (.k (.string ⟨#[]⟩)))])
 (.seq (.rg [p 3 (.mv (.t 0)),
 p 4 (.call 272 [(.t 3)]),
 p 2 (.mv (.t 4))])
 .ret)),
 [.tmp 2]⟩
def F45 : Fnc := ⟨(.seq (.rg [p 4 (.mv (.k (.string ⟨#[]⟩)))])
 (.seq (.seq (.rg [p 7 (.mv (.t 1)),
 p 8 (.call 103 [(.t 7), (.k (.int .i64 1)), (.k (.int .i64 7))]),
 p 9 (.not (.t 8)),
 p 10 (.mv (.t 9)),
 ⟨(some 11), .mv (.t 0), (some (10, false)), false⟩,
 ⟨(some 12), .mv (.t 1), (some (10, false)), false⟩,
 ⟨(some 13), .bin .mul (.k (.int .i64 8)) (.t 12), (some (10, false)), false⟩,
 ⟨(some 14), .bin .shl (.k (.int .i64 1)) (.t 13), (some (10, false)), false⟩,
 ⟨(some 15), .bin .sub (.t 14) (.k (.int .i64 1)), (some (10, false)), false⟩,
 ⟨(some 16), .call 103 [(.t 11), (.k (.int .i64 0)), (.t 15)], (some (10, false)), false⟩,
 ⟨(some 17), .not (.t 16), (some (10, false)), false⟩,
 p 18 (.pick (.t 10) (.k (.bool true)) (.t 17))])
 (.cond (.t 18) (.seq (.rg [p 4 (.mv (.k (.string ⟨#[]⟩)))])
 .ret)
 .skip))
 (.seq (.rg [p 19 (.bs 1 0 [.int .u8 0] []),
 p 5 (.mv (.t 19))])
 (.seq (.seq (.rg [p 20 (.mv (.t 1)),
 p 21 (.bin .sub (.t 20) (.k (.int .i64 1))),
 p 6 (.mv (.t 21))])
 (.block 0 (.loop (.seq (.seq (.rg [p 22 (.mv (.t 6)),
 p 23 (.bin .geq (.t 22) (.k (.int .i64 0)))])
 (.cond (.t 23) .skip
 (.exit 0)))
 (.seq (.block 1 (.rg [p 26 (.mv (.t 5)),
 p 27 (.mv (.t 0)),
 p 28 (.mv (.t 6)),
 p 29 (.bin .mul (.k (.int .i64 8)) (.t 28)),
 p 30 (.bin .shr (.t 27) (.t 29)),
 p 31 (.cvi .u8 (.t 30)),
 p 32 (.bs 1 1 [.int .u8 0] [(0, (.t 31))]),
 p 33 (.app 1 1 (.t 26) (.t 32)),
 p 5 (.mv (.t 33))]))
 (.rg [p 24 (.mv (.t 6)),
 p 25 (.bin .sub (.t 24) (.k (.int .i64 1))),
 p 6 (.mv (.t 25))]))))))
 (.seq (.rg [p 34 (.mv (.t 5)),
 p 35 (.cvbs (.t 34)),
 p 4 (.mv (.t 35))])
 .ret))))),
 [.tmp 4]⟩
def F48 : Fnc := ⟨(.seq (.rg [p 2 (.mv (.k (.string ⟨#[]⟩)))])
 (.seq (.rg [p 5 (.bs 1 0 [.int .u8 0] []),
 p 3 (.mv (.t 5))])
 (.seq (.seq (.rg [p 6 (.mv (.t 0)),
 p 7 (.lens (.t 6)),
 p 8 (.mv (.k (.int .i64 0)))])
 (.block 0 (.loop (.seq (.rg [p 9 (.bin .lss (.t 8) (.t 7))])
 (.seq (.cond (.t 9) .skip
 (.exit 0))
 (.seq (.block 1 (.seq (.rg [p 10 (.mv (.t 8)),
 p 4 (.mv (.t 10))])
 (.rg [⟨(some 11), .mv (.t 3), none, true⟩,
 ⟨(some 12), .mv (.t 0), none, true⟩,
 ⟨(some 13), .mv (.t 4), none, true⟩,
 ⟨(some 14), .ix (.t 12) (.t 13), none, true⟩,
 ⟨(some 15), .bin .shr (.t 14) (.k (.int .u64 4)), none, true⟩,
 ⟨(some 16), .ix (.k (.string ⟨#[48, 49, 50, 51, 52, 53, 54, 55, 56, 57, 97, 98, 99, 100, 101, 102]⟩)) (.t 15), none, true⟩,
 ⟨(some 17), .mv (.t 0), none, true⟩,
 ⟨(some 18), .mv (.t 4), none, true⟩,
 ⟨(some 19), .ix (.t 17) (.t 18), none, true⟩,
 ⟨(some 20), .bin .and (.t 19) (.k (.int .u8 15)), none, true⟩,
 ⟨(some 21), .ix (.k (.string ⟨#[48, 49, 50, 51, 52, 53, 54, 55, 56, 57, 97, 98, 99, 100, 101, 102]⟩)) (.t 20), none, true⟩,
 ⟨(some 22), .bs 1 2 [.int .u8 0] [(0, (.t 16)), (1, (.t 21))], none, true⟩,
 p 23 (.app 1 1 (.t 11) (.t 22)),
 p 3 (.mv (.t 23))])))
 (.rg [p 24 (.bin .add (.t 8) (.k (.int .i64 1))),
 p 8 (.mv (.t 24))])))))))
 (.seq (.rg [p 25 (.mv (.t 3)),
 p 26 (.cvbs (.t 25)),
 p 2 (.mv (.t 26))])
 .ret)))),
 [.tmp 2]⟩
def F63 : Fnc := ⟨(.seq (.rg [p 2 (.mv (.k (.int .i64 0))),
 p 3 (.mv (.k (.bool false)))])
 (.seq (.rg [p 4 (.mv (.t 0)),
 p 5 (.call 408 [(.t 4), (.k (.int .i64 9))]),
 p 6 (.ext 0 (.t 5)),
 p 7 (.ext 1 (.t 5)),
 p 2 (.mv (.t 6)),
 p 3 (.mv (.t 7))])
 .ret)),
 [.tmp 2, .tmp 3]⟩
def F64 : Fnc := ⟨(.seq (.rg [p 4 (.mv (.k (.int .i64 0))),
 p 5 (.mv (.k (.bool false)))])
 (.seq (.seq (.rg [p 8 (.mv (.t 1)),
 p 9 (.call 103 [(.t 8), (.k (.int .i64 1)), (.k (.int .i64 7))]),
 p 10 (.not (.t 9)),
 p 11 (.mv (.t 10)),
 ⟨(some 12), .mv (.t 0), (some (11, false)), false⟩,
 ⟨(some 13), .lens (.t 12), (some (11, false)), false⟩,
 ⟨(some 14), .mv (.t 1), (some (11, false)), false⟩,
 ⟨(some 15), .bin .lss (.t 13) (.t 14), (some (11, false)), false⟩,
 p 16 (.pick (.t 11) (.k (.bool true)) (.t 15))])
 (.cond (.t 16) (.seq (.rg [p 4 (.mv (.k (.int .i64 0))),
 p 5 (.mv (.k (.bool false)))])
 .ret)
 .skip))
 (.seq (.rg [p 6 (.mv (.k (.int .i64 0)))])
 (.seq (.seq (.rg [p 17 (.mv (.t 1)),
 p 18 (.mv (.k (.int .i64 0)))])
 (.block 0 (.loop (.seq (.rg [p 19 (.bin .lss (.t 18) (.t 17))])
 (.seq (.cond (.t 19) .skip
 (.exit 0))
 (.seq (.block 1 (.seq (.rg [p 20 (.mv (.t 18)),
 p 7 (.mv (.t 20))])
 (.rg [p 21 (.mv (.t 6)),
 p 22 (.bin .shl (.t 21) (.k (.int .u64 8))),
 p 23 (.mv (.t 0)),
 p 24 (.mv (.t 7)),
 p 25 (.ix (.t 23) (.t 24)),
 p 26 (.cvi .i64 (.t 25)),
 p 27 (.bin .or (.t 22) (.t 26)),
 p 6 (.mv (.t 27))])))
 (.rg [p 28 (.bin .add (.t 18) (.k (.int .i64 1))),
 p 18 (.mv (.t 28))])))))))
 (.seq (.rg [p 29 (.mv (.t 6)),
 p 4 (.mv (.t 29)),
 p 5 (.mv (.k (.bool true)))])
 .ret))))),
 [.tmp 4, .tmp 5]⟩
def F65 : Fnc := ⟨(.seq (.rg [p 2 (.mv (.k (.int .i64 0))),
 p 3 (.mv (.k (.int .i64 0)))])
 (.seq (.rg [p 4 (.mv (.k (.int .i64 0)))])
 (.seq (.seq (.rg [p 6 (.mv (.t 0)),
 p 7 (.lens (.t 6)),
 p 8 (.mn [(.t 7), (.k (.int .i64 7))]),
 p 9 (.mv (.k (.int .i64 0)))])
 (.block 0 (.loop (.seq (.rg [p 10 (.bin .lss (.t 9) (.t 8))])
 (.seq (.cond (.t 10) .skip
 (.exit 0))
 (.seq (.block 1 (.seq (.rg [p 11 (.mv (.t 9)),
 p 5 (.mv (.t 11))])
 (.seq (.rg [p 12 (.mv (.t 4)),
 p 13 (.mv (.t 0)),
 p 14 (.mv (.t 5)),
 p 15 (.ix (.t 13) (.t 14)),
 p 16 (.bin .and (.t 15) (.k (.int .u8 127))),
 p 17 (.cvi .i64 (.t 16)),
 p 18 (.mv (.t 5)),
 p 19 (.bin .mul (.k (.int .i64 7)) (.t 18)),
 p 20 (.bin .shl (.t 17) (.t 19)),
 p 21 (.bin .or (.t 12) (.t 20)),
 p 4 (.mv (.t 21))])
 (.seq (.rg [p 22 (.mv (.t 0)),
 p 23 (.mv (.t 5)),
 p 24 (.ix (.t 22) (.t 23)),
 p 25 (.bin .lss (.t 24) (.k (.int .u8 128)))])
 (.cond (.t 25) (.seq (.seq (.rg [p 26 (.mv (.t 0)),
 p 27 (.mv (.t 5)),
 p 28 (.ix (.t 26) (.t 27)),
 p 29 (.bin .eql (.t 28) (.k (.int .u8 0))),
 p 30 (.mv (.t 29)),
 ⟨(some 31), .mv (.t 5), (some (30, true)), false⟩,
 ⟨(some 32), .bin .gtr (.t 31) (.k (.int .i64 0)), (some (30, true)), false⟩,
 p 33 (.pick (.t 30) (.t 32) (.k (.bool false)))])
 (.cond (.t 33) (.exit 0)
 .skip))
 (.seq (.rg [p 34 (.mv (.t 4)),
 p 35 (.mv (.t 5)),
 p 36 (.bin .add (.t 35) (.k (.int .i64 1))),
 p 2 (.mv (.t 34)),
 p 3 (.mv (.t 36))])
 .ret))
 .skip)))))
 (.rg [p 37 (.bin .add (.t 9) (.k (.int .i64 1))),
 p 9 (.mv (.t 37))])))))))
 (.seq (.rg [p 2 (.mv (.k (.int .i64 0))),
 p 3 (.mv (.k (.int .i64 0)))])
 .ret)))),
 [.tmp 2, .tmp 3]⟩
def F78 : Fnc := ⟨(.seq (.rg [p 2 (.mv (.k (.string ⟨#[]⟩))),
 p 3 (.mv (.k (.bool false)))])
 (.seq (.seq (.rg [p 8 (.mv (.t 0)),
 p 9 (.lens (.t 8)),
 p 10 (.bin .rem (.t 9) (.k (.int .i64 2))),
 p 11 (.bin .neq (.t 10) (.k (.int .i64 0)))])
 (.cond (.t 11) (.seq (.rg [p 2 (.mv (.k (.string ⟨#[]⟩))),
 p 3 (.mv (.k (.bool false)))])
 .ret)
 .skip))
 (.seq (.rg [p 12 (.bs 1 0 [.int .u8 0] []),
 p 4 (.mv (.t 12))])
 (.seq (.seq (.rg [p 5 (.mv (.k (.int .i64 0)))])
 (.block 0 (.loop (.seq (.seq (.rg [p 13 (.mv (.t 5)),
 p 14 (.mv (.t 0)),
 p 15 (.lens (.t 14)),
 p 16 (.bin .lss (.t 13) (.t 15))])
 (.cond (.t 16) .skip
 (.exit 0)))
 (.seq (.block 1 (.seq (.rg [⟨(some 19), .mv (.t 0), none, true⟩,
 ⟨(some 20), .mv (.t 5), none, true⟩,
 ⟨(some 21), .ix (.t 19) (.t 20), none, true⟩,
 ⟨(some 22), .call 273 [(.k (.string ⟨#[48, 49, 50, 51, 52, 53, 54, 55, 56, 57, 97, 98, 99, 100, 101, 102]⟩)), (.t 21)], none, true⟩,
 ⟨(some 23), .mv (.t 0), none, true⟩,
 ⟨(some 24), .mv (.t 5), none, true⟩,
 ⟨(some 25), .bin .add (.t 24) (.k (.int .i64 1)), none, true⟩,
 ⟨(some 26), .ix (.t 23) (.t 25), none, true⟩,
 p 27 (.call 273 [(.k (.string ⟨#[48, 49, 50, 51, 52, 53, 54, 55, 56, 57, 97, 98, 99, 100, 101, 102]⟩)), (.t 26)]),
 p 6 (.mv (.t 22)),
 p 7 (.mv (.t 27))])
 (.seq (.seq (.rg [p 28 (.mv (.t 6)),
 p 29 (.bin .lss (.t 28) (.k (.int .i64 0))),
 p 30 (.mv (.t 29)),
 ⟨(some 31), .mv (.t 7), (some (30, false)), false⟩,
 ⟨(some 32), .bin .lss (.t 31) (.k (.int .i64 0)), (some (30, false)), false⟩,
 p 33 (.pick (.t 30) (.k (.bool true)) (.t 32))])
 (.cond (.t 33) (.seq (.rg [p 2 (.mv (.k (.string ⟨#[]⟩))),
 p 3 (.mv (.k (.bool false)))])
 .ret)
 .skip))
 (.rg [p 34 (.mv (.t 4)),
 p 35 (.mv (.t 6)),
 p 36 (.bin .mul (.k (.int .i64 16)) (.t 35)),
 p 37 (.mv (.t 7)),
 p 38 (.bin .add (.t 36) (.t 37)),
 p 39 (.cvi .u8 (.t 38)),
 p 40 (.bs 1 1 [.int .u8 0] [(0, (.t 39))]),
 p 41 (.app 1 1 (.t 34) (.t 40)),
 p 4 (.mv (.t 41))]))))
 (.rg [p 17 (.mv (.t 5)),
 p 18 (.bin .add (.t 17) (.k (.int .i64 2))),
 p 5 (.mv (.t 18))]))))))
 (.seq (.rg [p 42 (.mv (.t 4)),
 p 43 (.cvbs (.t 42)),
 p 2 (.mv (.t 43)),
 p 3 (.mv (.k (.bool true)))])
 .ret))))),
 [.tmp 2, .tmp 3]⟩
def F79 : Fnc := ⟨(.seq (.rg [p 2 (.mv (.k (.string ⟨#[]⟩)))])
 (.seq (.seq (.rg [p 4 (.mv (.t 0)),
 p 5 (.call 103 [(.t 4), (.k (.int .i64 0)), (.k (.int .i64 562949953421311))]),
 p 6 (.not (.t 5))])
 (.cond (.t 6) (.seq (.rg [p 2 (.mv (.k (.string ⟨#[]⟩)))])
 .ret)
 .skip))
 (.seq (.rg [p 7 (.bs 1 0 [.int .u8 0] []),
 p 3 (.mv (.t 7))])
 (.seq (.block 0 (.loop (.seq (.seq (.rg [p 8 (.mv (.t 0)),
 p 9 (.bin .gtr (.t 8) (.k (.int .i64 127)))])
 (.cond (.t 9) .skip
 (.exit 0)))
 (.block 1 (.seq (.rg [p 10 (.mv (.t 3)),
 p 11 (.mv (.t 0)),
 p 12 (.bin .and (.t 11) (.k (.int .i64 127))),
 p 13 (.bin .or (.t 12) (.k (.int .i64 128))),
 p 14 (.cvi .u8 (.t 13)),
 p 15 (.bs 1 1 [.int .u8 0] [(0, (.t 14))]),
 p 16 (.app 1 1 (.t 10) (.t 15)),
 p 3 (.mv (.t 16))])
 (.rg [p 17 (.mv (.t 0)),
 p 18 (.bin .shr (.t 17) (.k (.int .u64 7))),
 p 0 (.mv (.t 18))]))))))
 (.seq (.rg [p 19 (.mv (.t 3)),
 p 20 (.mv (.t 0)),
 p 21 (.cvi .u8 (.t 20)),
 p 22 (.bs 1 1 [.int .u8 0] [(0, (.t 21))]),
 p 23 (.app 1 1 (.t 19) (.t 22)),
 p 24 (.cvbs (.t 23)),
 p 2 (.mv (.t 24))])
 .ret))))),
 [.tmp 2]⟩
def F103 : Fnc := ⟨(.seq (.rg [p 6 (.mv (.k (.bool false)))])
 (.seq (.rg [p 7 (.mv (.t 1)),
 p 8 (.mv (.t 0)),
 p 9 (.bin .leq (.t 7) (.t 8)),
 p 10 (.mv (.t 9)),
 ⟨(some 11), .mv (.t 0), (some (10, true)), false⟩,
 ⟨(some 12), .mv (.t 2), (some (10, true)), false⟩,
 ⟨(some 13), .bin .leq (.t 11) (.t 12), (some (10, true)), false⟩,
 p 14 (.pick (.t 10) (.t 13) (.k (.bool false))),
 p 6 (.mv (.t 14))])
 .ret)),
 [.tmp 6]⟩
def F121 : Fnc := ⟨(.seq (.rg [p 2 (.mv (.k (.bool false)))])
 (.seq (.seq (.rg [p 17 (.mv (.t 0)),
 p 18 (.call 123 [(.t 17)])])
 (.cond (.t 18) (.seq (.rg [p 2 (.mv (.k (.bool true)))])
 .ret)
 .skip))
 (.seq (.rg [p 19 (.mv (.t 0)),
 p 20 (.call 196 [(.t 19)]),
 p 3 (.mv (.t 20))])
 (.seq (.rg [p 21 (.mv (.t 0)),
 p 22 (.call 193 [(.t 21)]),
 p 4 (.mv (.t 22))])
 (.seq (.rg [p 23 (.mv (.t 3)),
 p 24 (.call 79 [(.t 23)]),
 p 5 (.mv (.t 24))])
 (.seq (.rg [p 26 (.mv (.t 5)),
 p 27 (.mv (.t 4)),
 p 28 (.bin .add (.t 26) (.t 27)),
 p 29 (.call 65 [(.t 28)]),
 p 25 (.mv (.t 29)),
 p 30 (.ext 0 (.t 25)),
 p 31 (.ext 1 (.t 25)),
 p 6 (.mv (.t 30)),
 p 7 (.mv (.t 31))])
 (.seq (.seq (.rg [p 32 (.mv (.t 5)),
 p 33 (.bin .neq (.t 32) (.k (.string ⟨#[]⟩))),
 p 34 (.mv (.t 3)),
 p 35 (.bin .geq (.t 34) (.k (.int .i64 0))),
 p 36 (.mv (.t 35)),
 ⟨(some 37), .mv (.t 3), (some (36, true)), false⟩,
 ⟨(some 38), .bin .leq (.t 37) (.k (.int .i64 562949953421311)), (some (36, true)), false⟩,
 p 39 (.pick (.t 36) (.t 38) (.k (.bool false))),
 p 40 (.eqb true (.t 33) (.t 39)),
 p 41 (.mv (.t 40)),
 ⟨(some 42), .mv (.t 5), (some (41, false)), false⟩,
 ⟨(some 43), .bin .neq (.t 42) (.k (.string ⟨#[]⟩)), (some (41, false)), false⟩,
 ⟨(some 44), .mv (.t 43), (some (41, false)), false⟩,
 ⟨(some 45), .mv (.t 6), (some (44, true)), false⟩,
 ⟨(some 46), .mv (.t 3), (some (44, true)), false⟩,
 ⟨(some 47), .bin .neq (.t 45) (.t 46), (some (44, true)), false⟩,
 ⟨(some 48), .mv (.t 47), (some (44, true)), false⟩,
 ⟨(some 49), .mv (.t 7), (some (48, false)), false⟩,
 ⟨(some 50), .mv (.t 5), (some (48, false)), false⟩,
 ⟨(some 51), .lens (.t 50), (some (48, false)), false⟩,
 ⟨(some 52), .bin .neq (.t 49) (.t 51), (some (48, false)), false⟩,
 ⟨(some 53), .pick (.t 48) (.k (.bool true)) (.t 52), (some (44, true)), false⟩,
 ⟨(some 54), .pick (.t 44) (.t 53) (.k (.bool false)), (some (41, false)), false⟩,
 p 55 (.pick (.t 41) (.k (.bool true)) (.t 54))])
 (.cond (.t 55) (.seq (.rg [p 2 (.mv (.k (.bool false)))])
 .ret)
 .skip))
 (.seq (.rg [p 56 (.mv (.t 3)),
 p 57 (.call 45 [(.t 56), (.k (.int .i64 7))]),
 p 8 (.mv (.t 57))])
 (.seq (.rg [p 59 (.mv (.t 8)),
 p 60 (.mv (.t 4)),
 p 61 (.bin .add (.t 59) (.t 60)),
 p 62 (.call 64 [(.t 61), (.k (.int .i64 7))]),
 p 58 (.mv (.t 62)),
 p 63 (.ext 0 (.t 58)),
 p 64 (.ext 1 (.t 58)),
 p 9 (.mv (.t 63)),
 p 10 (.mv (.t 64))])
 (.seq (.seq (.rg [p 65 (.mv (.t 8)),
 p 66 (.bin .neq (.t 65) (.k (.string ⟨#[]⟩))),
 p 67 (.mv (.t 66)),
 ⟨(some 68), .mv (.t 10), (some (67, true)), false⟩,
 ⟨(some 69), .not (.t 68), (some (67, true)), false⟩,
 ⟨(some 70), .mv (.t 69), (some (67, true)), false⟩,
 ⟨(some 71), .mv (.t 9), (some (70, false)), false⟩,
 ⟨(some 72), .mv (.t 3), (some (70, false)), false⟩,
 ⟨(some 73), .bin .neq (.t 71) (.t 72), (some (70, false)), false⟩,
 ⟨(some 74), .pick (.t 70) (.k (.bool true)) (.t 73), (some (67, true)), false⟩,
 ⟨(some 75), .mv (.t 74), (some (67, true)), false⟩,
 ⟨(some 76), .mv (.t 8), (some (75, false)), false⟩,
 ⟨(some 77), .lens (.t 76), (some (75, false)), false⟩,
 ⟨(some 78), .bin .neq (.t 77) (.k (.int .i64 7)), (some (75, false)), false⟩,
 ⟨(some 79), .pick (.t 75) (.k (.bool true)) (.t 78), (some (67, true)), false⟩,
 p 80 (.pick (.t 67) (.t 79) (.k (.bool false))),
 p 81 (.mv (.t 80)),
 ⟨(some 82), .mv (.t 8), (some (81, false)), false⟩,
 ⟨(some 83), .bin .eql (.t 82) (.k (.string ⟨#[]⟩)), (some (81, false)), false⟩,
 ⟨(some 84), .mv (.t 3), (some (81, false)), false⟩,
 ⟨(some 85), .bin .lss (.t 84) (.k (.int .i64 0)), (some (81, false)), false⟩,
 ⟨(some 86), .mv (.t 85), (some (81, false)), false⟩,
 ⟨(some 87), .mv (.t 3), (some (86, false)), false⟩,
 ⟨(some 88), .bin .geq (.t 87) (.k (.int .i64 72057594037927936)), (some (86, false)), false⟩,
 ⟨(some 89), .pick (.t 86) (.k (.bool true)) (.t 88), (some (81, false)), false⟩,
 ⟨(some 90), .eqb true (.t 83) (.t 89), (some (81, false)), false⟩,
 p 91 (.pick (.t 81) (.k (.bool true)) (.t 90))])
 (.cond (.t 91) (.seq (.rg [p 2 (.mv (.k (.bool false)))])
 .ret)
 .skip))
 (.seq (.rg [p 93 (.mv (.t 3)),
 p 94 (.call 38 [(.t 93)]),
 p 95 (.call 63 [(.t 94)]),
 p 92 (.mv (.t 95)),
 p 96 (.ext 0 (.t 92)),
 p 97 (.ext 1 (.t 92)),
 p 11 (.mv (.t 96)),
 p 12 (.mv (.t 97))])
 (.seq (.seq (.rg [p 98 (.mv (.t 12)),
 p 99 (.mv (.t 3)),
 p 100 (.bin .gtr (.t 99) (.k (.int .i64 (-1000000000)))),
 p 101 (.mv (.t 100)),
 ⟨(some 102), .mv (.t 3), (some (101, true)), false⟩,
 ⟨(some 103), .bin .lss (.t 102) (.k (.int .i64 1000000000)), (some (101, true)), false⟩,
 p 104 (.pick (.t 101) (.t 103) (.k (.bool false))),
 p 105 (.eqb true (.t 98) (.t 104)),
 p 106 (.mv (.t 105)),
 ⟨(some 107), .mv (.t 12), (some (106, false)), false⟩,
 ⟨(some 108), .mv (.t 107), (some (106, false)), false⟩,
 ⟨(some 109), .mv (.t 11), (some (108, true)), false⟩,
 ⟨(some 110), .mv (.t 3), (some (108, true)), false⟩,
 ⟨(some 111), .bin .neq (.t 109) (.t 110), (some (108, true)), false⟩,
 ⟨(some 112), .pick (.t 108) (.t 111) (.k (.bool false)), (some (106, false)), false⟩,
 p 113 (.pick (.t 106) (.k (.bool true)) (.t 112))])
 (.cond (.t 113) (.seq (.rg [p 2 (.mv (.k (.bool false)))])
 .ret)
 .skip))
 (.seq (.rg [p 115 (.mv (.t 4)),
 p 116 (.call 48 [(.t 115)]),
 p 117 (.call 78 [(.t 116)]),
 p 114 (.mv (.t 117)),
 p 118 (.ext 0 (.t 114)),
 p 119 (.ext 1 (.t 114)),
 p 13 (.mv (.t 118)),
 p 14 (.mv (.t 119))])
 (.seq (.rg [p 121 (.mv (.t 0)),
 p 122 (.call 195 [(.t 121)]),
 p 123 (.call 65 [(.t 122)]),
 p 120 (.mv (.t 123)),
 p 124 (.ext 0 (.t 120)),
 p 125 (.ext 1 (.t 120)),
 p 15 (.mv (.t 124)),
 p 16 (.mv (.t 125))])
 (.seq (.rg [p 126 (.mv (.t 14)),
 p 127 (.mv (.t 126)),
 ⟨(some 128), .mv (.t 13), (some (127, true)), false⟩,
 ⟨(some 129), .mv (.t 4), (some (127, true)), false⟩,
 ⟨(some 130), .bin .eql (.t 128) (.t 129), (some (127, true)), false⟩,
 p 131 (.pick (.t 127) (.t 130) (.k (.bool false))),
 p 132 (.mv (.t 131)),
 ⟨(some 133), .mv (.t 16), (some (132, true)), false⟩,
 ⟨(some 134), .bin .eql (.t 133) (.k (.int .i64 0)), (some (132, true)), false⟩,
 ⟨(some 135), .mv (.t 134), (some (132, true)), false⟩,
 ⟨(some 136), .mv (.t 16), (some (135, false)), false⟩,
 ⟨(some 137), .bin .gtr (.t 136) (.k (.int .i64 0)), (some (135, false)), false⟩,
 ⟨(some 138), .mv (.t 137), (some (135, false)), false⟩,
 ⟨(some 139), .mv (.t 16), (some (138, true)), false⟩,
 ⟨(some 140), .mv (.t 0), (some (138, true)), false⟩,
 ⟨(some 141), .call 195 [(.t 140)], (some (138, true)), false⟩,
 ⟨(some 142), .lens (.t 141), (some (138, true)), false⟩,
 ⟨(some 143), .bin .leq (.t 139) (.t 142), (some (138, true)), false⟩,
 ⟨(some 144), .pick (.t 138) (.t 143) (.k (.bool false)), (some (135, false)), false⟩,
 ⟨(some 145), .mv (.t 144), (some (135, false)), false⟩,
 ⟨(some 146), .mv (.t 16), (some (145, true)), false⟩,
 ⟨(some 147), .bin .gtr (.t 146) (.k (.int .i64 0)), (some (145, true)), false⟩,
 ⟨(some 148), .pick (.t 145) (.t 147) (.k (.bool false)), (some (135, false)), false⟩,
 ⟨(some 149), .mv (.t 148), (some (135, false)), false⟩,
 ⟨(some 150), .mv (.t 16), (some (149, true)), false⟩,
 ⟨(some 151), .mv (.t 0), (some (149, true)), false⟩,
 ⟨(some 152), .call 195 [(.t 151)], (some (149, true)), false⟩,
 ⟨(some 153), .lens (.t 152), (some (149, true)), false⟩,
 ⟨(some 154), .bin .leq (.t 150) (.t 153), (some (149, true)), false⟩,
 ⟨(some 155), .pick (.t 149) (.t 154) (.k (.bool false)), (some (135, false)), false⟩,
 ⟨(some 156), .mv (.t 155), (some (135, false)), false⟩,
 ⟨(some 157), .mv (.t 15), (some (156, true)), false⟩,
 ⟨(some 158), .call 79 [(.t 157)], (some (156, true)), false⟩,
 ⟨(some 159), .mv (.t 0), (some (156, true)), false⟩,
 ⟨(some 160), .call 195 [(.t 159)], (some (156, true)), false⟩,
 ⟨(some 161), .mv (.t 16), (some (156, true)), false⟩,
 ⟨(some 162), .sls (.t 160) none (some (.t 161)), (some (156, true)), false⟩,
 ⟨(some 163), .bin .eql (.t 158) (.t 162), (some (156, true)), false⟩,
 ⟨(some 164), .pick (.t 156) (.t 163) (.k (.bool false)), (some (135, false)), false⟩,
 ⟨(some 165), .pick (.t 135) (.k (.bool true)) (.t 164), (some (132, true)), false⟩,
 p 166 (.pick (.t 132) (.t 165) (.k (.bool false))),
 p 2 (.mv (.t 166))])
 .ret))))))))))))))),
 [.tmp 2]⟩
def F123 : Fnc := ⟨(.seq (.rg [p 2 (.mv (.k (.bool false)))])
 (.seq (.rg [p 3 (.mv (.t 0)),
 p 4 (.len (.t 3)),
 p 5 (.bin .gtr (.t 4) (.k (.int .i64 1048576))),
 p 2 (.mv (.t 5))])
 .ret)),
 [.tmp 2]⟩
def F193 : Fnc := ⟨(.seq (.rg [p 2 (.mv (.k (.string ⟨#[]⟩)))])
 (.seq (.rg [p 4 (.mv (.t 0)),
 p 5 (.call 231 [(.t 4)]),
 p 3 (.mv (.t 5))])
 (.seq (.rg [p 6 (.mv (.t 3)),
 p 7 (.call 236 [(.t 6), (.k (.int .i64 40))]),
 p 2 (.mv (.t 7))])
 .ret))),
 [.tmp 2]⟩
def F195 : Fnc := ⟨(.seq (.rg [p 2 (.mv (.k (.string ⟨#[]⟩)))])
 (.seq (.rg [p 5 (.mv (.t 0)),
 p 6 (.call 231 [(.t 5)]),
 p 3 (.mv (.t 6))])
 (.seq (.rg [p 7 (.mv (.t 3)),
 p 8 (.call 232 [(.t 7)]),
 p 9 (.call 216 [(.t 8)]),
 p 10 (.mv (.t 3)),
 p 11 (.call 236 [(.t 10), (.k (.int .i64 4))]),
 p 12 (.bin .add (.t 9) (.t 11)),
 p 4 (.mv (.t 12))])
 (.seq (.seq (.rg [p 13 (.mv (.t 3)),
 p 14 (.call 233 [(.t 13), (.k (.int .i64 4))])])
 (.cond (.t 14) (.seq (.rg [p 15 (.mv (.t 3)),
 p 16 (.mv (.t 4)),
 p 17 (.call 235 [(.t 15), (.t 16)]),
 p 2 (.mv (.t 17))])
 .ret)
 .skip))
 (.seq (.rg [p 18 (.mv (.t 4)),
 p 2 (.mv (.t 18))])
 .ret))))),
 [.tmp 2]⟩
def F196 : Fnc := ⟨(.seq (.rg [p 2 (.mv (.k (.int .i64 0)))])
 (.seq (.rg [p 4 (.mv (.t 0)),
 p 5 (.call 231 [(.t 4)]),
 p 3 (.mv (.t 5))])
 (.seq (.rg [p 6 (.mv (.t 3)),
 p 7 (.call 232 [(.t 6)]),
 p 2 (.mv (.t 7))])
 .ret))),
 [.tmp 2]⟩
def F216 : Fnc := ⟨(.seq (.rg [p 2 (.mv (.k (.string ⟨#[]⟩)))])
 (.seq (.seq (.rg [p 4 (.mv (.t 0)),
 p 5 (.call 230 [(.t 4), (.k (.int .i64 0)), (.k (.int .i64 562949953421311))]),
 p 6 (.not (.t 5))])
 (.cond (.t 6) (.seq (.rg [p 2 (.mv (.k (.string ⟨#[]⟩)))])
 .ret)
 .skip))
 (.seq (.rg [p 7 (.bs 1 0 [.int .u8 0] []),
 p 3 (.mv (.t 7))])
 (.seq (.block 0 (.loop (.seq (.seq (.rg [p 8 (.mv (.t 0)),
 p 9 (.bin .geq (.t 8) (.k (.int .i64 128)))])
 (.cond (.t 9) .skip
 (.exit 0)))
 (.block 1 (.seq (.rg [p 10 (.mv (.t 3)),
 p 11 (.mv (.t 0)),
 p 12 (.bin .rem (.t 11) (.k (.int .i64 128))),
 p 13 (.bin .add (.k (.int .i64 128)) (.t 12)),
 p 14 (.cvi .u8 (.t 13)),
 p 15 (.bs 1 1 [.int .u8 0] [(0, (.t 14))]),
 p 16 (.app 1 1 (.t 10) (.t 15)),
 p 3 (.mv (.t 16))])
 (.rg [p 17 (.mv (.t 0)),
 p 18 (.bin .quo (.t 17) (.k (.int .i64 128))),
 p 0 (.mv (.t 18))]))))))
 (.seq (.rg [p 19 (.mv (.t 3)),
 p 20 (.mv (.t 0)),
 p 21 (.cvi .u8 (.t 20)),
 p 22 (.bs 1 1 [.int .u8 0] [(0, (.t 21))]),
 p 23 (.app 1 1 (.t 19) (.t 22)),
 p 24 (.cvbs (.t 23)),
 p 2 (.mv (.t 24))])
 .ret))))),
 [.tmp 2]⟩
def F228 : Fnc := ⟨(.seq (.rg [p 4 (.mv (.k (.int .i64 0)))])
 (.seq (.seq (.rg [p 9 (.mv (.t 1)),
 p 10 (.bin .leq (.t 9) (.k (.int .i64 0)))])
 (.cond (.t 10) (.seq (.rg [p 4 (.mv (.k (.int .i64 0)))])
 .ret)
 .skip))
 (.seq (.seq (.rg [p 11 (.mv (.t 1)),
 p 12 (.bin .leq (.t 11) (.k (.int .i64 256)))])
 (.cond (.t 12) (.seq (.rg [p 13 (.mv (.t 0)),
 p 14 (.call 229 [(.t 13)]),
 p 15 (.mv (.t 1)),
 p 16 (.bin .rem (.t 14) (.t 15)),
 p 4 (.mv (.t 16))])
 .ret)
 .skip))
 (.seq (.rg [p 17 (.mv (.t 0)),
 p 18 (.call 229 [(.t 17)]),
 p 5 (.mv (.t 18))])
 (.seq (.rg [p 19 (.mv (.t 0)),
 p 20 (.call 229 [(.t 19)]),
 p 6 (.mv (.t 20))])
 (.seq (.rg [p 21 (.mv (.t 0)),
 p 22 (.call 229 [(.t 21)]),
 p 7 (.mv (.t 22))])
 (.seq (.rg [p 23 (.mv (.t 0)),
 p 24 (.call 229 [(.t 23)]),
 p 8 (.mv (.t 24))])
 (.seq (.rg [p 25 (.mv (.t 5)),
 p 26 (.bin .mul (.t 25) (.k (.int .i64 16777216))),
 p 27 (.mv (.t 6)),
 p 28 (.bin .mul (.t 27) (.k (.int .i64 65536))),
 p 29 (.bin .add (.t 26) (.t 28)),
 p 30 (.mv (.t 7)),
 p 31 (.bin .mul (.t 30) (.k (.int .i64 256))),
 p 32 (.bin .add (.t 29) (.t 31)),
 p 33 (.mv (.t 8)),
 p 34 (.bin .add (.t 32) (.t 33)),
 p 35 (.mv (.t 1)),
 p 36 (.bin .rem (.t 34) (.t 35)),
 p 4 (.mv (.t 36))])
 .ret)))))))),
 [.tmp 4]⟩
def F229 : Fnc := ⟨(.seq (.rg [p 2 (.mv (.k (.int .i64 0)))])
 (.seq (.rg [p 4 (.mv (.t 0)),
 p 5 (.mv (.t 0)),
 p 6 (.nilc (.t 5)),
 p 7 (.fa 2 (.t 6)),
 p 8 (.ld (.t 7)),
 p 9 (.bin .mul (.t 8) (.k (.int .i64 6364136223846793005))),
 p 10 (.bin .add (.t 9) (.k (.int .i64 1442695040888963407))),
 p 11 (.nilc (.t 4)),
 p 12 (.fa 2 (.t 11)),
 ⟨none, .st (.t 12) (.t 10), none, false⟩])
 (.seq (.rg [⟨(some 13), .mv (.t 0), none, true⟩,
 ⟨(some 14), .nilc (.t 13), none, true⟩,
 ⟨(some 15), .fa 2 (.t 14), none, true⟩,
 ⟨(some 16), .ld (.t 15), none, true⟩,
 ⟨(some 17), .bin .shr (.t 16) (.k (.int .u64 33)), none, true⟩,
 ⟨(some 18), .mv (.t 0), none, true⟩,
 ⟨(some 19), .nilc (.t 18), none, true⟩,
 ⟨(some 20), .fa 2 (.t 19), none, true⟩,
 ⟨(some 21), .ld (.t 20), none, true⟩,
 ⟨(some 22), .bin .shr (.t 21) (.k (.int .u64 45)), none, true⟩,
 p 23 (.bin .xor (.t 17) (.t 22)),
 p 24 (.bin .and (.t 23) (.k (.int .i64 255))),
 p 3 (.mv (.t 24))])
 (.seq (.seq (.rg [⟨(some 25), .mv (.t 0), none, true⟩,
 ⟨(some 26), .nilc (.t 25), none, true⟩,
 ⟨(some 27), .fa 1 (.t 26), none, true⟩,
 ⟨(some 28), .ld (.t 27), none, true⟩,
 ⟨(some 29), .mv (.t 0), none, true⟩,
 ⟨(some 30), .nilc (.t 29), none, true⟩,
 ⟨(some 31), .fa 0 (.t 30), none, true⟩,
 ⟨(some 32), .ld (.t 31), none, true⟩,
 ⟨(some 33), .len (.t 32), none, true⟩,
 p 34 (.bin .lss (.t 28) (.t 33))])
 (.cond (.t 34) (.seq (.rg [⟨(some 35), .mv (.t 3), none, true⟩,
 ⟨(some 36), .mv (.t 0), none, true⟩,
 ⟨(some 37), .nilc (.t 36), none, true⟩,
 ⟨(some 38), .fa 0 (.t 37), none, true⟩,
 ⟨(some 39), .ld (.t 38), none, true⟩,
 ⟨(some 40), .mv (.t 0), none, true⟩,
 ⟨(some 41), .nilc (.t 40), none, true⟩,
 ⟨(some 42), .fa 1 (.t 41), none, true⟩,
 ⟨(some 43), .ld (.t 42), none, true⟩,
 ⟨(some 44), .ia 1 (.t 39) (.t 43), none, true⟩,
 ⟨(some 45), .ld (.t 44), none, true⟩,
 ⟨(some 46), .cvi .i64 (.t 45), none, true⟩,
 p 47 (.bin .add (.t 35) (.t 46)),
 p 48 (.bin .and (.t 47) (.k (.int .i64 255))),
 p 3 (.mv (.t 48))])
 (.rg [p 49 (.mv (.t 0)),
 p 50 (.mv (.t 0)),
 p 51 (.nilc (.t 50)),
 p 52 (.fa 1 (.t 51)),
 p 53 (.ld (.t 52)),
 p 54 (.bin .add (.t 53) (.k (.int .i64 1))),
 p 55 (.nilc (.t 49)),
 p 56 (.fa 1 (.t 55)),
 ⟨none, .st (.t 56) (.t 54), none, false⟩]))
 .skip))
 (.seq (.rg [p 57 (.mv (.t 3)),
 p 2 (.mv (.t 57))])
 .ret))))),
 [.tmp 2]⟩
def F230 : Fnc := ⟨(.seq (.rg [p 6 (.mv (.k (.bool false)))])
 (.seq (.rg [p 7 (.mv (.t 0)),
 p 8 (.mv (.t 1)),
 p 9 (.bin .geq (.t 7) (.t 8)),
 p 10 (.mv (.t 9)),
 ⟨(some 11), .mv (.t 0), (some (10, true)), false⟩,
 ⟨(some 12), .mv (.t 2), (some (10, true)), false⟩,
 ⟨(some 13), .bin .leq (.t 11) (.t 12), (some (10, true)), false⟩,
 p 14 (.pick (.t 10) (.t 13) (.k (.bool false))),
 p 6 (.mv (.t 14))])
 .ret)),
 [.tmp 6]⟩
def F231 : Fnc := ⟨(.seq (.rg [p 2 (.mv (.k (.pointer none)))])
 (.seq (.rg [p 5 (.mv (.t 0)),
 p 6 (.len (.t 5)),
 p 7 (.bin .add (.k (.int .i64 10101)) (.t 6)),
 p 3 (.mv (.t 7))])
 (.seq (.seq (.rg [p 4 (.mv (.k (.int .i64 0)))])
 (.block 0 (.loop (.seq (.seq (.rg [p 8 (.mv (.t 4)),
 p 9 (.mv (.t 0)),
 p 10 (.len (.t 9)),
 p 11 (.bin .lss (.t 8) (.t 10)),
 p 12 (.mv (.t 11)),
 ⟨(some 13), .mv (.t 4), (some (12, true)), false⟩,
 ⟨(some 14), .bin .lss (.t 13) (.k (.int .i64 4000)), (some (12, true)), false⟩,
 p 15 (.pick (.t 12) (.t 14) (.k (.bool false)))])
 (.cond (.t 15) .skip
 (.exit 0)))
 (.seq (.block 1 (.rg [p 18 (.mv (.t 3)),
 p 19 (.bin .mul (.t 18) (.k (.int .i64 131))),
 p 20 (.mv (.t 0)),
 p 21 (.mv (.t 4)),
 p 22 (.ia 1 (.t 20) (.t 21)),
 p 23 (.ld (.t 22)),
 p 24 (.cvi .i64 (.t 23)),
 p 25 (.bin .add (.t 19) (.t 24)),
 p 26 (.bin .add (.t 25) (.k (.int .i64 7))),
 p 27 (.bin .and (.t 26) (.k (.int .i64 1073741823))),
 p 3 (.mv (.t 27))]))
 (.rg [p 16 (.mv (.t 4)),
 p 17 (.bin .add (.t 16) (.k (.int .i64 1))),
 p 4 (.mv (.t 17))]))))))
 (.seq (.rg [p 28 (.mv (.t 0)),
 p 29 (.mv (.t 3)),
 p 30 (.bd [.slice none 0 0, .int .i64 0, .int .i64 0] [(0, 1, (.t 28)), (2, 1, (.t 29))]),
 p 31 (.box (.t 30)),
 p 2 (.mv (.t 31))])
 .ret)))),
 [.tmp 2]⟩
def F232 : Fnc := ⟨(.seq (.rg [p 2 (.mv (.k (.int .i64 0)))])
 (.seq (.seq (.rg [p 3 (.mv (.t 0)),
 p 4 (.call 228 [(.t 3), (.k (.int .i64 8))])])
 (.block 0 (.seq (.rg [p 6 (.bin .eql (.t 4) (.k (.int .i64 0))),
 p 5 (.mv (.t 6))])
 (.cond (.t 5) (.seq (.rg [p 7 (.mv (.t 0)),
 p 8 (.bs 1 17 [.int .i64 0] [(0, (.k (.int .i64 (-1)))), (1, (.k (.int .i64 0))), (2, (.k (.int .i64 127))), (3, (.k (.int .i64 128))), (4, (.k (.int .i64 255))), (5, (.k (.int .i64 256))), (6, (.k (.int .i64 16383))), (7, (.k (.int .i64 16384))), (8, (.k (.int .i64 65535))), (9, (.k (.int .i64 65536))), (10, (.k (.int .i64 562949953421311))), (11, (.k (.int .i64 562949953421312))), (12, (.k (.int .i64 999999999))), (13, (.k (.int .i64 1000000000))), (14, (.k (.int .i64 (-999999999)))), (15, (.k (.int .i64 9223372036854775807))), (16, (.k (.int .i64 (-9223372036854775808))))]),
 p 9 (.call 234 [(.t 7), (.t 8)]),
 p 2 (.mv (.t 9))])
 .ret)
 (.seq (.rg [p 11 (.bin .eql (.t 4) (.k (.int .i64 1))),
 p 10 (.mv (.t 11))])
 (.cond (.t 10) (.seq (.rg [p 12 (.mv (.t 0)),
 p 13 (.call 228 [(.t 12), (.k (.int .i64 1000000000))]),
 p 14 (.mv (.t 0)),
 p 15 (.call 228 [(.t 14), (.k (.int .i64 1000000000))]),
 p 16 (.bin .mul (.t 13) (.t 15)),
 p 2 (.mv (.t 16))])
 .ret)
 (.seq (.rg [p 18 (.bin .eql (.t 4) (.k (.int .i64 2))),
 p 17 (.mv (.t 18))])
 (.cond (.t 17) (.seq (.rg [p 19 (.mv (.t 0)),
 p 20 (.call 228 [(.t 19), (.k (.int .i64 100000))]),
 p 21 (.neg (.t 20)),
 p 2 (.mv (.t 21))])
 .ret)
 .skip))))))))
 (.seq (.rg [p 22 (.mv (.t 0)),
 p 23 (.call 228 [(.t 22), (.k (.int .i64 70000))]),
 p 2 (.mv (.t 23))])
 .ret))),
 [.tmp 2]⟩
def F233 : Fnc := ⟨(.seq (.rg [p 4 (.mv (.k (.bool false)))])
 (.seq (.rg [p 5 (.mv (.t 0)),
 p 6 (.mv (.t 1)),
 p 7 (.call 228 [(.t 5), (.t 6)]),
 p 8 (.bin .eql (.t 7) (.k (.int .i64 0))),
 p 4 (.mv (.t 8))])
 .ret)),
 [.tmp 4]⟩
def F234 : Fnc := ⟨(.seq (.rg [p 4 (.mv (.k (.int .i64 0)))])
 (.seq (.rg [p 5 (.mv (.t 1)),
 p 6 (.mv (.t 0)),
 p 7 (.mv (.t 1)),
 p 8 (.len (.t 7)),
 p 9 (.call 228 [(.t 6), (.t 8)]),
 p 10 (.ia 1 (.t 5) (.t 9)),
 p 11 (.ld (.t 10)),
 p 4 (.mv (.t 11))])
 .ret)),
 [.tmp 4]⟩
def F235 : Fnc := ⟨(.seq (.rg [p 4 (.mv (.k (.string ⟨#[]⟩)))])
 (.seq (.seq (.rg [p 6 (.mv (.t 1)),
 p 7 (.lens (.t 6)),
 p 8 (.bin .eql (.t 7) (.k (.int .i64 0)))])
 (.cond (.t 8) (.seq (.rg [p 9 (.mv (.t 0)),
 p 10 (.call 236 [(.t 9), (.k (.int .i64 3))]),
 p 4 (.mv (.t 10))])
 .ret)
 .skip))
 (.seq (.rg [p 11 (.mv (.t 0)),
 p 12 (.mv (.t 1)),
 p 13 (.lens (.t 12)),
 p 14 (.call 228 [(.t 11), (.t 13)]),
 p 5 (.mv (.t 14))])
 (.seq (.seq (.rg [p 15 (.mv (.t 0)),
 p 16 (.call 228 [(.t 15), (.k (.int .i64 4))])])
 (.block 0 (.seq (.rg [p 18 (.bin .eql (.t 16) (.k (.int .i64 0))),
 p 17 (.mv (.t 18))])
 (.cond (.t 17) (.seq (.rg [⟨(some 19), .mv (.t 1), none, true⟩,
 ⟨(some 20), .mv (.t 5), none, true⟩,
 ⟨(some 21), .sls (.t 19) none (some (.t 20)), none, true⟩,
 ⟨(some 22), .mv (.t 1), none, true⟩,
 ⟨(some 23), .mv (.t 5), none, true⟩,
 ⟨(some 24), .bin .add (.t 23) (.k (.int .i64 1)), none, true⟩,
 ⟨(some 25), .sls (.t 22) (some (.t 24)) none, none, true⟩,
 p 26 (.bin .add (.t 21) (.t 25)),
 p 4 (.mv (.t 26))])
 .ret)
 (.seq (.rg [p 28 (.bin .eql (.t 16) (.k (.int .i64 1))),
 p 27 (.mv (.t 28))])
 (.cond (.t 27) (.seq (.rg [⟨(some 29), .mv (.t 1), none, true⟩,
 ⟨(some 30), .mv (.t 5), none, true⟩,
 ⟨(some 31), .sls (.t 29) none (some (.t 30)), none, true⟩,
 ⟨(some 32), .mv (.t 0), none, true⟩,
 ⟨(some 33), .call 229 [(.t 32)], none, true⟩,
 ⟨(some 34), .cvi .u8 (.t 33), none, true⟩,
 ⟨(some 35), .bs 1 1 [.int .u8 0] [(0, (.t 34))], none, true⟩,
 ⟨(some 36), .cvbs (.t 35), none, true⟩,
 ⟨(some 37), .bin .add (.t 31) (.t 36), none, true⟩,
 ⟨(some 38), .mv (.t 1), none, true⟩,
 ⟨(some 39), .mv (.t 5), none, true⟩,
 ⟨(some 40), .sls (.t 38) (some (.t 39)) none, none, true⟩,
 p 41 (.bin .add (.t 37) (.t 40)),
 p 4 (.mv (.t 41))])
 .ret)
 (.seq (.rg [p 43 (.bin .eql (.t 16) (.k (.int .i64 2))),
 p 42 (.mv (.t 43))])
 (.cond (.t 42) (.seq (.rg [p 44 (.mv (.t 1)),
 p 45 (.mv (.t 5)),
 p 46 (.sls (.t 44) none (some (.t 45))),
 p 4 (.mv (.t 46))])
 .ret)
 .skip))))))))
 (.seq (.rg [⟨(some 47), .mv (.t 1), none, true⟩,
 ⟨(some 48), .mv (.t 5), none, true⟩,
 ⟨(some 49), .sls (.t 47) none (some (.t 48)), none, true⟩,
 ⟨(some 50), .mv (.t 1), none, true⟩,
 ⟨(some 51), .mv (.t 5), none, true⟩,
 ⟨(some 52), .ix (.t 50) (.t 51), none, true⟩,
 ⟨(some 53), .cvi .i64 (.t 52), none, true⟩,
 ⟨(some 54), .mv (.t 0), none, true⟩,
 ⟨(some 55), .call 228 [(.t 54), (.k (.int .i64 255))], none, true⟩,
 ⟨(some 56), .bin .add (.k (.int .i64 1)) (.t 55), none, true⟩,
 ⟨(some 57), .bin .xor (.t 53) (.t 56), none, true⟩,
 ⟨(some 58), .cvi .u8 (.t 57), none, true⟩,
 ⟨(some 59), .bs 1 1 [.int .u8 0] [(0, (.t 58))], none, true⟩,
 ⟨(some 60), .cvbs (.t 59), none, true⟩,
 ⟨(some 61), .bin .add (.t 49) (.t 60), none, true⟩,
 ⟨(some 62), .mv (.t 1), none, true⟩,
 ⟨(some 63), .mv (.t 5), none, true⟩,
 ⟨(some 64), .bin .add (.t 63) (.k (.int .i64 1)), none, true⟩,
 ⟨(some 65), .sls (.t 62) (some (.t 64)) none, none, true⟩,
 p 66 (.bin .add (.t 61) (.t 65)),
 p 4 (.mv (.t 66))])
 .ret))))),
 [.tmp 4]⟩
def F236 : Fnc := ⟨(.seq (.rg [p 4 (.mv (.k (.string ⟨#[]⟩)))])
 (.seq (.rg [p 9 (.bs 1 0 [.int .u8 0] []),
 p 5 (.mv (.t 9))])
 (.seq (.rg [p 10 (.mv (.t 0)),
 p 11 (.call 228 [(.t 10), (.k (.int .i64 4))]),
 p 6 (.mv (.t 11))])
 (.seq (.seq (.rg [p 12 (.mv (.t 0)),
 p 13 (.mv (.t 1)),
 p 14 (.bin .add (.t 13) (.k (.int .i64 1))),
 p 15 (.call 228 [(.t 12), (.t 14)]),
 p 7 (.mv (.t 15))])
 (.block 0 (.loop (.seq (.seq (.rg [p 16 (.mv (.t 7)),
 p 17 (.bin .gtr (.t 16) (.k (.int .i64 0)))])
 (.cond (.t 17) .skip
 (.exit 0)))
 (.seq (.block 1 (.seq (.rg [p 20 (.mv (.t 0)),
 p 21 (.call 229 [(.t 20)]),
 p 8 (.mv (.t 21))])
 (.seq (.seq (.rg [p 22 (.mv (.t 6)),
 p 23 (.bin .eql (.t 22) (.k (.int .i64 1)))])
 (.cond (.t 23) (.rg [p 24 (.mv (.t 8)),
 p 25 (.bin .rem (.t 24) (.k (.int .i64 2))),
 p 8 (.mv (.t 25))])
 .skip))
 (.seq (.seq (.rg [p 26 (.mv (.t 6)),
 p 27 (.bin .eql (.t 26) (.k (.int .i64 2)))])
 (.cond (.t 27) (.rg [p 28 (.mv (.t 8)),
 p 29 (.bin .rem (.t 28) (.k (.int .i64 4))),
 p 30 (.bin .add (.k (.int .i64 97)) (.t 29)),
 p 8 (.mv (.t 30))])
 .skip))
 (.rg [p 31 (.mv (.t 5)),
 p 32 (.mv (.t 8)),
 p 33 (.cvi .u8 (.t 32)),
 p 34 (.bs 1 1 [.int .u8 0] [(0, (.t 33))]),
 p 35 (.app 1 1 (.t 31) (.t 34)),
 p 5 (.mv (.t 35))])))))
 (.rg [p 18 (.mv (.t 7)),
 p 19 (.bin .sub (.t 18) (.k (.int .i64 1))),
 p 7 (.mv (.t 19))]))))))
 (.seq (.rg [p 36 (.mv (.t 5)),
 p 37 (.cvbs (.t 36)),
 p 4 (.mv (.t 37))])
 .ret))))),
 [.tmp 4]⟩
end Go.Proofs.YtoppcdecolponaaDoor.AL
namespace Go.Proofs.YtoppcdecolponaaDoor.AL
open Go
def prgT : List (Nat × Fnc) := [(38, F38),
 (45, F45),
 (48, F48),
 (63, F63),
 (64, F64),
 (65, F65),
 (78, F78),
 (79, F79),
 (103, F103),
 (121, F121),
 (123, F123),
 (193, F193),
 (195, F195),
 (196, F196),
 (216, F216),
 (228, F228),
 (229, F229),
 (230, F230),
 (231, F231),
 (232, F232),
 (233, F233),
 (234, F234),
 (235, F235),
 (236, F236)]
def prg : Prg := fun f => prgT.lookup f
theorem g38 : prg 38 = some F38 := by kernel_rfl
theorem g45 : prg 45 = some F45 := by kernel_rfl
theorem g48 : prg 48 = some F48 := by kernel_rfl
theorem g63 : prg 63 = some F63 := by kernel_rfl
theorem g64 : prg 64 = some F64 := by kernel_rfl
theorem g65 : prg 65 = some F65 := by kernel_rfl
theorem g78 : prg 78 = some F78 := by kernel_rfl
theorem g79 : prg 79 = some F79 := by kernel_rfl
theorem g103 : prg 103 = some F103 := by kernel_rfl
theorem g121 : prg 121 = some F121 := by kernel_rfl
theorem g123 : prg 123 = some F123 := by kernel_rfl
theorem g193 : prg 193 = some F193 := by kernel_rfl
theorem g195 : prg 195 = some F195 := by kernel_rfl
theorem g196 : prg 196 = some F196 := by kernel_rfl
theorem g216 : prg 216 = some F216 := by kernel_rfl
theorem g228 : prg 228 = some F228 := by kernel_rfl
theorem g229 : prg 229 = some F229 := by kernel_rfl
theorem g230 : prg 230 = some F230 := by kernel_rfl
theorem g231 : prg 231 = some F231 := by kernel_rfl
theorem g232 : prg 232 = some F232 := by kernel_rfl
theorem g233 : prg 233 = some F233 := by kernel_rfl
theorem g234 : prg 234 = some F234 := by kernel_rfl
theorem g235 : prg 235 = some F235 := by kernel_rfl
theorem g236 : prg 236 = some F236 := by kernel_rfl
theorem prg_ok : prgT.all (fun p => p.2.body.ok) = true := by kernel_rfl
end Go.Proofs.YtoppcdecolponaaDoor.AL
