/- What a run leaves alone; of which slots a step asks. -/
import Derived.Test.YtoppcdecolponaaDoorAlW
namespace Go.Proofs.YtoppcdecolponaaDoor.AL
open Go
set_option linter.unusedVariables false
set_option linter.unusedSimpArgs false
theorem upd_keep {m : Mem} {b0 b : Nat} {x : Option Blk} {blk : Blk} (h : b ≠ b0) (e : upd m b0 x b = some blk) : m b = some blk := by
 simp only [upd, if_neg h] at e; exact e
theorem wrn_keep {bs : Nat} {m m1 : Mem} {a : Addr} {vs : List Value} (hw : wrn bs m a vs = some m1) {b : Nat} {blk : Blk} (hb : b < bs) (e : m1 b = some blk) : m b = some blk := by
 unfold wrn at hw
 split at hw
 · cases hw
 · split at hw
   · split at hw
     · rename_i h; cases hw; exact upd_keep (by omega) e
     · cases hw
   · cases hw
theorem wr_keep {bs : Nat} {m m1 : Mem} {a : Addr} {v : Value} (hw : wr bs m a v = some m1) {b : Nat} {blk : Blk} (hb : b < bs) (e : m1 b = some blk) : m b = some blk := by
 unfold wr at hw
 split at hw
 · cases hw
 · split at hw
   · split at hw
     · rename_i h; cases hw; exact upd_keep (by omega) e
     · cases hw
   · cases hw
theorem step_keep {bs n n1 : Nat} {io : O} {tm : Tm} {m m1 : Mem} {v : Value} (hs : stepO bs io tm m n = some (v, m1, n1)) : n ≤ n1 ∧ ∀ b blk, b < bs → b < n → m1 b = some blk → m b = some blk := by
 have h1 : ∀ x : Option Blk, n ≤ n + 1 ∧ ∀ b blk, b < bs → b < n → upd m n x b = some blk → m b = some blk := fun x => ⟨by omega, fun b blk _ hb e => upd_keep (by omega) e⟩
 have h2 : n ≤ n ∧ ∀ b blk, b < bs → b < n → m b = some blk → m b = some blk := ⟨Nat.le_refl _, fun _ _ _ _ e => e⟩
 have h3 : ∀ (b0 : Nat) (x : Option Blk), bs ≤ b0 → n ≤ n + 1 ∧ ∀ b blk, b < bs → b < n → upd (upd m b0 none) n x b = some blk → m b = some blk :=
  fun b0 x h0 => ⟨by omega, fun b blk hb hn e => upd_keep (by omega) (upd_keep (by omega) e)⟩
 cases io with
 | app sz by_ s x =>
   simp only [stepO] at hs
   split at hs
   · split at hs
     · split at hs
       · simp only [Option.some.injEq, Prod.mk.injEq] at hs; obtain ⟨_, rfl, rfl⟩ := hs; exact h2
       · split at hs
         · cases hs
         · split at hs
           · cases hs
           · split at hs
             · split at hs
               · split at hs
                 · simp only [Option.some.injEq, Prod.mk.injEq] at hs; obtain ⟨_, rfl, rfl⟩ := hs; exact h1 _
                 · cases hs
               · split at hs
                 · cases hs
                 · split at hs
                   · cases hs
                   · split at hs
                     · rename_i hc
                       simp only [Option.some.injEq, Prod.mk.injEq] at hs; obtain ⟨_, rfl, rfl⟩ := hs; exact h3 _ _ hc.1
                     · cases hs
             · cases hs
     · cases hs
   · cases hs
 | _ =>
   simp only [stepO] at hs
   repeat' (split at hs)
   all_goals first
    | (cases hs; done)
    | (simp only [Option.some.injEq, Prod.mk.injEq] at hs; obtain ⟨_, rfl, rfl⟩ := hs; first | exact h1 _ | exact h2 | exact ⟨Nat.le_refl _, fun b blk hb _ e => wr_keep (by assumption) hb e⟩ | exact ⟨Nat.le_refl _, fun b blk hb _ e => wrn_keep (by assumption) hb e⟩)
theorem stepA_keep {bs n n1 : Nat} {io : O} {tm : Tm} {m m1 : Mem} {v : Value} (hs : stepA bs io tm m n = some (v, m1, n1)) : n ≤ n1 ∧ ∀ b blk, b < bs → b < n → m1 b = some blk → m b = some blk := by
 obtain ⟨sz, x, lo, hi, a, len, cap, h, l, b, _, _, _, _, _, _, _, _, hb, hbs, _, _, _, rfl, rfl, rfl⟩ := stepA_inv hs
 exact ⟨by omega, fun b' blk h1 h2 e => upd_keep (by omega) (upd_keep (by omega) e)⟩
def Task.mem (T : Task) (m : Mem) : Mem := match T with
 | .opsH h _ _ _ => mrg h m
 | _ => m
theorem mrg_keep {h m m1 : Mem} {b : Nat} {blk : Blk} (hk : m1 b = some blk → m b = some blk) (e : mrg h m1 b = some blk) : mrg h m b = some blk := by
 rcases mrg_inv e with e | ⟨e0, e⟩
 · exact mrg_some e
 · rw [mrg_none e0]; exact hk e
theorem HvR.back {o : O} {tm : Tm} {n : Nat} {h m mh mh' h2 m2 : Mem} {X : Xs} {T : List Nat} (hv : HvR o tm n h X T m mh mh' h2 m2) {b : Nat} {x : Blk} (hb : b < n) (e : mrg h2 m2 b = some x) : mrg h m b = some x ∨ (b ∈ T ∧ mh' b = some x) := by
 rcases mrg_inv e with e1 | ⟨e0, e1⟩
 · rcases hv.outH b x e1 with ⟨_, _, e2⟩ | ⟨e2 | e2, e3⟩
   · exact .inl (mrg_some e2)
   · exact .inr ⟨e2, e3⟩
   · omega
 · rcases hv.outM b x e1 with ⟨_, e2⟩ | ⟨e2, _⟩
   · refine .inl ?_
     cases e3 : h b with
     | none => rw [mrg_none e3]; exact e2
     | some y =>
       by_cases hT : b ∈ T
       · have := (hv.tgt b hT).2.1; rw [this] at e2; cases e2
       · have := hv.stay b y e3 hT; rw [this] at e0; cases e0
   · omega
theorem HvR.row {o : O} {tm : Tm} {n : Nat} {h m mh mh' h2 m2 : Mem} {X : Xs} {T : List Nat} (hv : HvR o tm n h X T m mh mh' h2 m2) {b : Nat} {x : Blk} (hb : b ∈ T) (e : mh b = some x) : mrg h m b = some x := by
 obtain ⟨_, _, ⟨y, h1, h2⟩, _⟩ := hv.tgt b hb
 rw [e] at h2; cases h2; exact mrg_some h1
theorem HvR.nil {o : O} {tm : Tm} {n : Nat} {h m mh mh' h2 m2 : Mem} {X : Xs} {T : List Nat} (hv : HvR o tm n h X T m mh mh' h2 m2) {b : Nat} (hb : b < n) (e : mrg h m b = none) : mrg h2 m2 b = none := by
 obtain ⟨e0, e1⟩ := (show h b = none ∧ m b = none from by
  cases e1 : h b with
  | some x => rw [mrg_some e1] at e; cases e
  | none => exact ⟨rfl, by rw [mrg_none e1] at e; exact e⟩)
 cases e2 : mrg h2 m2 b with
 | none => rfl
 | some x =>
   rcases hv.back hb e2 with e3 | ⟨e3, _⟩
   · rw [e] at e3; cases e3
   · obtain ⟨_, _, ⟨y, h1, _⟩, _⟩ := hv.tgt b e3
     rw [e0] at h1; cases h1
theorem HvR.ownB {o : O} {tm : Tm} {n : Nat} {h m mh mh' h2 m2 : Mem} {X : Xs} {T : List Nat} (hv : HvR o tm n h X T m mh mh' h2 m2) (ho : ∀ b, b < n → Own mh' b → Own mh b) : ∀ b, b < n → Own (mrg h2 m2) b → Own (mrg h m) b := by
 rintro b hb ⟨x, e, hx⟩
 rcases hv.back hb e with e1 | ⟨e1, e2⟩
 · exact ⟨x, e1, hx⟩
 · obtain ⟨y, e3, hy⟩ := ho b hb ⟨x, e2, hx⟩
   exact ⟨y, hv.row e1 e3, hy⟩
theorem Big.keep' {G bs T m n r m1 n1} (h : Big G bs T m n r m1 n1) : n ≤ n1 ∧ ∀ b blk, b < bs → b < n → m1 b = some blk → T.mem m b = some blk := by
 have refl : ∀ (m : Mem) (n bs : Nat), n ≤ n ∧ ∀ b blk, b < bs → b < n → m b = some blk → m b = some blk := fun m n bs => ⟨Nat.le_refl _, fun _ _ _ _ e => e⟩
 have trans : ∀ {m m1 m2 : Mem} {n n1 n2 bs : Nat}, (n ≤ n1 ∧ ∀ b blk, b < bs → b < n → m1 b = some blk → m b = some blk) → (n1 ≤ n2 ∧ ∀ b blk, b < bs → b < n1 → m2 b = some blk → m1 b = some blk) →
  n ≤ n2 ∧ ∀ b blk, b < bs → b < n → m2 b = some blk → m b = some blk :=
  fun h k => ⟨by omega, fun b blk hb hn e => h.2 b blk hb hn (k.2 b blk hb (by omega) e)⟩
 have weak : ∀ {m m1 : Mem} {n n1 bs : Nat} {q : Bool}, (n ≤ n1 ∧ ∀ b blk, b < (if q = true then n else bs) → b < n → m1 b = some blk → m b = some blk) → n ≤ n1 ∧ ∀ b blk, b < bs → b < n → m1 b = some blk → m b = some blk := by
  intro m m1 n n1 bs q h
  refine ⟨h.1, fun b blk hb hn e => h.2 b blk ?_ hn e⟩
  split <;> omega
 induction h with
 | skip => exact refl _ _ _
 | ret => exact refl _ _ _
 | exit => exact refl _ _ _
 | seqN _ _ ih1 ih2 => exact trans ih1 ih2
 | seqE _ _ ih => exact ih
 | cond _ _ ih => exact ih
 | block _ ih => exact ih
 | loopN _ _ ih1 ih2 => exact trans ih1 ih2
 | loopE _ _ ih => exact ih
 | rg _ ih => exact ih
 | opsNil => exact refl _ _ _
 | opsSkip _ _ _ _ ih => exact ih
 | opsNone _ _ _ ih => exact ih
 | opsPure _ hs _ ih => exact trans (weak (step_keep hs)) ih
 | opsAlt _ _ hs _ ih => exact trans (stepA_keep hs) ih
 | opsCall _ _ _ _ ih1 ih2 => exact trans (weak ih1) ih2
 | rgH _ _ ih => exact ih
 | opsPureH _ hq hs _ _ ih =>
   refine trans (weak (q := false) (step_keep hs)) ih
 | @opsNewH bs o l tm m n v blk r m2 n2 _ _ _ _ ih =>
   refine ⟨by omega, fun b x hb hn e => ?_⟩
   have := ih.2 b x hb (by omega) e
   simp only [Task.mem, mrg, upd, if_neg (by omega : b ≠ n)] at this
   exact this
 | hNil => exact refl _ _ _
 | hBar _ _ ih => exact ih
 | hSkip _ _ _ ih => exact ih
 | hPure _ _ hs _ ih =>
   have h1 := step_keep hs
   exact ⟨by omega, fun b blk hb hn e => mrg_keep (h1.2 b blk hn hn) (ih.2 b blk hb (by omega) e)⟩
 | hCall _ _ _ _ _ ih1 ih =>
   exact ⟨by omega, fun b blk hb hn e => mrg_keep (ih1.2 b blk hn hn) (ih.2 b blk hb (by omega) e)⟩
 | @hNew bs h X o l tm m n v blk r m2 n2 _ _ _ _ ih =>
   refine ⟨by omega, fun b x hb hn e => ?_⟩
   have := ih.2 b x hb (by omega) e
   simp only [Task.mem, mrg, upd, if_neg (by omega : b ≠ n)] at this
   exact this
 | hHvO _ _ hs hv _ ih =>
   have h1 := step_keep hs
   refine ⟨by omega, fun b x hb hn e => ?_⟩
   rcases hv.back hn (ih.2 b x hb (by omega) e) with e1 | ⟨e1, e2⟩
   · exact e1
   · exact hv.row e1 (h1.2 b x hb hn e2)
 | hHvC _ _ _ _ hv _ h1 ih =>
   refine ⟨by omega, fun b x hb hn e => ?_⟩
   rcases hv.back hn (ih.2 b x hb (by omega) e) with e1 | ⟨e1, e2⟩
   · exact e1
   · exact hv.row e1 (h1.2 b x hb hn e2)
 | @hSide bs h X o l tm m n b0 blk blk1 s a v r m2 n2 _ _ _ hb0 hbs _ _ _ _ ih =>
   refine ⟨ih.1, fun b x hb hn e => ?_⟩
   have := ih.2 b x hb hn e
   simp only [Task.mem, mrg, upd, if_neg (by omega : b ≠ b0)] at this
   exact this
 | call _ _ _ _ ih => exact ih
 | callS _ _ _ _ => exact refl _ _ _
 | callN _ => exact refl _ _ _
 | callJ _ => exact refl _ _ _
 | drop _ hs ih => exact ⟨ih.1, fun b blk hb hn e => ih.2 b blk hb hn (hs _ _ e)⟩
 | rst _ _ _ _ => exact refl _ _ _
 | jk _ _ ih => exact ih
 | wk _ _ ih => exact ih
theorem Big.keep {G bs T m n r m1 n1} (h : Big G bs T m n r m1 n1) (hT : ∀ h1 X l tm, T ≠ .opsH h1 X l tm := by intros; intro e; cases e) : n ≤ n1 ∧ ∀ b blk, b < bs → b < n → m1 b = some blk → m b = some blk := by
 have := h.keep'
 cases T with
 | opsH h1 X l tm => exact absurd rfl (hT h1 X l tm)
 | _ => exact this
theorem upd_none {m : Mem} {b0 b : Nat} {x : Option Blk} (h : b ≠ b0) (e : m b = none) : upd m b0 x b = none := by
 simp only [upd, if_neg h]; exact e
theorem wrn_dom {bs : Nat} {m m1 : Mem} {a : Addr} {vs : List Value} (hw : wrn bs m a vs = some m1) {b : Nat} (e : m b = none) : m1 b = none := by
 unfold wrn at hw
 split at hw
 · cases hw
 · split at hw
   · rename_i hm
     split at hw
     · cases hw; exact upd_none (fun h => by subst h; rw [hm] at e; cases e) e
     · cases hw
   · cases hw
theorem wr_dom {bs : Nat} {m m1 : Mem} {a : Addr} {v : Value} (hw : wr bs m a v = some m1) {b : Nat} (e : m b = none) : m1 b = none := by
 unfold wr at hw
 split at hw
 · cases hw
 · split at hw
   · rename_i hm
     split at hw
     · cases hw; exact upd_none (fun h => by subst h; rw [hm] at e; cases e) e
     · cases hw
   · cases hw
theorem step_dom {bs n n1 : Nat} {io : O} {tm : Tm} {m m1 : Mem} {v : Value} (hs : stepO bs io tm m n = some (v, m1, n1)) : ∀ b, b < n → m b = none → m1 b = none := by
 have h1 : ∀ x : Option Blk, ∀ b, b < n → m b = none → upd m n x b = none := fun x b hb e => upd_none (by omega) e
 have h3 : ∀ (b0 : Nat) (x : Option Blk), ∀ b, b < n → m b = none → upd (upd m b0 none) n x b = none := fun b0 x b hb e => upd_none (by omega) (by
  by_cases h : b = b0
  · simp [upd, h]
  · exact upd_none h e)
 cases io <;> simp only [stepO] at hs <;> (repeat' split at hs) <;>
  first
   | (cases hs; done)
   | (simp only [Option.some.injEq, Prod.mk.injEq] at hs; obtain ⟨_, rfl, rfl⟩ := hs
      first
       | exact h1 _
       | exact fun b _ e => e
       | exact fun b _ e => wr_dom (by assumption) e
       | exact fun b _ e => wrn_dom (by assumption) e
       | exact h3 _ _)
theorem stepA_dom {bs n n1 : Nat} {io : O} {tm : Tm} {m m1 : Mem} {v : Value} (hs : stepA bs io tm m n = some (v, m1, n1)) : ∀ b, b < n → m b = none → m1 b = none := by
 obtain ⟨sz, x, lo, hi, a, len, cap, h, l, b, _, _, _, _, _, _, _, _, hb, hbs, _, _, _, rfl, rfl, rfl⟩ := stepA_inv hs
 exact fun b' h1 e => upd_none (by omega) (by
  by_cases h : b' = a.block
  · simp [upd, h]
  · exact upd_none h e)
theorem mrg_none_inv {h m : Mem} {b : Nat} (e : mrg h m b = none) : h b = none ∧ m b = none := by
 cases e1 : h b with
 | some x => rw [mrg_some e1] at e; cases e
 | none => exact ⟨rfl, by rw [mrg_none e1] at e; exact e⟩
theorem mrg_none_of {h m : Mem} {b : Nat} (e1 : h b = none) (e : m b = none) : mrg h m b = none := by rw [mrg_none e1]; exact e
theorem Big.dom {G bs T m n r m1 n1} (h : Big G bs T m n r m1 n1) : ∀ b, b < n → T.mem m b = none → m1 b = none := by
 induction h with
 | skip => exact fun b _ e => e
 | ret => exact fun b _ e => e
 | exit => exact fun b _ e => e
 | seqN h1 _ ih1 ih2 => exact fun b hb e => ih2 b (by have := h1.keep'.1; omega) (ih1 b hb e)
 | seqE _ _ ih => exact ih
 | cond _ _ ih => exact ih
 | block _ ih => exact ih
 | loopN h1 _ ih1 ih2 => exact fun b hb e => ih2 b (by have := h1.keep'.1; omega) (ih1 b hb e)
 | loopE _ _ ih => exact ih
 | rg _ ih => exact ih
 | opsNil => exact fun b _ e => e
 | opsSkip _ _ _ _ ih => exact ih
 | opsNone _ _ _ ih => exact ih
 | opsPure _ hs _ ih => exact fun b hb e => ih b (by have := (step_keep hs).1; omega) (step_dom hs b hb e)
 | opsAlt _ _ hs _ ih => exact fun b hb e => ih b (by have := (stepA_keep hs).1; omega) (stepA_dom hs b hb e)
 | opsCall _ _ h1 _ ih1 ih2 => exact fun b hb e => ih2 b (by have := h1.keep'.1; omega) (ih1 b hb e)
 | rgH _ _ ih => exact ih
 | opsPureH _ hq hs _ _ ih => exact fun b hb e => ih b (by have := (step_keep hs).1; omega) (step_dom hs b hb e)
 | opsNewH _ _ _ _ ih => exact fun b hb e => ih b (by omega) (mrg_none_of (upd_none (by omega) rfl) e)
 | hNil => exact fun b _ e => e
 | hBar _ _ ih => exact ih
 | hSkip _ _ _ ih => exact ih
 | hPure _ _ hs _ ih => exact fun b hb e => ih b (by have := (step_keep hs).1; omega) (mrg_none_of (mrg_none_inv e).1 (step_dom hs b hb (mrg_none_inv e).2))
 | hCall _ _ _ h1 _ ih1 ih2 => exact fun b hb e => ih2 b (by have := h1.keep'.1; omega) (mrg_none_of (mrg_none_inv e).1 (ih1 b hb (mrg_none_inv e).2))
 | hNew _ _ _ _ ih => exact fun b hb e => ih b (by omega) (mrg_none_of (upd_none (by omega) (mrg_none_inv e).1) (mrg_none_inv e).2)
 | hHvO _ _ hs hv _ ih => exact fun b hb e => ih b (by have := (step_keep hs).1; omega) (hv.nil hb e)
 | hHvC _ _ _ h1 hv _ _ ih => exact fun b hb e => ih b (by have := h1.keep'.1; omega) (hv.nil hb e)
 | @hSide bs h X o l tm m n b0 blk blk1 s a v r m2 n2 _ _ _ hb0 hbs _ _ _ _ ih =>
   exact fun b hb e => ih b hb (mrg_none_of (upd_none (fun h => by subst h; rw [(mrg_none_inv e).1] at hb0; cases hb0) (mrg_none_inv e).1) (mrg_none_inv e).2)
 | call _ _ _ _ ih => exact ih
 | callS _ _ _ _ => exact fun b _ e => e
 | callN _ => exact fun b _ e => e
 | callJ _ => exact fun b _ e => e
 | @drop bs T m n r m1 n1 m2 _ hs ih =>
   intro b hb e
   cases e1 : m2 b with
   | none => rfl
   | some x => rw [← hs b x e1, ih b hb e]
 | rst _ _ _ _ => exact fun b _ e => e
 | jk _ _ ih => exact ih
 | wk _ _ ih => exact ih
theorem own_ne {m : Mem} {b0 b : Nat} {x : Option Blk} (h : b ≠ b0) (e : Own (upd m b0 x) b) : Own m b := by
 obtain ⟨y, h1, h2⟩ := e
 exact ⟨y, by simpa only [upd, if_neg h] using h1, h2⟩
theorem wrn_own {bs : Nat} {m m1 : Mem} {a : Addr} {vs : List Value} (hw : wrn bs m a vs = some m1) {b : Nat} (e : Own m1 b) : Own m b := by
 unfold wrn at hw
 split at hw
 · cases hw
 · split at hw
   · rename_i hm
     split at hw
     · rename_i hc
       cases hw
       by_cases h : b = a.block
       · subst h; exact ⟨_, hm, hc.2.1⟩
       · exact own_ne h e
     · cases hw
   · cases hw
theorem wr_own {bs : Nat} {m m1 : Mem} {a : Addr} {v : Value} (hw : wr bs m a v = some m1) {b : Nat} (e : Own m1 b) : Own m b := by
 unfold wr at hw
 split at hw
 · cases hw
 · split at hw
   · rename_i hm
     split at hw
     · rename_i hc
       cases hw
       by_cases h : b = a.block
       · subst h; exact ⟨_, hm, hc.2.1⟩
       · exact own_ne h e
     · cases hw
   · cases hw
theorem step_own {bs n n1 : Nat} {io : O} {tm : Tm} {m m1 : Mem} {v : Value} (hs : stepO bs io tm m n = some (v, m1, n1)) : ∀ b, b < n → Own m1 b → Own m b := by
 have h1 : ∀ x : Option Blk, ∀ b, b < n → Own (upd m n x) b → Own m b := fun x b hb e => own_ne (by omega) e
 have h3 : ∀ (b0 : Nat) (x : Option Blk), ∀ b, b < n → Own (upd (upd m b0 none) n x) b → Own m b := fun b0 x b hb e => by
  have e1 := own_ne (by omega) e
  by_cases h : b = b0
  · obtain ⟨y, h2, _⟩ := e1; simp [upd, h] at h2
  · exact own_ne h e1
 cases io <;> simp only [stepO] at hs <;> (repeat' split at hs) <;>
  first
   | (cases hs; done)
   | (simp only [Option.some.injEq, Prod.mk.injEq] at hs; obtain ⟨_, rfl, rfl⟩ := hs
      first
       | exact h1 _
       | exact fun b _ e => e
       | exact fun b _ e => wr_own (by assumption) e
       | exact fun b _ e => wrn_own (by assumption) e
       | exact h3 _ _)
theorem stepA_own {bs n n1 : Nat} {io : O} {tm : Tm} {m m1 : Mem} {v : Value} (hs : stepA bs io tm m n = some (v, m1, n1)) : ∀ b, b < n → Own m1 b → Own m b := by
 obtain ⟨sz, x, lo, hi, a, len, cap, h, l, b, _, _, _, _, _, _, _, _, hb, hbs, _, _, _, rfl, rfl, rfl⟩ := stepA_inv hs
 intro b' h1 e
 have e1 := own_ne (by omega) e
 by_cases h : b' = a.block
 · obtain ⟨y, h2, _⟩ := e1; simp [upd, h] at h2
 · exact own_ne h e1
theorem own_mrg {h m m1 : Mem} {b : Nat} (hk : Own m1 b → Own m b) (e : Own (mrg h m1) b) : Own (mrg h m) b := by
 obtain ⟨x, h1, h2⟩ := e
 rcases mrg_inv h1 with h3 | ⟨h0, h3⟩
 · exact ⟨x, mrg_some h3, h2⟩
 · obtain ⟨y, h4, h5⟩ := hk ⟨x, h3, h2⟩
   exact ⟨y, by rw [mrg_none h0]; exact h4, h5⟩
theorem own_mrgU {h m : Mem} {n b : Nat} {x : Option Blk} (hb : b ≠ n) (e : Own (mrg (upd h n x) m) b) : Own (mrg h m) b := by
 obtain ⟨y, h1, h2⟩ := e
 exact ⟨y, by simpa only [mrg, upd, if_neg hb] using h1, h2⟩
theorem Big.own {G bs T m n r m1 n1} (h : Big G bs T m n r m1 n1) : ∀ b, b < n → Own m1 b → Own (T.mem m) b := by
 induction h with
 | skip => exact fun b _ e => e
 | ret => exact fun b _ e => e
 | exit => exact fun b _ e => e
 | seqN h1 _ ih1 ih2 => exact fun b hb e => ih1 b hb (ih2 b (by have := h1.keep'.1; omega) e)
 | seqE _ _ ih => exact ih
 | cond _ _ ih => exact ih
 | block _ ih => exact ih
 | loopN h1 _ ih1 ih2 => exact fun b hb e => ih1 b hb (ih2 b (by have := h1.keep'.1; omega) e)
 | loopE _ _ ih => exact ih
 | rg _ ih => exact ih
 | opsNil => exact fun b _ e => e
 | opsSkip _ _ _ _ ih => exact ih
 | opsNone _ _ _ ih => exact ih
 | opsPure _ hs _ ih => exact fun b hb e => step_own hs b hb (ih b (by have := (step_keep hs).1; omega) e)
 | opsAlt _ _ hs _ ih => exact fun b hb e => stepA_own hs b hb (ih b (by have := (stepA_keep hs).1; omega) e)
 | opsCall _ _ h1 _ ih1 ih2 => exact fun b hb e => ih1 b hb (ih2 b (by have := h1.keep'.1; omega) e)
 | rgH _ _ ih => exact ih
 | opsPureH _ hq hs _ _ ih => exact fun b hb e => step_own hs b hb (ih b (by have := (step_keep hs).1; omega) e)
 | opsNewH _ _ _ _ ih => exact fun b hb e => own_mrgU (h := fun _ => none) (by omega) (ih b (by omega) e)
 | hNil => exact fun b _ e => e
 | hBar _ _ ih => exact ih
 | hSkip _ _ _ ih => exact ih
 | hPure _ _ hs _ ih => exact fun b hb e => own_mrg (step_own hs b hb) (ih b (by have := (step_keep hs).1; omega) e)
 | hCall _ _ _ h1 _ ih1 ih2 => exact fun b hb e => own_mrg (ih1 b hb) (ih2 b (by have := h1.keep'.1; omega) e)
 | hNew _ _ _ _ ih => exact fun b hb e => own_mrgU (by omega) (ih b (by omega) e)
 | hHvO _ _ hs hv _ ih => exact fun b hb e => hv.ownB (step_own hs) b hb (ih b (by have := (step_keep hs).1; omega) e)
 | hHvC _ _ _ h1 hv _ ih1 ih => exact fun b hb e => hv.ownB ih1 b hb (ih b (by have := h1.keep'.1; omega) e)
 | @hSide bs h X o l tm m n b0 blk blk1 s a v r m2 n2 _ _ _ hb0 hbs _ _ hst _ ih =>
   intro b hb e
   have e1 := ih b hb e
   by_cases hbb : b = b0
   · subst hbb
     obtain ⟨x, h1, h2⟩ := e1
     have h3 := step_own (hst h (b + 1) hb0) b (by omega) ⟨x, by simpa only [Task.mem, mrg, upd, if_true] using h1, h2⟩
     obtain ⟨y, h4, h5⟩ := h3
     exact ⟨y, mrg_some h4, h5⟩
   · exact own_mrgU hbb e1
 | call _ _ _ _ ih => exact ih
 | callS _ _ _ _ => exact fun b _ e => e
 | callN _ => exact fun b _ e => e
 | callJ _ => exact fun b _ e => e
 | drop _ hs ih => exact fun b hb e => ih b hb (let ⟨x, h1, h2⟩ := e; ⟨x, hs b x h1, h2⟩)
 | rst _ _ _ _ => exact fun b _ e => e
 | jk _ _ ih => exact ih
 | wk _ _ ih => exact ih
section
variable {tm tm' : Tm}
theorem E.congr {e : E} (h : ∀ t, t ∈ e.slots → tm t = tm' t) : e.ev tm = e.ev tm' := by
 cases e with
 | t i => exact h i (by simp [E.slots])
 | k v => rfl
theorem bnd_congr {e : Option E} (h : ∀ t, t ∈ oslots e → tm t = tm' t) (d m : Nat) : bnd tm e d m = bnd tm' e d m := by
 cases e with
 | none => rfl
 | some e => simp only [bnd, E.congr (e := e) h]
theorem es_congr {es : List E} (h : ∀ t, t ∈ es.flatMap E.slots → tm t = tm' t) : es.map (·.ev tm) = es.map (·.ev tm') := by
 apply List.map_congr_left
 intro e he
 exact E.congr fun t ht => h t (List.mem_flatMap.2 ⟨e, he, ht⟩)
theorem step_congr {bs n : Nat} {m : Mem} {io : O} (h : ∀ t, t ∈ io.slots → tm t = tm' t) : stepO bs io tm m n = stepO bs io tm' m n := by
 cases io with
 | pick c a b =>
   simp only [O.slots, List.mem_append] at h
   simp only [stepO, E.congr (e := c) fun t ht => h t (.inl (.inl ht)), E.congr (e := a) fun t ht => h t (.inl (.inr ht)), E.congr (e := b) fun t ht => h t (.inr ht)]
 | st x v =>
   simp only [O.slots, List.mem_append] at h
   simp only [stepO, E.congr (e := x) fun t ht => h t (.inl ht), E.congr (e := v) fun t ht => h t (.inr ht)]
 | stn k x v =>
   simp only [O.slots, List.mem_append] at h
   simp only [stepO, E.congr (e := x) fun t ht => h t (.inl ht), E.congr (e := v) fun t ht => h t (.inr ht)]
 | ia k x v =>
   simp only [O.slots, List.mem_append] at h
   simp only [stepO, E.congr (e := x) fun t ht => h t (.inl ht), E.congr (e := v) fun t ht => h t (.inr ht)]
 | bin k x v =>
   simp only [O.slots, List.mem_append] at h
   simp only [stepO, E.congr (e := x) fun t ht => h t (.inl ht), E.congr (e := v) fun t ht => h t (.inr ht)]
 | eqb k x v =>
   simp only [O.slots, List.mem_append] at h
   simp only [stepO, E.congr (e := x) fun t ht => h t (.inl ht), E.congr (e := v) fun t ht => h t (.inr ht)]
 | eqs k ks x v =>
   simp only [O.slots, List.mem_append] at h
   simp only [stepO, E.congr (e := x) fun t ht => h t (.inl ht), E.congr (e := v) fun t ht => h t (.inr ht)]
 | app k b x v =>
   simp only [O.slots, List.mem_append] at h
   simp only [stepO, E.congr (e := x) fun t ht => h t (.inl ht), E.congr (e := v) fun t ht => h t (.inr ht)]
 | ix x v =>
   simp only [O.slots, List.mem_append] at h
   simp only [stepO, E.congr (e := x) fun t ht => h t (.inl ht), E.congr (e := v) fun t ht => h t (.inr ht)]
 | mk s b z x v =>
   simp only [O.slots, List.mem_append] at h
   simp only [stepO, E.congr (e := x) fun t ht => h t (.inl ht), E.congr (e := v) fun t ht => h t (.inr ht)]
 | bs s k z ps =>
   have e : ∀ p, p ∈ ps → p.2.ev tm = p.2.ev tm' := fun p hp => E.congr fun t ht => h t (List.mem_flatMap.2 ⟨p, hp, ht⟩)
   have e1 : ps.map (fun p => (p.1 * s, (p.2.ev tm).cells.toList)) = ps.map (fun p => (p.1 * s, (p.2.ev tm').cells.toList)) := List.map_congr_left fun p hp => by rw [e p hp]
   have e2 : ps.all (fun p => !isJunk (p.2.ev tm)) = ps.all (fun p => !isJunk (p.2.ev tm')) := by
    rw [Bool.eq_iff_iff, List.all_eq_true, List.all_eq_true]
    exact ⟨fun h p hp => by rw [← e p hp]; exact h p hp, fun h p hp => by rw [e p hp]; exact h p hp⟩
   simp only [stepO, e1, e2]
 | bd z ps =>
   have e : ∀ p, p ∈ ps → p.2.2.ev tm = p.2.2.ev tm' := fun p hp => E.congr fun t ht => h t (List.mem_flatMap.2 ⟨p, hp, ht⟩)
   have e1 : ps.map (fun p => (p.1, (p.2.2.ev tm).cells.toList)) = ps.map (fun p => (p.1, (p.2.2.ev tm').cells.toList)) := List.map_congr_left fun p hp => by rw [e p hp]
   have e2 : ps.all (fun p => !isJunk (p.2.2.ev tm) && (p.2.2.ev tm).cells.size == p.2.1 && decide (p.1 + p.2.1 ≤ z.length)) = ps.all (fun p => !isJunk (p.2.2.ev tm') && (p.2.2.ev tm').cells.size == p.2.1 && decide (p.1 + p.2.1 ≤ z.length)) := by
    rw [Bool.eq_iff_iff, List.all_eq_true, List.all_eq_true]
    exact ⟨fun h p hp => by rw [← e p hp]; exact h p hp, fun h p hp => by rw [e p hp]; exact h p hp⟩
   simp only [stepO, e1, e2]
 | fn f es => simp only [stepO, es_congr (es := es) h]
 | mn es => simp only [stepO, es_congr (es := es) h]
 | mx es => simp only [stepO, es_congr (es := es) h]
 | sl k x a b c =>
   simp only [O.slots, List.mem_append] at h
   simp only [stepO, E.congr (e := x) fun t ht => h t (.inl (.inl (.inl ht))), bnd_congr (e := a) fun t ht => h t (.inl (.inl (.inr ht))), bnd_congr (e := b) fun t ht => h t (.inl (.inr ht)), bnd_congr (e := c) fun t ht => h t (.inr ht)]
 | sls x a b =>
   simp only [O.slots, List.mem_append] at h
   simp only [stepO, E.congr (e := x) fun t ht => h t (.inl (.inl ht)), bnd_congr (e := a) fun t ht => h t (.inl (.inr ht)), bnd_congr (e := b) fun t ht => h t (.inr ht)]
 | new z => rfl
 | call f es => rfl
 | calli f es => rfl
 | cpy k x v => rfl
 | mv x => simp only [stepO, E.congr (e := x) h]
 | box x => simp only [stepO, E.congr (e := x) h]
 | ld x => simp only [stepO, E.congr (e := x) h]
 | ldn k x => simp only [stepO, E.congr (e := x) h]
 | fa k x => simp only [stepO, E.congr (e := x) h]
 | eqnil k x => simp only [stepO, E.congr (e := x) h]
 | not x => simp only [stepO, E.congr (e := x) h]
 | neg x => simp only [stepO, E.congr (e := x) h]
 | len x => simp only [stepO, E.congr (e := x) h]
 | lens x => simp only [stepO, E.congr (e := x) h]
 | cap x => rfl
 | fld o k x => simp only [stepO, E.congr (e := x) h]
 | ext i x => simp only [stepO, E.congr (e := x) h]
 | cvi k x => simp only [stepO, E.congr (e := x) h]
 | cvsb x => rfl
 | cvbs x => simp only [stepO, E.congr (e := x) h]
 | nilc x => simp only [stepO, E.congr (e := x) h]
 | clr s z x => simp only [stepO, E.congr (e := x) h]
theorem stepA_congr {bs n : Nat} {m : Mem} {io : O} (h : ∀ t, t ∈ io.slots → tm t = tm' t) : stepA bs io tm m n = stepA bs io tm' m n := by
 cases io with
 | sl k x a b c =>
   cases c with
   | none =>
     simp only [O.slots, List.mem_append] at h
     simp only [stepA, E.congr (e := x) fun t ht => h t (.inl (.inl (.inl ht))), bnd_congr (e := a) fun t ht => h t (.inl (.inl (.inr ht))), bnd_congr (e := b) fun t ht => h t (.inl (.inr ht))]
   | some c => rfl
 | _ => rfl
theorem callee_congr {io : O} (h : ∀ t, t ∈ io.slots → tm t = tm' t) : io.callee tm = io.callee tm' := by
 cases io with
 | call f es => simp only [O.callee, es_congr (es := es) h]
 | calli f es =>
   simp only [O.slots, List.mem_append] at h
   simp only [O.callee, E.congr (e := f) fun t ht => h t (.inl ht), es_congr (es := es) fun t ht => h t (.inr ht)]
 | _ => rfl
end
end Go.Proofs.YtoppcdecolponaaDoor.AL
