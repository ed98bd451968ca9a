/- What a run leaves alone; of which slots a step asks. -/
import Derived.Test.YtdialnejieoelaaAlW
namespace Go.Proofs.Ytdialnejieoelaa.AL
open Go
set_option linter.unusedVariables false
set_option linter.unusedSimpArgs false

theorem upd_keep {m : Mem} {b0 b : Nat} {x : Option Blk} {blk : Blk} (h : b ≠ b0) (e : upd m b0 x b = some blk) : m b = some blk := by
  simp only [upd, if_neg h] at e; exact e

theorem wrn_keep {bs : Nat} {m m1 : Mem} {a : Addr} {vs : List Value} (hw : wrn bs m a vs = some m1) {b : Nat} {blk : Blk} (hb : b < bs) (e : m1 b = some blk) : m b = some blk := by
  unfold wrn at hw
  split at hw
  · cases hw
  · split at hw
    · split at hw
      · rename_i h; cases hw; exact upd_keep (by omega) e
      · cases hw
    · cases hw

theorem wr_keep {bs : Nat} {m m1 : Mem} {a : Addr} {v : Value} (hw : wr bs m a v = some m1) {b : Nat} {blk : Blk} (hb : b < bs) (e : m1 b = some blk) : m b = some blk := by
  unfold wr at hw
  split at hw
  · cases hw
  · split at hw
    · split at hw
      · rename_i h; cases hw; exact upd_keep (by omega) e
      · cases hw
    · cases hw

/-- A step leaves the rows below bs alone. -/
theorem step_keep {bs n n1 : Nat} {io : O} {tm : Tm} {m m1 : Mem} {v : Value} (hs : stepO bs io tm m n = some (v, m1, n1)) : n ≤ n1 ∧ ∀ b blk, b < bs → b < n → m1 b = some blk → m b = some blk := by
  have h1 : ∀ x : Option Blk, n ≤ n + 1 ∧ ∀ b blk, b < bs → b < n → upd m n x b = some blk → m b = some blk := fun x => ⟨by omega, fun b blk _ hb e => upd_keep (by omega) e⟩
  have h2 : n ≤ n ∧ ∀ b blk, b < bs → b < n → m b = some blk → m b = some blk := ⟨Nat.le_refl _, fun _ _ _ _ e => e⟩
  have h3 : ∀ (b0 : Nat) (x : Option Blk), bs ≤ b0 → n ≤ n + 1 ∧ ∀ b blk, b < bs → b < n → upd (upd m b0 none) n x b = some blk → m b = some blk :=
    fun b0 x h0 => ⟨by omega, fun b blk hb hn e => upd_keep (by omega) (upd_keep (by omega) e)⟩
  cases io with
  | app sz by_ s x =>
    simp only [stepO] at hs
    split at hs
    · split at hs
      · split at hs
        · simp only [Option.some.injEq, Prod.mk.injEq] at hs; obtain ⟨_, rfl, rfl⟩ := hs; exact h2
        · split at hs
          · cases hs
          · split at hs
            · cases hs
            · split at hs
              · split at hs
                · split at hs
                  · simp only [Option.some.injEq, Prod.mk.injEq] at hs; obtain ⟨_, rfl, rfl⟩ := hs; exact h1 _
                  · cases hs
                · split at hs
                  · cases hs
                  · split at hs
                    · cases hs
                    · split at hs
                      · rename_i hc
                        simp only [Option.some.injEq, Prod.mk.injEq] at hs; obtain ⟨_, rfl, rfl⟩ := hs; exact h3 _ _ hc.1
                      · cases hs
              · cases hs
      · cases hs
    · cases hs
  | _ =>
    simp only [stepO] at hs
    repeat' (split at hs)
    all_goals first
      | (cases hs; done)
      | (simp only [Option.some.injEq, Prod.mk.injEq] at hs; obtain ⟨_, rfl, rfl⟩ := hs; first | exact h1 _ | exact h2 | exact ⟨Nat.le_refl _, fun b blk hb _ e => wr_keep (by assumption) hb e⟩ | exact ⟨Nat.le_refl _, fun b blk hb _ e => wrn_keep (by assumption) hb e⟩)

theorem Big.keep {G bs T m n r m1 n1} (h : Big G bs T m n r m1 n1) : n ≤ n1 ∧ ∀ b blk, b < bs → b < n → m1 b = some blk → m b = some blk := by
  have refl : ∀ (m : Mem) (n bs : Nat), n ≤ n ∧ ∀ b blk, b < bs → b < n → m b = some blk → m b = some blk := fun m n bs => ⟨Nat.le_refl _, fun _ _ _ _ e => e⟩
  have trans : ∀ {m m1 m2 : Mem} {n n1 n2 bs : Nat}, (n ≤ n1 ∧ ∀ b blk, b < bs → b < n → m1 b = some blk → m b = some blk) → (n1 ≤ n2 ∧ ∀ b blk, b < bs → b < n1 → m2 b = some blk → m1 b = some blk) →
      n ≤ n2 ∧ ∀ b blk, b < bs → b < n → m2 b = some blk → m b = some blk :=
    fun h k => ⟨by omega, fun b blk hb hn e => h.2 b blk hb hn (k.2 b blk hb (by omega) e)⟩
  have weak : ∀ {m m1 : Mem} {n n1 bs : Nat} {q : Bool}, (n ≤ n1 ∧ ∀ b blk, b < (if q = true then n else bs) → b < n → m1 b = some blk → m b = some blk) → n ≤ n1 ∧ ∀ b blk, b < bs → b < n → m1 b = some blk → m b = some blk := by
    intro m m1 n n1 bs q h
    refine ⟨h.1, fun b blk hb hn e => h.2 b blk ?_ hn e⟩
    split <;> omega
  induction h with
  | skip => exact refl _ _ _
  | ret => exact refl _ _ _
  | exit => exact refl _ _ _
  | seqN _ _ ih1 ih2 => exact trans ih1 ih2
  | seqE _ _ ih => exact ih
  | cond _ _ ih => exact ih
  | block _ ih => exact ih
  | loopN _ _ ih1 ih2 => exact trans ih1 ih2
  | loopE _ _ ih => exact ih
  | rg _ ih => exact ih
  | opsNil => exact refl _ _ _
  | opsSkip _ _ _ _ ih => exact ih
  | opsNone _ _ _ ih => exact ih
  | opsPure _ hs _ ih => exact trans (weak (step_keep hs)) ih
  | opsCall _ _ _ _ ih1 ih2 => exact trans (weak ih1) ih2
  | call _ _ _ _ ih => exact ih
  | callS _ _ _ _ => exact refl _ _ _
  | drop _ hs ih => exact ⟨ih.1, fun b blk hb hn e => ih.2 b blk hb hn (hs _ _ e)⟩
  | rst _ _ _ _ => exact refl _ _ _
  | jk _ _ ih => exact ih
  | wk _ _ ih => exact ih

/-! ### slots -/

def E.slots : E → List Nat
  | .t i => [i]
  | .k _ => []

def oslots (e : Option E) : List Nat := match e with | some e => e.slots | none => []

def O.slots : O → List Nat
  | .mv x | .box x | .ld x | .ldn _ x | .fa _ x | .eqnil _ x | .not x | .neg x | .len x | .lens x | .cap x | .fld _ _ x | .ext _ x | .cvi _ x | .cvsb x | .cvbs x | .nilc x | .clr _ _ x => x.slots
  | .pick c a b => c.slots ++ a.slots ++ b.slots
  | .new _ => []
  | .st x v | .stn _ x v | .ia _ x v | .bin _ x v | .eqb _ x v | .eqs _ _ x v | .app _ _ x v | .ix x v | .cpy _ x v => x.slots ++ v.slots
  | .mk _ _ _ l c => l.slots ++ c.slots
  | .bs _ _ _ ps => ps.flatMap fun p => p.2.slots
  | .bd _ ps => ps.flatMap fun p => p.2.2.slots
  | .fn _ es | .call _ es | .mn es | .mx es => es.flatMap E.slots
  | .calli f es => f.slots ++ es.flatMap E.slots
  | .sl _ x a b c => x.slots ++ oslots a ++ oslots b ++ oslots c
  | .sls x a b => x.slots ++ oslots a ++ oslots b

section
variable {tm tm' : Tm}

theorem E.congr {e : E} (h : ∀ t, t ∈ e.slots → tm t = tm' t) : e.ev tm = e.ev tm' := by
  cases e with
  | t i => exact h i (by simp [E.slots])
  | k v => rfl

theorem bnd_congr {e : Option E} (h : ∀ t, t ∈ oslots e → tm t = tm' t) (d m : Nat) : bnd tm e d m = bnd tm' e d m := by
  cases e with
  | none => rfl
  | some e => simp only [bnd, E.congr (e := e) h]

theorem es_congr {es : List E} (h : ∀ t, t ∈ es.flatMap E.slots → tm t = tm' t) : es.map (·.ev tm) = es.map (·.ev tm') := by
  apply List.map_congr_left
  intro e he
  exact E.congr fun t ht => h t (List.mem_flatMap.2 ⟨e, he, ht⟩)

theorem step_congr {bs n : Nat} {m : Mem} {io : O} (h : ∀ t, t ∈ io.slots → tm t = tm' t) : stepO bs io tm m n = stepO bs io tm' m n := by
  cases io with
  | pick c a b =>
    simp only [O.slots, List.mem_append] at h
    simp only [stepO, E.congr (e := c) fun t ht => h t (.inl (.inl ht)), E.congr (e := a) fun t ht => h t (.inl (.inr ht)), E.congr (e := b) fun t ht => h t (.inr ht)]
  | st x v =>
    simp only [O.slots, List.mem_append] at h
    simp only [stepO, E.congr (e := x) fun t ht => h t (.inl ht), E.congr (e := v) fun t ht => h t (.inr ht)]
  | stn k x v =>
    simp only [O.slots, List.mem_append] at h
    simp only [stepO, E.congr (e := x) fun t ht => h t (.inl ht), E.congr (e := v) fun t ht => h t (.inr ht)]
  | ia k x v =>
    simp only [O.slots, List.mem_append] at h
    simp only [stepO, E.congr (e := x) fun t ht => h t (.inl ht), E.congr (e := v) fun t ht => h t (.inr ht)]
  | bin k x v =>
    simp only [O.slots, List.mem_append] at h
    simp only [stepO, E.congr (e := x) fun t ht => h t (.inl ht), E.congr (e := v) fun t ht => h t (.inr ht)]
  | eqb k x v =>
    simp only [O.slots, List.mem_append] at h
    simp only [stepO, E.congr (e := x) fun t ht => h t (.inl ht), E.congr (e := v) fun t ht => h t (.inr ht)]
  | eqs k ks x v =>
    simp only [O.slots, List.mem_append] at h
    simp only [stepO, E.congr (e := x) fun t ht => h t (.inl ht), E.congr (e := v) fun t ht => h t (.inr ht)]
  | app k b x v =>
    simp only [O.slots, List.mem_append] at h
    simp only [stepO, E.congr (e := x) fun t ht => h t (.inl ht), E.congr (e := v) fun t ht => h t (.inr ht)]
  | ix x v =>
    simp only [O.slots, List.mem_append] at h
    simp only [stepO, E.congr (e := x) fun t ht => h t (.inl ht), E.congr (e := v) fun t ht => h t (.inr ht)]
  | mk s b z x v =>
    simp only [O.slots, List.mem_append] at h
    simp only [stepO, E.congr (e := x) fun t ht => h t (.inl ht), E.congr (e := v) fun t ht => h t (.inr ht)]
  | bs s k z ps =>
    have e : ∀ p, p ∈ ps → p.2.ev tm = p.2.ev tm' := fun p hp => E.congr fun t ht => h t (List.mem_flatMap.2 ⟨p, hp, ht⟩)
    have e1 : ps.map (fun p => (p.1 * s, (p.2.ev tm).cells.toList)) = ps.map (fun p => (p.1 * s, (p.2.ev tm').cells.toList)) := List.map_congr_left fun p hp => by rw [e p hp]
    have e2 : ps.all (fun p => !isJunk (p.2.ev tm)) = ps.all (fun p => !isJunk (p.2.ev tm')) := by
      rw [Bool.eq_iff_iff, List.all_eq_true, List.all_eq_true]
      exact ⟨fun h p hp => by rw [← e p hp]; exact h p hp, fun h p hp => by rw [e p hp]; exact h p hp⟩
    simp only [stepO, e1, e2]
  | bd z ps =>
    have e : ∀ p, p ∈ ps → p.2.2.ev tm = p.2.2.ev tm' := fun p hp => E.congr fun t ht => h t (List.mem_flatMap.2 ⟨p, hp, ht⟩)
    have e1 : ps.map (fun p => (p.1, (p.2.2.ev tm).cells.toList)) = ps.map (fun p => (p.1, (p.2.2.ev tm').cells.toList)) := List.map_congr_left fun p hp => by rw [e p hp]
    have e2 : ps.all (fun p => !isJunk (p.2.2.ev tm) && (p.2.2.ev tm).cells.size == p.2.1 && decide (p.1 + p.2.1 ≤ z.length)) = ps.all (fun p => !isJunk (p.2.2.ev tm') && (p.2.2.ev tm').cells.size == p.2.1 && decide (p.1 + p.2.1 ≤ z.length)) := by
      rw [Bool.eq_iff_iff, List.all_eq_true, List.all_eq_true]
      exact ⟨fun h p hp => by rw [← e p hp]; exact h p hp, fun h p hp => by rw [e p hp]; exact h p hp⟩
    simp only [stepO, e1, e2]
  | fn f es => simp only [stepO, es_congr (es := es) h]
  | mn es => simp only [stepO, es_congr (es := es) h]
  | mx es => simp only [stepO, es_congr (es := es) h]
  | sl k x a b c =>
    simp only [O.slots, List.mem_append] at h
    simp only [stepO, E.congr (e := x) fun t ht => h t (.inl (.inl (.inl ht))), bnd_congr (e := a) fun t ht => h t (.inl (.inl (.inr ht))), bnd_congr (e := b) fun t ht => h t (.inl (.inr ht)), bnd_congr (e := c) fun t ht => h t (.inr ht)]
  | sls x a b =>
    simp only [O.slots, List.mem_append] at h
    simp only [stepO, E.congr (e := x) fun t ht => h t (.inl (.inl ht)), bnd_congr (e := a) fun t ht => h t (.inl (.inr ht)), bnd_congr (e := b) fun t ht => h t (.inr ht)]
  | new z => rfl
  | call f es => rfl
  | calli f es => rfl
  | cpy k x v => rfl
  | mv x => simp only [stepO, E.congr (e := x) h]
  | box x => simp only [stepO, E.congr (e := x) h]
  | ld x => simp only [stepO, E.congr (e := x) h]
  | ldn k x => simp only [stepO, E.congr (e := x) h]
  | fa k x => simp only [stepO, E.congr (e := x) h]
  | eqnil k x => simp only [stepO, E.congr (e := x) h]
  | not x => simp only [stepO, E.congr (e := x) h]
  | neg x => simp only [stepO, E.congr (e := x) h]
  | len x => simp only [stepO, E.congr (e := x) h]
  | lens x => simp only [stepO, E.congr (e := x) h]
  | cap x => rfl
  | fld o k x => simp only [stepO, E.congr (e := x) h]
  | ext i x => simp only [stepO, E.congr (e := x) h]
  | cvi k x => simp only [stepO, E.congr (e := x) h]
  | cvsb x => rfl
  | cvbs x => rfl
  | nilc x => simp only [stepO, E.congr (e := x) h]
  | clr s z x => rfl

theorem callee_congr {io : O} (h : ∀ t, t ∈ io.slots → tm t = tm' t) : io.callee tm = io.callee tm' := by
  cases io with
  | call f es => simp only [O.callee, es_congr (es := es) h]
  | calli f es =>
    simp only [O.slots, List.mem_append] at h
    simp only [O.callee, E.congr (e := f) fun t ht => h t (.inl ht), es_congr (es := es) fun t ht => h t (.inr ht)]
  | _ => rfl

end
end Go.Proofs.Ytdialnejieoelaa.AL
