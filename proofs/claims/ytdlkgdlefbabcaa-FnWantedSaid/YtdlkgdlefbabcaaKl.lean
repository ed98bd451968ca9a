/- What the proofs about single functions lean on. -/
import Derived.Test.YtdlkgdlefbabcaaAlm
namespace Go.Proofs.Ytdlkgdlefbabcaa.AL
open Go
set_option linter.unusedVariables false
set_option linter.unusedSimpArgs false

theorem vcO_congr {G S bs o o' tm tm' m m' n n' K} (h1 : o = o') (h2 : tm = tm') (h3 : m = m') (h4 : n = n') : vcO G S bs o tm m n K = vcO G S bs o' tm' m' n' K := by subst h1 h2 h3 h4; rfl
theorem vcL_congr {G S bs l tm tm' m m' n n' K} (h2 : tm = tm') (h3 : m = m') (h4 : n = n') : vcL G S bs l K tm m n = vcL G S bs l K tm' m' n' := by subst h2 h3 h4; rfl
theorem vc_congr {G S bs c tm tm' m m' n n' Q} (h2 : tm = tm') (h3 : m = m') (h4 : n = n') : vc G S bs c Q tm m n = vc G S bs c Q tm' m' n' := by subst h2 h3 h4; rfl
theorem callK_congr {G S f bs args args' m m' n n' K} (h1 : args = args') (h3 : m = m') (h4 : n = n') : callK G S f args bs m n K = callK G S f args' bs m' n' K := by subst h1 h3 h4; rfl
theorem W_congr {G bs c tm tm' m m' n n' Q} (h2 : tm = tm') (h3 : m = m') (h4 : n = n') : W G bs c Q tm m n = W G bs c Q tm' m' n' := by subst h2 h3 h4; rfl

theorem wr_upd_ne (bs : Nat) (m : Mem) (n : Nat) (b : Option Blk) (a : Addr) (v : Value) (h : ¬ a.block = n) : wr bs (upd m n b) a v = (wr bs m a v).map fun m1 => upd m1 n b := by
  unfold wr
  simp only [upd, if_neg h]
  split
  · rfl
  · split
    · split
      · simp only [Option.map_some, Option.some.injEq]
        funext j
        simp only [upd]
        by_cases h1 : j = a.block
        · subst h1; simp [h]
        · simp [h1]
      · rfl
    · rfl

theorem wrn_upd_ne (bs : Nat) (m : Mem) (n : Nat) (b : Option Blk) (a : Addr) (vs : List Value) (h : ¬ a.block = n) : wrn bs (upd m n b) a vs = (wrn bs m a vs).map fun m1 => upd m1 n b := by
  unfold wrn
  simp only [upd, if_neg h]
  split
  · rfl
  · split
    · split
      · simp only [Option.map_some, Option.some.injEq]
        funext j
        simp only [upd]
        by_cases h1 : j = a.block
        · subst h1; simp [h]
        · simp [h1]
      · rfl
    · rfl

theorem fresh_upd {m : Mem} {n k : Nat} {b : Option Blk} (h : Fresh m n) (hk : k < n) : Fresh (upd m k b) n := by
  intro j hj
  simp only [upd]
  rw [if_neg (by omega)]
  exact h j hj

theorem step_fresh1 {bs n n1 : Nat} {io : O} {tm : Tm} {m m1 : Mem} {v : Value} (hs : stepO bs io tm m n = some (v, m1, n1)) (h : Fresh m n) : n ≤ n1 ∧ Fresh m1 n1 := by
  have h1 : ∀ x : Option Blk, n ≤ n + 1 ∧ Fresh (upd m n x) (n + 1) := fun x => ⟨by omega, h.upd x⟩
  have h0 : n ≤ n ∧ Fresh m n := ⟨Nat.le_refl _, h⟩
  have hw : ∀ {a : Addr} {v : Value} {m1 : Mem}, wr bs m a v = some m1 → n ≤ n ∧ Fresh m1 n := by
    intro a v m1 e
    unfold wr at e
    split at e
    · cases e
    · split at e
      · rename_i blk hb
        split at e
        · cases e
          refine ⟨Nat.le_refl _, fresh_upd h ?_⟩
          rcases Nat.lt_or_ge a.block n with h2 | h2
          · exact h2
          · rw [h _ h2] at hb; cases hb
        · cases e
      · cases e
  have hwn : ∀ {a : Addr} {v : List Value} {m1 : Mem}, wrn bs m a v = some m1 → n ≤ n ∧ Fresh m1 n := by
    intro a v m1 e
    unfold wrn at e
    split at e
    · cases e
    · split at e
      · rename_i blk hb
        split at e
        · cases e
          refine ⟨Nat.le_refl _, fresh_upd h ?_⟩
          rcases Nat.lt_or_ge a.block n with h2 | h2
          · exact h2
          · rw [h _ h2] at hb; cases hb
        · cases e
      · cases e
  have happ : ∀ {b0 : Nat} {x : Option Blk}, m b0 ≠ none → n ≤ n + 1 ∧ Fresh (upd (upd m b0 none) n x) (n + 1) := by
    intro b0 x hb
    refine ⟨by omega, Fresh.upd (fresh_upd h ?_) x⟩
    rcases Nat.lt_or_ge b0 n with h2 | h2
    · exact h2
    · exact absurd (h _ h2) hb
  cases io <;> simp only [stepO] at hs <;> (repeat' split at hs) <;>
    first
      | (cases hs; done)
      | (simp only [Option.some.injEq, Prod.mk.injEq] at hs; obtain ⟨_, rfl, rfl⟩ := hs
         first
           | exact h0
           | exact h1 _
           | exact hw ‹_›
           | exact hwn ‹_›
           | (refine happ ?_; intro e; simp_all; done))

theorem mrg_fresh {h m : Mem} {n : Nat} : Fresh (mrg h m) n ↔ Fresh h n ∧ Fresh m n := by
  constructor
  · intro hf
    have : ∀ b, n ≤ b → h b = none := fun b hb => by
      cases e : h b with
      | none => rfl
      | some x => have := hf b hb; simp only [mrg, e] at this; cases this
    exact ⟨this, fun b hb => by have h1 := hf b hb; simp only [mrg, this b hb] at h1; exact h1⟩
  · intro hf b hb
    simp only [mrg, hf.1 b hb]; exact hf.2 b hb

def Task.fr (T : Task) (m : Mem) (n : Nat) : Prop := match T with
  | .opsH h _ _ _ => Fresh h n ∧ Fresh m n
  | _ => Fresh m n

theorem stepA_fresh {bs n n1 : Nat} {io : O} {tm : Tm} {m m1 : Mem} {v : Value} (hs : stepA bs io tm m n = some (v, m1, n1)) (h : Fresh m n) : n ≤ n1 ∧ Fresh m1 n1 := by
  obtain ⟨sz, x, lo, hi, a, len, cap, h', l, b, _, _, _, _, _, _, _, _, hb, hbs, _, _, _, rfl, rfl, rfl⟩ := stepA_inv hs
  refine ⟨by omega, Fresh.upd (fresh_upd h ?_) _⟩
  rcases Nat.lt_or_ge a.block n with h2 | h2
  · exact h2
  · rw [h _ h2] at hb; cases hb

theorem HvR.fr {o : O} {tm : Tm} {n : Nat} {h m mh mh' h2 m2 : Mem} {X : Xs} {T : List Nat} (hv : HvR o tm n h X T m mh mh' h2 m2) (hh : Fresh h n) (hm : Fresh m n) : Fresh mh n := fun b hb => by
  cases e : mh b with
  | none => rfl
  | some x =>
    rcases hv.sub b x e with ⟨_, e1⟩ | e1
    · rw [hh b hb] at e1; cases e1
    · rw [hm b hb] at e1; cases e1
theorem HvR.fr2 {o : O} {tm : Tm} {n n1 : Nat} {h m mh mh' h2 m2 : Mem} {X : Xs} {T : List Nat} (hv : HvR o tm n h X T m mh mh' h2 m2) (hn : n ≤ n1) (hh : Fresh h n) (hm : Fresh m n) (hx : Fresh mh' n1) : Fresh h2 n1 ∧ Fresh m2 n1 := by
  refine ⟨fun b hb => ?_, fun b hb => ?_⟩
  · cases e : h2 b with
    | none => rfl
    | some x =>
      rcases hv.outH b x e with ⟨h1, _⟩ | ⟨_, e1⟩
      · omega
      · rw [hx b hb] at e1; cases e1
  · cases e : m2 b with
    | none => rfl
    | some x =>
      rcases hv.outM b x e with ⟨h1, _⟩ | ⟨_, e1⟩
      · omega
      · rw [hx b hb] at e1; cases e1

theorem Big.fresh' {G bs T m n r m1 n1} (h : Big G bs T m n r m1 n1) : T.fr m n → n ≤ n1 ∧ Fresh m1 n1 := by
  have up : ∀ {h : Mem} {n n1 : Nat}, n ≤ n1 → Fresh h n → Fresh h n1 := fun hn hf b hb => hf b (by omega)
  induction h with
  | rgH hd _ ih => intro h; exact ih (mrg_fresh.1 h)
  | opsPureH _ _ hs hd _ ih =>
    intro h
    obtain ⟨h1, h2⟩ := step_fresh1 hs h
    obtain ⟨h3, h4⟩ := ih (mrg_fresh.1 h2)
    exact ⟨by omega, h4⟩
  | @opsNewH bs o l tm m n v blk r m2 n2 _ _ _ _ ih =>
    intro hf
    obtain ⟨h3, h4⟩ := ih ⟨Fresh.upd (fun b hb => rfl) _, up (Nat.le_succ _) hf⟩
    exact ⟨by omega, h4⟩
  | hNil => intro h; exact ⟨Nat.le_refl _, mrg_fresh.2 h⟩
  | hBar _ _ ih => intro h; exact ih (mrg_fresh.2 h)
  | hSkip _ _ _ ih => intro h; exact ih h
  | hPure _ _ hs _ ih => intro h; obtain ⟨h1, h2⟩ := step_fresh1 hs h.2; obtain ⟨h3, h4⟩ := ih ⟨up h1 h.1, h2⟩; exact ⟨by omega, h4⟩
  | hCall _ _ _ _ _ ih1 ih2 => intro h; obtain ⟨h1, h2⟩ := ih1 h.2; obtain ⟨h3, h4⟩ := ih2 ⟨up h1 h.1, h2⟩; exact ⟨by omega, h4⟩
  | @hNew bs h X o l tm m n v blk r m2 n2 _ _ _ _ ih =>
    intro hf
    obtain ⟨h3, h4⟩ := ih ⟨Fresh.upd hf.1 _, up (Nat.le_succ _) hf.2⟩
    exact ⟨by omega, h4⟩
  | hHvO _ _ hs hv _ ih =>
    intro hf
    obtain ⟨h1, h2⟩ := step_fresh1 hs (hv.fr hf.1 hf.2)
    obtain ⟨h3, h4⟩ := ih (hv.fr2 h1 hf.1 hf.2 h2)
    exact ⟨by omega, h4⟩
  | hHvC _ _ _ _ hv _ ih1 ih =>
    intro hf
    obtain ⟨h1, h2⟩ := ih1 (hv.fr hf.1 hf.2)
    obtain ⟨h3, h4⟩ := ih (hv.fr2 h1 hf.1 hf.2 h2)
    exact ⟨by omega, h4⟩
  | @hSide bs h X o l tm m n b0 blk blk1 s a v r m2 n2 _ _ _ hb0 _ _ _ _ _ ih =>
    intro hf
    refine ih ⟨fresh_upd hf.1 ?_, hf.2⟩
    rcases Nat.lt_or_ge b0 n with h2 | h2
    · exact h2
    · rw [hf.1 _ h2] at hb0; cases hb0
  | seqN _ _ ih1 ih2 => intro h; obtain ⟨h1, h2⟩ := ih1 h; obtain ⟨h3, h4⟩ := ih2 h2; exact ⟨by omega, h4⟩
  | loopN _ _ ih1 ih2 => intro h; obtain ⟨h1, h2⟩ := ih1 h; obtain ⟨h3, h4⟩ := ih2 h2; exact ⟨by omega, h4⟩
  | opsPure _ hs _ ih => intro h; obtain ⟨h1, h2⟩ := step_fresh1 hs h; obtain ⟨h3, h4⟩ := ih h2; exact ⟨by omega, h4⟩
  | opsAlt _ _ hs _ ih => intro h; obtain ⟨h1, h2⟩ := stepA_fresh hs h; obtain ⟨h3, h4⟩ := ih h2; exact ⟨by omega, h4⟩
  | opsCall _ _ _ _ ih1 ih2 => intro h; obtain ⟨h1, h2⟩ := ih1 h; obtain ⟨h3, h4⟩ := ih2 h2; exact ⟨by omega, h4⟩
  | drop _ hs ih =>
    intro h
    obtain ⟨h1, h2⟩ := ih h
    refine ⟨h1, fun b hb => ?_⟩
    cases e : (_ : Mem) b with
    | none => exact e
    | some x => have := hs b x e; rw [h2 b hb] at this; cases this
  | callS _ _ _ _ => intro h; exact ⟨Nat.le_refl _, h⟩
  | rst _ _ _ _ => intro h; exact ⟨Nat.le_refl _, h⟩
  | skip => intro h; exact ⟨Nat.le_refl _, h⟩
  | ret => intro h; exact ⟨Nat.le_refl _, h⟩
  | exit => intro h; exact ⟨Nat.le_refl _, h⟩
  | opsNil => intro h; exact ⟨Nat.le_refl _, h⟩
  | _ => rename_i ih; exact ih

theorem Big.fresh {G bs T m n r m1 n1} (h : Big G bs T m n r m1 n1) (hf : Fresh m n) (hT : ∀ h1 X l tm, T ≠ .opsH h1 X l tm := by intros; intro e; cases e) : n ≤ n1 ∧ Fresh m1 n1 := by
  have := h.fresh'
  cases T with
  | opsH h1 X l tm => exact absurd rfl (hT h1 X l tm)
  | _ => exact this hf

theorem CallW.fresh {G f args bs m n K} (h : CallW G f args bs m n K) (hf : Fresh m n) : CallW G f args bs m n fun v m1 n1 => K v m1 n1 ∧ n ≤ n1 ∧ Fresh m1 n1 := by
  obtain ⟨v, m1, n1, b, k⟩ := h
  exact ⟨v, m1, n1, b, k, b.fresh hf⟩

/-! ### rows that are filled one by one -/

/-- The first i rows laid, zeros behind. -/
def tab (rows : List (List Value)) (i : Nat) (len : Nat) (z : List Value) : List Value := (rows.take i).flatten ++ (List.replicate (len - i) z).flatten

theorem flat_len {k : Nat} : ∀ {rows : List (List Value)}, (∀ r, r ∈ rows → r.length = k) → rows.flatten.length = rows.length * k
  | [], _ => by simp
  | r :: rows, h => by
    simp only [List.flatten_cons, List.length_append, List.length_cons, flat_len fun x hx => h x (List.mem_cons_of_mem _ hx), h r (List.mem_cons_self ..), Nat.succ_mul]
    omega

theorem rep_len {z : List Value} (j : Nat) : (List.replicate j z).flatten.length = j * z.length := by
  rw [flat_len (k := z.length) fun r hr => by rw [(List.mem_replicate.1 hr).2]]
  simp

theorem tab_len {rows : List (List Value)} {i len k : Nat} {z : List Value} (hz : z.length = k) (hr : ∀ r, r ∈ rows → r.length = k) (hl : rows.length = len) (hi : i ≤ len) : (tab rows i len z).length = len * k := by
  unfold tab
  rw [List.length_append, flat_len fun r h => hr r (List.mem_of_mem_take h), rep_len, hz, List.length_take, Nat.min_eq_left (by omega), ← Nat.add_mul]
  congr 1; omega

theorem tab_zero {rows : List (List Value)} {len : Nat} {z : List Value} : tab rows 0 len z = (List.replicate len z).flatten := by simp [tab]

theorem tab_full {rows : List (List Value)} {len : Nat} {z : List Value} (hl : rows.length = len) : tab rows len len z = rows.flatten := by
  simp [tab, ← hl]

theorem tab_step {rows : List (List Value)} {i len k : Nat} {z r : List Value} (hz : z.length = k) (hr : ∀ r, r ∈ rows → r.length = k) (hl : rows.length = len) (hi : i < len) (hri : rows[i]? = some r) :
    (tab rows i len z).take (i * k) ++ r ++ (tab rows i len z).drop (i * k + r.length) = tab rows (i + 1) len z := by
  have hrl : r.length = k := hr r (List.mem_of_getElem? hri)
  have e1 : ((rows.take i).flatten).length = i * k := by
    rw [flat_len fun r h => hr r (List.mem_of_mem_take h), List.length_take, Nat.min_eq_left (by omega)]
  unfold tab
  rw [← e1, List.take_left, ← List.drop_drop, List.drop_left]
  have e2 : len - i = (len - (i + 1)) + 1 := by omega
  rw [e2, List.replicate_succ, List.flatten_cons, hrl, ← hz, List.drop_left]
  have hgi : i < rows.length := by omega
  have e3 : rows.take (i + 1) = rows.take i ++ [r] := by
    rw [List.take_add_one, hri]; rfl
  rw [e3]
  simp

theorem flat_row {k : Nat} : ∀ {rows : List (List Value)} {i : Nat} {r : List Value}, (∀ r, r ∈ rows → r.length = k) → rows[i]? = some r → i * k + k ≤ rows.flatten.length ∧ (rows.flatten.drop (i * k)).take k = r
  | [], i, r, _, h => by simp at h
  | r0 :: rows, 0, r, hall, h => by
    simp at h; subst h
    have h0 := hall r0 (List.mem_cons_self ..)
    refine ⟨by simp [h0], ?_⟩
    rw [Nat.zero_mul, List.drop_zero, List.flatten_cons, List.take_append_of_le_length (by omega), List.take_of_length_le (by omega)]
  | r0 :: rows, i + 1, r, hall, h => by
    have h0 := hall r0 (List.mem_cons_self ..)
    obtain ⟨h1, h2⟩ := flat_row (fun r hr => hall r (List.mem_cons_of_mem _ hr)) (by simpa using h : rows[i]? = some r)
    refine ⟨by rw [List.flatten_cons, List.length_append, Nat.succ_mul]; omega, ?_⟩
    rw [List.flatten_cons, Nat.succ_mul, Nat.add_comm, ← List.drop_drop, ← h0, List.drop_left, h0]
    exact h2

end Go.Proofs.Ytdlkgdlefbabcaa.AL
