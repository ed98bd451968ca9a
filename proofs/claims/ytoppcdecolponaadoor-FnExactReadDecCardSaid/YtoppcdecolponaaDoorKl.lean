/- What the proofs about single functions lean on. -/
import Derived.Test.YtoppcdecolponaaDoorAlm
namespace Go.Proofs.YtoppcdecolponaaDoor.AL
open Go
set_option linter.unusedVariables false
set_option linter.unusedSimpArgs false
theorem fresh_upd {m : Mem} {n k : Nat} {b : Option Blk} (h : Fresh m n) (hk : k < n) : Fresh (upd m k b) n := by
 intro j hj
 simp only [upd]
 rw [if_neg (by omega)]
 exact h j hj
theorem step_fresh1 {bs n n1 : Nat} {io : O} {tm : Tm} {m m1 : Mem} {v : Value} (hs : stepO bs io tm m n = some (v, m1, n1)) (h : Fresh m n) : n ≤ n1 ∧ Fresh m1 n1 := by
 have h1 : ∀ x : Option Blk, n ≤ n + 1 ∧ Fresh (upd m n x) (n + 1) := fun x => ⟨by omega, h.upd x⟩
 have h0 : n ≤ n ∧ Fresh m n := ⟨Nat.le_refl _, h⟩
 have hw : ∀ {a : Addr} {v : Value} {m1 : Mem}, wr bs m a v = some m1 → n ≤ n ∧ Fresh m1 n := by
  intro a v m1 e
  unfold wr at e
  split at e
  · cases e
  · split at e
    · rename_i blk hb
      split at e
      · cases e
        refine ⟨Nat.le_refl _, fresh_upd h ?_⟩
        rcases Nat.lt_or_ge a.block n with h2 | h2
        · exact h2
        · rw [h _ h2] at hb; cases hb
      · cases e
    · cases e
 have hwn : ∀ {a : Addr} {v : List Value} {m1 : Mem}, wrn bs m a v = some m1 → n ≤ n ∧ Fresh m1 n := by
  intro a v m1 e
  unfold wrn at e
  split at e
  · cases e
  · split at e
    · rename_i blk hb
      split at e
      · cases e
        refine ⟨Nat.le_refl _, fresh_upd h ?_⟩
        rcases Nat.lt_or_ge a.block n with h2 | h2
        · exact h2
        · rw [h _ h2] at hb; cases hb
      · cases e
    · cases e
 have happ : ∀ {b0 : Nat} {x : Option Blk}, m b0 ≠ none → n ≤ n + 1 ∧ Fresh (upd (upd m b0 none) n x) (n + 1) := by
  intro b0 x hb
  refine ⟨by omega, Fresh.upd (fresh_upd h ?_) x⟩
  rcases Nat.lt_or_ge b0 n with h2 | h2
  · exact h2
  · exact absurd (h _ h2) hb
 cases io <;> simp only [stepO] at hs <;> (repeat' split at hs) <;>
  first
   | (cases hs; done)
   | (simp only [Option.some.injEq, Prod.mk.injEq] at hs; obtain ⟨_, rfl, rfl⟩ := hs
      first
       | exact h0
       | exact h1 _
       | exact hw ‹_›
       | exact hwn ‹_›
       | (refine happ ?_; intro e; simp_all; done))
theorem mrg_fresh {h m : Mem} {n : Nat} : Fresh (mrg h m) n ↔ Fresh h n ∧ Fresh m n := by
 constructor
 · intro hf
   have : ∀ b, n ≤ b → h b = none := fun b hb => by
    cases e : h b with
    | none => rfl
    | some x => have := hf b hb; simp only [mrg, e] at this; cases this
   exact ⟨this, fun b hb => by have h1 := hf b hb; simp only [mrg, this b hb] at h1; exact h1⟩
 · intro hf b hb
   simp only [mrg, hf.1 b hb]; exact hf.2 b hb
def Task.fr (T : Task) (m : Mem) (n : Nat) : Prop := match T with
 | .opsH h _ _ _ => Fresh h n ∧ Fresh m n
 | _ => Fresh m n
theorem stepA_fresh {bs n n1 : Nat} {io : O} {tm : Tm} {m m1 : Mem} {v : Value} (hs : stepA bs io tm m n = some (v, m1, n1)) (h : Fresh m n) : n ≤ n1 ∧ Fresh m1 n1 := by
 obtain ⟨sz, x, lo, hi, a, len, cap, h', l, b, _, _, _, _, _, _, _, _, hb, hbs, _, _, _, rfl, rfl, rfl⟩ := stepA_inv hs
 refine ⟨by omega, Fresh.upd (fresh_upd h ?_) _⟩
 rcases Nat.lt_or_ge a.block n with h2 | h2
 · exact h2
 · rw [h _ h2] at hb; cases hb
theorem HvR.fr {o : O} {tm : Tm} {n : Nat} {h m mh mh' h2 m2 : Mem} {X : Xs} {T : List Nat} (hv : HvR o tm n h X T m mh mh' h2 m2) (hh : Fresh h n) (hm : Fresh m n) : Fresh mh n := fun b hb => by
 cases e : mh b with
 | none => rfl
 | some x =>
   rcases hv.sub b x e with ⟨_, e1⟩ | e1
   · rw [hh b hb] at e1; cases e1
   · rw [hm b hb] at e1; cases e1
theorem HvR.fr2 {o : O} {tm : Tm} {n n1 : Nat} {h m mh mh' h2 m2 : Mem} {X : Xs} {T : List Nat} (hv : HvR o tm n h X T m mh mh' h2 m2) (hn : n ≤ n1) (hh : Fresh h n) (hm : Fresh m n) (hx : Fresh mh' n1) : Fresh h2 n1 ∧ Fresh m2 n1 := by
 refine ⟨fun b hb => ?_, fun b hb => ?_⟩
 · cases e : h2 b with
   | none => rfl
   | some x =>
     rcases hv.outH b x e with ⟨h1, _⟩ | ⟨_, e1⟩
     · omega
     · rw [hx b hb] at e1; cases e1
 · cases e : m2 b with
   | none => rfl
   | some x =>
     rcases hv.outM b x e with ⟨h1, _⟩ | ⟨_, e1⟩
     · omega
     · rw [hx b hb] at e1; cases e1
theorem Big.fresh' {G bs T m n r m1 n1} (h : Big G bs T m n r m1 n1) : T.fr m n → n ≤ n1 ∧ Fresh m1 n1 := by
 have up : ∀ {h : Mem} {n n1 : Nat}, n ≤ n1 → Fresh h n → Fresh h n1 := fun hn hf b hb => hf b (by omega)
 induction h with
 | rgH hd _ ih => intro h; exact ih (mrg_fresh.1 h)
 | opsPureH _ _ hs hd _ ih =>
   intro h
   obtain ⟨h1, h2⟩ := step_fresh1 hs h
   obtain ⟨h3, h4⟩ := ih (mrg_fresh.1 h2)
   exact ⟨by omega, h4⟩
 | @opsNewH bs o l tm m n v blk r m2 n2 _ _ _ _ ih =>
   intro hf
   obtain ⟨h3, h4⟩ := ih ⟨Fresh.upd (fun b hb => rfl) _, up (Nat.le_succ _) hf⟩
   exact ⟨by omega, h4⟩
 | hNil => intro h; exact ⟨Nat.le_refl _, mrg_fresh.2 h⟩
 | hBar _ _ ih => intro h; exact ih (mrg_fresh.2 h)
 | hSkip _ _ _ ih => intro h; exact ih h
 | hPure _ _ hs _ ih => intro h; obtain ⟨h1, h2⟩ := step_fresh1 hs h.2; obtain ⟨h3, h4⟩ := ih ⟨up h1 h.1, h2⟩; exact ⟨by omega, h4⟩
 | hCall _ _ _ _ _ ih1 ih2 => intro h; obtain ⟨h1, h2⟩ := ih1 h.2; obtain ⟨h3, h4⟩ := ih2 ⟨up h1 h.1, h2⟩; exact ⟨by omega, h4⟩
 | @hNew bs h X o l tm m n v blk r m2 n2 _ _ _ _ ih =>
   intro hf
   obtain ⟨h3, h4⟩ := ih ⟨Fresh.upd hf.1 _, up (Nat.le_succ _) hf.2⟩
   exact ⟨by omega, h4⟩
 | hHvO _ _ hs hv _ ih =>
   intro hf
   obtain ⟨h1, h2⟩ := step_fresh1 hs (hv.fr hf.1 hf.2)
   obtain ⟨h3, h4⟩ := ih (hv.fr2 h1 hf.1 hf.2 h2)
   exact ⟨by omega, h4⟩
 | hHvC _ _ _ _ hv _ ih1 ih =>
   intro hf
   obtain ⟨h1, h2⟩ := ih1 (hv.fr hf.1 hf.2)
   obtain ⟨h3, h4⟩ := ih (hv.fr2 h1 hf.1 hf.2 h2)
   exact ⟨by omega, h4⟩
 | @hSide bs h X o l tm m n b0 blk blk1 s a v r m2 n2 _ _ _ hb0 _ _ _ _ _ ih =>
   intro hf
   refine ih ⟨fresh_upd hf.1 ?_, hf.2⟩
   rcases Nat.lt_or_ge b0 n with h2 | h2
   · exact h2
   · rw [hf.1 _ h2] at hb0; cases hb0
 | seqN _ _ ih1 ih2 => intro h; obtain ⟨h1, h2⟩ := ih1 h; obtain ⟨h3, h4⟩ := ih2 h2; exact ⟨by omega, h4⟩
 | loopN _ _ ih1 ih2 => intro h; obtain ⟨h1, h2⟩ := ih1 h; obtain ⟨h3, h4⟩ := ih2 h2; exact ⟨by omega, h4⟩
 | opsPure _ hs _ ih => intro h; obtain ⟨h1, h2⟩ := step_fresh1 hs h; obtain ⟨h3, h4⟩ := ih h2; exact ⟨by omega, h4⟩
 | opsAlt _ _ hs _ ih => intro h; obtain ⟨h1, h2⟩ := stepA_fresh hs h; obtain ⟨h3, h4⟩ := ih h2; exact ⟨by omega, h4⟩
 | opsCall _ _ _ _ ih1 ih2 => intro h; obtain ⟨h1, h2⟩ := ih1 h; obtain ⟨h3, h4⟩ := ih2 h2; exact ⟨by omega, h4⟩
 | drop _ hs ih =>
   intro h
   obtain ⟨h1, h2⟩ := ih h
   refine ⟨h1, fun b hb => ?_⟩
   cases e : (_ : Mem) b with
   | none => exact e
   | some x => have := hs b x e; rw [h2 b hb] at this; cases this
 | callS _ _ _ _ => intro h; exact ⟨Nat.le_refl _, h⟩
 | callN _ => intro h; exact ⟨Nat.le_refl _, h⟩
 | callJ _ => intro h; exact ⟨Nat.le_refl _, h⟩
 | rst _ _ _ _ => intro h; exact ⟨Nat.le_refl _, h⟩
 | skip => intro h; exact ⟨Nat.le_refl _, h⟩
 | ret => intro h; exact ⟨Nat.le_refl _, h⟩
 | exit => intro h; exact ⟨Nat.le_refl _, h⟩
 | opsNil => intro h; exact ⟨Nat.le_refl _, h⟩
 | _ => rename_i ih; exact ih
theorem Big.fresh {G bs T m n r m1 n1} (h : Big G bs T m n r m1 n1) (hf : Fresh m n) (hT : ∀ h1 X l tm, T ≠ .opsH h1 X l tm := by intros; intro e; cases e) : n ≤ n1 ∧ Fresh m1 n1 := by
 have := h.fresh'
 cases T with
 | opsH h1 X l tm => exact absurd rfl (hT h1 X l tm)
 | _ => exact this hf
theorem CallW.fresh {G f args bs m n K} (h : CallW G f args bs m n K) (hf : Fresh m n) : CallW G f args bs m n fun v m1 n1 => K v m1 n1 ∧ n ≤ n1 ∧ Fresh m1 n1 := by
 obtain ⟨v, m1, n1, b, k⟩ := h
 exact ⟨v, m1, n1, b, k, b.fresh hf⟩
def tab (rows : List (List Value)) (i : Nat) (len : Nat) (z : List Value) : List Value := (rows.take i).flatten ++ (List.replicate (len - i) z).flatten
theorem flat_len {k : Nat} : ∀ {rows : List (List Value)}, (∀ r, r ∈ rows → r.length = k) → rows.flatten.length = rows.length * k
 | [], _ => by simp
 | r :: rows, h => by
   simp only [List.flatten_cons, List.length_append, List.length_cons, flat_len fun x hx => h x (List.mem_cons_of_mem _ hx), h r (List.mem_cons_self ..), Nat.succ_mul]
   omega
theorem rep_len {z : List Value} (j : Nat) : (List.replicate j z).flatten.length = j * z.length := by
 rw [flat_len (k := z.length) fun r hr => by rw [(List.mem_replicate.1 hr).2]]
 simp
theorem flat_row {k : Nat} : ∀ {rows : List (List Value)} {i : Nat} {r : List Value}, (∀ r, r ∈ rows → r.length = k) → rows[i]? = some r → i * k + k ≤ rows.flatten.length ∧ (rows.flatten.drop (i * k)).take k = r
 | [], i, r, _, h => by simp at h
 | r0 :: rows, 0, r, hall, h => by
   simp at h; subst h
   have h0 := hall r0 (List.mem_cons_self ..)
   refine ⟨by simp [h0], ?_⟩
   rw [Nat.zero_mul, List.drop_zero, List.flatten_cons, List.take_append_of_le_length (by omega), List.take_of_length_le (by omega)]
 | r0 :: rows, i + 1, r, hall, h => by
   have h0 := hall r0 (List.mem_cons_self ..)
   obtain ⟨h1, h2⟩ := flat_row (fun r hr => hall r (List.mem_cons_of_mem _ hr)) (by simpa using h : rows[i]? = some r)
   refine ⟨by rw [List.flatten_cons, List.length_append, Nat.succ_mul]; omega, ?_⟩
   rw [List.flatten_cons, Nat.succ_mul, Nat.add_comm, ← List.drop_drop, ← h0, List.drop_left, h0]
   exact h2
end Go.Proofs.YtoppcdecolponaaDoor.AL
