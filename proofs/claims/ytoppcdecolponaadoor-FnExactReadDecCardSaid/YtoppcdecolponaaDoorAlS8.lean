/- Whatever step the small language has for an operation of the model's: it is that operation's. -/
import Derived.Test.YtoppcdecolponaaDoorAlS7
namespace Go.Proofs.YtoppcdecolponaaDoor.AL
open Go
set_option linter.unusedVariables false
set_option linter.unusedSimpArgs false
variable {no : No} {P : Program}
section
variable {nt : Nat} {β : Inj} {tm : Tm} {a : Act} {m m1 : Mem} {w : World} {bs n n1 : Nat} {v : Value} {o : Oper}
theorem step_sim {io : O} (hc : cO P no o.op = some io) (hF : FRel no nt β tm a) (hM : MRel no β m w) (hfr : Fresh m n)
 (hs : stepO bs io tm m n = some (v, m1, n1)) (hd : ∀ b, n ≤ b → b < n1 → β b = none) : Runs P no β m bs n n1 w (execOp a.eval o) v m1 := by
 cases ho : o.op with
 | move x =>
   rw [ho] at hc
   simp only [cO, Option.map_eq_some_iff] at hc
   obtain ⟨e, he, rfl⟩ := hc
   exact s_move (.inl ho) he hF hM hs
 | assign x =>
   rw [ho] at hc
   simp only [cO, Option.map_eq_some_iff] at hc
   obtain ⟨e, he, rfl⟩ := hc
   exact s_move (.inr ho) he hF hM hs
 | pick c x y =>
   rw [ho] at hc
   simp only [cO, Option.bind_eq_bind, Option.bind_eq_some_iff, Option.some.injEq] at hc
   obtain ⟨ec, hec, ex, hex, ey, hey, rfl⟩ := hc
   exact s_pick ho hec hex hey hF hM hs
 | alloc t =>
   rw [ho] at hc
   simp only [cO, Option.map_eq_some_iff] at hc
   obtain ⟨z, hz, rfl⟩ := hc
   exact s_new ho hz hF hM hfr hs hd
 | box t x =>
   rw [ho] at hc
   simp only [cO, Option.map_eq_some_iff] at hc
   obtain ⟨e, he, rfl⟩ := hc
   exact s_box ho he hF hM hfr hs hd
 | load t x =>
   rw [ho] at hc
   simp only [cO, Option.bind_eq_bind, Option.bind_eq_some_iff] at hc
   obtain ⟨b, hb, hc⟩ := hc
   cases b with
   | true =>
     simp only [if_true, Option.bind_eq_some_iff, Option.some.injEq] at hc
     obtain ⟨k, hk, e, he, rfl⟩ := hc
     exact s_ldn ho he hb hk hF hM hs
   | false =>
     simp only [Bool.false_eq_true, if_false, Option.bind_eq_some_iff, Option.some.injEq] at hc
     obtain ⟨e, he, rfl⟩ := hc
     exact s_ld ho he hb hF hM hs
 | store t x y =>
   rw [ho] at hc
   simp only [cO, Option.bind_eq_bind, Option.bind_eq_some_iff] at hc
   obtain ⟨b, hb, hc⟩ := hc
   cases b with
   | true =>
     simp only [if_true, Option.bind_eq_some_iff, Option.some.injEq] at hc
     obtain ⟨k, hk, ex, hex, ey, hey, rfl⟩ := hc
     exact s_stn ho hex hey hk hF hM hfr hs
   | false =>
     simp only [Bool.false_eq_true, if_false, Option.bind_eq_some_iff] at hc
     obtain ⟨k, hk, hc⟩ := hc
     split at hc
     · rename_i hk1
       simp only [Option.bind_eq_some_iff, Option.some.injEq] at hc
       obtain ⟨ex, hex, ey, hey, rfl⟩ := hc
       have : k = 1 := by simpa using hk1
       subst this
       exact s_st ho hex hey hk hF hM hfr hs
     · cases hc
 | nilCheck x =>
   rw [ho] at hc
   simp only [cO, Option.map_eq_some_iff] at hc
   obtain ⟨e, he, rfl⟩ := hc
   exact s_nilc ho he hF hM hs
 | binOp op t x y yt =>
   rw [ho] at hc
   simp only [cO] at hc
   split at hc
   · simp only [Option.bind_eq_bind, Option.bind_eq_some_iff, Option.some.injEq] at hc
     obtain ⟨ex, hex, ey, hey, rfl⟩ := hc
     exact s_bin ho hex hey hF hM hs
   · simp only [Option.bind_eq_bind, Option.bind_eq_some_iff, Option.some.injEq] at hc
     obtain ⟨ex, hex, ey, hey, rfl⟩ := hc
     exact s_bin ho hex hey hF hM hs
   · rename_i ht
     split at hc
     · simp only [Option.bind_eq_bind, Option.bind_eq_some_iff, Option.some.injEq] at hc
       obtain ⟨ex, hex, ey, hey, rfl⟩ := hc
       exact s_eqb (neg := false) ho rfl ht hex hey hF hM hs
     · simp only [Option.bind_eq_bind, Option.bind_eq_some_iff, Option.some.injEq] at hc
       obtain ⟨ex, hex, ey, hey, rfl⟩ := hc
       exact s_eqb (neg := true) ho rfl ht hex hey hF hM hs
     · cases hc
   · rename_i ht
     simp only [Option.bind_eq_bind, Option.bind_eq_some_iff] at hc
     obtain ⟨ks, hks, hc⟩ := hc
     split at hc
     · simp only [Option.bind_eq_some_iff, Option.some.injEq] at hc
       obtain ⟨ex, hex, ey, hey, rfl⟩ := hc
       exact s_eqs (neg := false) ho rfl hks hex hey hF hM hs
     · simp only [Option.bind_eq_some_iff, Option.some.injEq] at hc
       obtain ⟨ex, hex, ey, hey, rfl⟩ := hc
       exact s_eqs (neg := true) ho rfl hks hex hey hF hM hs
     · cases hc
   · rename_i ht
     split at hc
     · rename_i hy
       split at hc
       · simp only [Option.bind_eq_bind, Option.bind_eq_some_iff, Option.some.injEq] at hc
         obtain ⟨ex, hex, rfl⟩ := hc
         exact s_eqnil (neg := false) ho rfl ht hex hy hF hM hs
       · simp only [Option.bind_eq_bind, Option.bind_eq_some_iff, Option.some.injEq] at hc
         obtain ⟨ex, hex, rfl⟩ := hc
         exact s_eqnil (neg := true) ho rfl ht hex hy hF hM hs
       · cases hc
     · cases hc
   · cases hc
 | unOp op t x =>
   rw [ho] at hc
   cases op with
   | not =>
     simp only [cO, Option.map_eq_some_iff] at hc
     obtain ⟨e, he, rfl⟩ := hc
     exact s_not ho he hF hM hs
   | neg =>
     simp only [cO, Option.map_eq_some_iff] at hc
     obtain ⟨e, he, rfl⟩ := hc
     exact s_neg ho he hF hM hs
   | xor => cases hc
   | plus => cases hc
 | convert src dst x =>
   rw [ho] at hc
   simp only [cO] at hc
   split at hc
   · rename_i k0 k hsrc hdst
     simp only [Option.map_eq_some_iff] at hc
     obtain ⟨e, he, rfl⟩ := hc
     exact s_cvi ho he hsrc hdst hF hM hs
   · rename_i hsrc hdst
     cases hc
   · simp only [Option.map_eq_some_iff] at hc
     obtain ⟨e, he, rfl⟩ := hc
     cases hs
   · rename_i hsrc hdst
     split at hc
     · rename_i he8
       simp only [Option.map_eq_some_iff] at hc
       obtain ⟨e, he, rfl⟩ := hc
       exact s_cvbs ho he hsrc he8 hdst hF hM hs
     · cases hc
   · cases hc
 | makeFunc fn first captured =>
   rw [ho] at hc
   cases fn with
   | func f =>
     simp only [cO] at hc
     split at hc
     · rename_i h0
       simp only [Option.bind_eq_bind, Option.bind_eq_some_iff, Option.some.injEq] at hc
       obtain ⟨g, hg, es, hes, rfl⟩ := hc
       exact s_fn ho (by simpa using h0) hg hes hF hM hs
     · cases hc
   | _ => cases hc
 | makeSlice t l c =>
   rw [ho] at hc
   simp only [cO, Option.bind_eq_bind, Option.bind_eq_some_iff, Option.some.injEq] at hc
   obtain ⟨e, he, i, hi, z, hz, el, hel, ec, hec, rfl⟩ := hc
   exact s_mk ho (elemT_eq he) hi hz hel hec hF hM hfr hs hd
 | buildSlice t k parts =>
   rw [ho] at hc
   simp only [cO, Option.bind_eq_bind, Option.bind_eq_some_iff] at hc
   obtain ⟨e, he, z, hz, hc⟩ := hc
   split at hc
   · rename_i hcond
     simp only [Bool.and_eq_true, decide_eq_true_eq, bne_iff_ne] at hcond
     simp only [Option.bind_eq_some_iff, Option.some.injEq] at hc
     obtain ⟨ps, hps, rfl⟩ := hc
     exact s_bs ho (elemT_eq he) hz hcond.1 hcond.2 hps hF hM hfr hs hd
   · cases hc
 | build t parts =>
   rw [ho] at hc
   simp only [cO] at hc
   split at hc
   · rename_i fs hfs
     split at hc
     · rename_i hall
       simp only [Option.bind_eq_bind, Option.bind_eq_some_iff, Option.some.injEq] at hc
       obtain ⟨z, hz, ps, hps, rfl⟩ := hc
       exact s_bd ho hfs hz (fun f hf => List.all_eq_true.1 hall f hf) hps hF hM hs
     · cases hc
   · cases hc
 | slice t x lo hi mx =>
   rw [ho] at hc
   simp only [cO, Option.bind_eq_bind, Option.bind_eq_some_iff] at hc
   obtain ⟨ex, hex, el, hel, eh, heh, em, hem, hc⟩ := hc
   split at hc
   · rename_i ht
     split at hc
     · rename_i hm
       cases hc
       have : mx = none := by
        cases mx with
        | none => rfl
        | some u =>
          simp only [Option.elim_some, Option.map_eq_some_iff] at hem
          obtain ⟨_, _, rfl⟩ := hem
          cases hm
       subst this
       exact s_sls ho ht hex hel heh hF hM hs
     · cases hc
   · rename_i e ht
     simp only [Option.bind_eq_some_iff, Option.some.injEq] at hc
     obtain ⟨k, hk, rfl⟩ := hc
     exact s_sl ho ht hk hex hel heh hem hF hM hs
   · cases hc
 | fieldAddr s x f =>
   rw [ho] at hc
   simp only [cO, Option.bind_eq_bind, Option.bind_eq_some_iff] at hc
   obtain ⟨fd, hfd, k, hk, hc⟩ := hc
   split at hc
   · cases hc
   · rename_i hk0
     simp only [Option.bind_eq_some_iff, Option.some.injEq] at hc
     obtain ⟨e, he, rfl⟩ := hc
     exact s_fa ho he hfd hk (by simpa using hk0) hF hM hs
 | field s x f =>
   rw [ho] at hc
   simp only [cO, Option.bind_eq_bind, Option.bind_eq_some_iff] at hc
   obtain ⟨fd, hfd, b, hb, hc⟩ := hc
   cases b with
   | true =>
     simp only [if_true, Option.bind_eq_some_iff, Option.map_eq_some_iff, Option.some.injEq] at hc
     obtain ⟨k, ⟨j, hj, rfl⟩, e, he, rfl⟩ := hc
     exact s_fld ho he hfd hb (by simp only [if_true]; exact ⟨j, hj, rfl⟩) hF hM hs
   | false =>
     simp only [Bool.false_eq_true, if_false, Option.bind_some, Option.bind_eq_some_iff, Option.some.injEq] at hc
     obtain ⟨e, he, rfl⟩ := hc
     exact s_fld ho he hfd hb (by simp) hF hM hs
 | indexAddr t x i =>
   rw [ho] at hc
   simp only [cO, Option.bind_eq_bind, Option.bind_eq_some_iff, Option.some.injEq] at hc
   obtain ⟨e, he, k, hk, ex, hex, ei, hei, rfl⟩ := hc
   exact s_ia ho hex hei he hk hF hM hs
 | index t x i =>
   rw [ho] at hc
   simp only [cO] at hc
   split at hc
   · rename_i ht
     simp only [Option.bind_eq_bind, Option.bind_eq_some_iff, Option.some.injEq] at hc
     obtain ⟨ex, hex, ei, hei, rfl⟩ := hc
     exact s_ix ho ht hex hei hF hM hs
   · cases hc
 | extract x i =>
   rw [ho] at hc
   simp only [cO, Option.map_eq_some_iff] at hc
   obtain ⟨e, he, rfl⟩ := hc
   exact s_ext ho he hF hM hs
 | call c =>
   rw [ho] at hc
   obtain ⟨callee, args, ts⟩ := c
   cases callee with
   | value f =>
     cases f with
     | func g =>
       simp only [cO, Option.bind_eq_bind, Option.bind_eq_some_iff, Option.some.injEq] at hc
       obtain ⟨_, _, _, _, rfl⟩ := hc
       cases hs
     | tmp t =>
       simp only [cO, Option.bind_eq_bind, Option.bind_eq_some_iff, Option.some.injEq] at hc
       obtain ⟨_, _, rfl⟩ := hc
       cases hs
     | const v => cases hc
     | global g => cases hc
   | invoke r mt => cases hc
   | builtin b =>
     simp only [cO, Option.bind_eq_bind, Option.bind_eq_some_iff] at hc
     obtain ⟨es, hes, hc⟩ := hc
     obtain ⟨hlen, hpp⟩ := parts_mapM _ hes
     have one : ∀ x, es = [x] → ∃ y, args = #[y] ∧ cE no y = some x := by
      rintro x rfl
      cases hal : args.toList with
      | nil => rw [hal] at hlen; simp at hlen
      | cons y l =>
        cases l with
        | nil => exact ⟨y, by rw [← Array.toArray_toList (xs := args), hal], hpp 0 y x (by rw [hal]; rfl) rfl⟩
        | cons => rw [hal] at hlen; simp at hlen
     have two : ∀ x x2, es = [x, x2] → ∃ y y2, args = #[y, y2] ∧ cE no y = some x ∧ cE no y2 = some x2 := by
      rintro x x2 rfl
      cases hal : args.toList with
      | nil => rw [hal] at hlen; simp at hlen
      | cons y l =>
        cases l with
        | nil => rw [hal] at hlen; simp at hlen
        | cons y2 l =>
          cases l with
          | nil => exact ⟨y, y2, by rw [← Array.toArray_toList (xs := args), hal], hpp 0 y x (by rw [hal]; rfl) rfl, hpp 1 y2 x2 (by rw [hal]; rfl) rfl⟩
          | cons => rw [hal] at hlen; simp at hlen
     split at hc
     · obtain ⟨y, hy, hy2⟩ := one _ rfl
       split at hc
       · rename_i ht
         cases hc
         simp only [Option.bind_eq_some_iff] at ht
         obtain ⟨t, h0, ht⟩ := ht
         exact s_lens ho hy h0 ht hy2 hF hM hs
       · rename_i e ht
         cases hc
         simp only [Option.bind_eq_some_iff] at ht
         obtain ⟨t, h0, ht⟩ := ht
         exact s_len ho hy h0 ht hy2 hF hM hs
       · cases hc
     · split at hc
       · cases hc; cases hs
       · cases hc
     · cases hc
       exact s_mn ho hes hF hM hs
     · cases hc
       exact s_mx ho hes hF hM hs
     · obtain ⟨y, y2, hy, hy1, hy2⟩ := two _ _ rfl
       split at hc
       · rename_i e e2 ht ht2
         simp only [Option.bind_eq_some_iff] at hc ht ht2
         obtain ⟨t, h0, ht⟩ := ht
         obtain ⟨t2, h02, ht2⟩ := ht2
         obtain ⟨i, hi, hc⟩ := hc
         split at hc
         · cases hc
         · rename_i hcond
           cases hc
           simp only [Bool.or_eq_true, not_or, beq_iff_eq, decide_eq_true_eq, Nat.not_lt, Bool.not_eq_true, gt_iff_lt] at hcond
           obtain ⟨⟨⟨c1, c2⟩, c3⟩, c4⟩ := hcond
           exact s_app ho hy h0 h02 ht ht2 hi c1 c2 c3 (by cases h : zeroOf P e with | none => rw [h] at c4; cases c4 | some _ => rfl) hy1 hy2 hF hM hfr hs hd
       · cases hc
     · split at hc
       · simp only [Option.bind_eq_some_iff, Option.some.injEq] at hc
         obtain ⟨z, hz, rfl⟩ := hc
         rename_i e ht
         simp only [Option.bind_eq_some_iff] at ht
         obtain ⟨t, h0, ht⟩ := ht
         obtain ⟨y, hy, hy2⟩ := one _ rfl
         exact s_clr ho hy h0 ht hz hy2 hF hM hfr hs
       · cases hc
     · split at hc
       · simp only [Option.bind_eq_some_iff, Option.some.injEq] at hc
         obtain ⟨k, hk, rfl⟩ := hc
         cases hs
       · cases hc
     · cases hc
 | _ => rw [ho] at hc; cases hc
end
end Go.Proofs.YtoppcdecolponaaDoor.AL
