/- Each step of the small language is a step of the model's: slices and strings, rows made. -/
import Derived.Test.YtojdedadgddhgaaAlS4
import Derived.Laws.MakeOwn
namespace Go.Proofs.Ytojdedadgddhgaa.AL
open Go
set_option linter.unusedVariables false
set_option linter.unusedSimpArgs false
variable {no : Nat → Option Nat} {P : Program}

section
variable {nt : Nat} {β : Inj} {tm : Tm} {a : Act} {m m1 : Mem} {w : World} {bs n n1 : Nat} {v : Value} {o : Oper}

theorem run_bltn (ρ : Operand → Value) {b : Builtin} {args : Array Operand} {ts : Array TypeId} (ho : o.op = .call { callee := .builtin b, args, argTypes := ts }) :
    (execOp ρ o).run P w = (builtin b ts o.type (args.map fun | .const _ => true | _ => false) (args.map ρ)).run P w := by
  simp only [execOp, ho, resolve, Sem.run_bind, Sem.run_pure, Result.andThen_ok, invoke]
  rfl

theorem slice_of {β : Inj} {ad : Option Addr} {l c : Nat} {r : Value} (h : VRel no β (.slice ad l c) r) : ∃ ra c', r = .slice ra l c' ∧ c ≤ c' ∧ (ad = none → ra = none ∧ c' = c) := by
  cases h with
  | snil => exact ⟨_, _, rfl, Nat.le_refl _, fun _ => ⟨rfl, rfl⟩⟩
  | slice hL hc hr => exact ⟨_, _, rfl, hc, fun h => by cases h⟩
  | empty => exact ⟨_, _, rfl, Nat.zero_le _, fun h => by cases h⟩

theorem s_len {t e : TypeId} {x : Operand} {ex : E} {args : Array Operand} {ts : Array TypeId} (ho : o.op = .call { callee := .builtin .len, args, argTypes := ts }) (ha : args = #[x]) (hts : ts[0]? = some t) (ht : P.underlying t = some (.slice e))
    (hx : cE no x = some ex) (hF : FRel no nt β tm a) (hM : MRel no β m w)
    (hs : stepO bs (.len ex) tm m n = some (v, m1, n1)) : Runs P no β m bs n n1 w (execOp a.eval o) v m1 := by
  have h1 := E.sim hF hx
  simp only [stepO] at hs
  split at hs
  · rename_i ad l c he
    simp only [Option.some.injEq, Prod.mk.injEq] at hs
    obtain ⟨rfl, rfl, rfl⟩ := hs
    rw [he] at h1
    obtain ⟨ra, c', hr, _⟩ := slice_of h1
    refine .quiet hM (rv := .int .i64 l) ?_ (.int _ _)
    rw [run_bltn _ ho]
    simp [ha, builtin, Builtin.len_, hts, run_underlying ht, hr, goInt]
  · cases hs

theorem s_lens {t : TypeId} {x : Operand} {ex : E} {args : Array Operand} {ts : Array TypeId} (ho : o.op = .call { callee := .builtin .len, args, argTypes := ts }) (ha : args = #[x]) (hts : ts[0]? = some t) (ht : P.underlying t = some .string)
    (hx : cE no x = some ex) (hF : FRel no nt β tm a) (hM : MRel no β m w)
    (hs : stepO bs (.lens ex) tm m n = some (v, m1, n1)) : Runs P no β m bs n n1 w (execOp a.eval o) v m1 := by
  have h1 := E.sim hF hx
  simp only [stepO] at hs
  split at hs
  · rename_i s he
    simp only [Option.some.injEq, Prod.mk.injEq] at hs
    obtain ⟨rfl, rfl, rfl⟩ := hs
    rw [he] at h1
    cases hr : a.eval x <;> rw [hr] at h1 <;> cases h1
    refine .quiet hM (rv := .int .i64 s.size) ?_ (.int _ _)
    rw [run_bltn _ ho]
    simp [ha, builtin, Builtin.len_, hts, run_underlying ht, hr, goInt]
  · cases hs

theorem s_ix {t : TypeId} {x i : Operand} {ex ei : E} (ho : o.op = .index t x i) (ht : P.underlying t = some .string) (hx : cE no x = some ex) (hi : cE no i = some ei) (hF : FRel no nt β tm a) (hM : MRel no β m w)
    (hs : stepO bs (.ix ex ei) tm m n = some (v, m1, n1)) : Runs P no β m bs n n1 w (execOp a.eval o) v m1 := by
  have h1 := E.sim hF hx
  have h2 := E.sim hF hi
  simp only [stepO] at hs
  split at hs
  · rename_i s k j he hj
    split at hs
    · rename_i hj0
      split at hs
      · rename_i b hb
        simp only [Option.some.injEq, Prod.mk.injEq] at hs
        obtain ⟨rfl, rfl, rfl⟩ := hs
        rw [he] at h1
        rw [hj] at h2
        cases hr : a.eval x <;> rw [hr] at h1 <;> cases h1
        cases hr2 : a.eval i <;> rw [hr2] at h2 <;> cases h2
        refine .quiet hM (rv := .int .u8 b.toNat) ?_ (.int _ _)
        simp [execOp, ho, Instr.index, asIntOf, run_underlying ht, hr, hr2, hj0, hb]
      · cases hs
    · cases hs
  · cases hs

theorem s_fld {s : TypeId} {x : Operand} {e : E} {f : Nat} {fd : Field} {k : Option Nat} {b : Bool} (ho : o.op = .field s x f) (hx : cE no x = some e) (hfd : fieldT P s f = some fd) (hb : aggT P fd.type = some b)
    (hk : if b then ∃ j, sizeT P fd.type = some j ∧ k = some j else k = none) (hF : FRel no nt β tm a) (hM : MRel no β m w)
    (hs : stepO bs (.fld fd.offset k e) tm m n = some (v, m1, n1)) : Runs P no β m bs n n1 w (execOp a.eval o) v m1 := by
  have h1 := E.sim hF hx
  simp only [stepO] at hs
  split at hs
  · rename_i cs he
    rw [he] at h1
    obtain ⟨rs, hr, hsz, hc⟩ := agg_of h1
    unfold fieldT at hfd
    split at hfd
    · rename_i fs hfs
      cases b with
      | false =>
        simp only [Bool.false_eq_true, if_false] at hk
        subst hk
        simp only at hs
        split at hs
        · rename_i u hu
          simp only [Option.some.injEq, Prod.mk.injEq] at hs
          obtain ⟨rfl, rfl, rfl⟩ := hs
          have hlt := (Array.getElem?_eq_some_iff.1 hu).1
          have hri : rs[fd.offset]? = some (rs[fd.offset]'(by omega)) := Array.getElem?_eq_getElem _
          refine .quiet hM (rv := rs[fd.offset]'(by omega)) ?_ (hc _ _ _ hu hri)
          simp [execOp, ho, Instr.field, run_underlying hfs, hfd, hr, asAgg, part, run_aggT hb, hri]
        · cases hs
      | true =>
        simp only [if_true] at hk
        obtain ⟨j, hj, rfl⟩ := hk
        simp only [Option.some.injEq, Prod.mk.injEq] at hs
        obtain ⟨rfl, rfl, rfl⟩ := hs
        refine .quiet hM (rv := .agg (rs.extract fd.offset (fd.offset + j))) ?_ (.agg (by simp [hsz]) fun i x y hx hy => ?_)
        · simp [execOp, ho, Instr.field, run_underlying hfs, hfd, hr, asAgg, part, run_aggT hb, run_sizeT hj]
        · rw [Array.getElem?_extract] at hx hy
          split at hx
          · split at hy
            · exact hc _ _ _ hx hy
            · cases hy
          · cases hx
    · cases hfd
  · cases hs

/-- A bound of a slice expression. -/
theorem run_bnd {x : Option Operand} {e : Option E} {dflt most most' k : Nat} (hF : FRel no nt β tm a) (hx : x.elim (some none) (fun y => (cE no y).map some) = some e) (hb : bnd tm e dflt most = some k) (hle : most ≤ most') (code : BoundsCode) :
    match x with
    | none => e = none ∧ k = dflt
    | some y => ∃ r, a.eval y = r ∧ (Instr.sliceBound r most' code).run P w = .ok k w ∧ k ≤ most ∧ e.isSome = true := by
  cases x with
  | none =>
    simp at hx; subst hx
    simp [bnd] at hb
    exact ⟨rfl, hb.symm⟩
  | some y =>
    simp only [Option.elim_some, Option.map_eq_some_iff] at hx
    obtain ⟨e', he', rfl⟩ := hx
    have h1 := E.sim hF he'
    simp only [bnd] at hb
    split at hb
    · rename_i kd i hi
      split at hb
      · rename_i hc
        cases hb
        rw [hi] at h1
        have : (i : Int) ≤ (most' : Int) := by omega
        exact ⟨_, rfl, by rw [h1.inv_int]; simp [Instr.sliceBound, asIntOf, hc.1, this], by omega, rfl⟩
      · cases hb
    · cases hb

theorem s_sls {t : TypeId} {x : Operand} {lo hi : Option Operand} {ex : E} {el eh : Option E} (ho : o.op = .slice t x lo hi none) (ht : P.underlying t = some .string) (hx : cE no x = some ex)
    (hl : lo.elim (some none) (fun y => (cE no y).map some) = some el) (hh : hi.elim (some none) (fun y => (cE no y).map some) = some eh) (hF : FRel no nt β tm a) (hM : MRel no β m w)
    (hs : stepO bs (.sls ex el eh) tm m n = some (v, m1, n1)) : Runs P no β m bs n n1 w (execOp a.eval o) v m1 := by
  have h1 := E.sim hF hx
  simp only [stepO] at hs
  split at hs
  · rename_i s he
    split at hs
    · cases hs
    · rename_i h hbh
      split at hs
      · cases hs
      · rename_i l hbl
        simp only [Option.some.injEq, Prod.mk.injEq] at hs
        obtain ⟨rfl, rfl, rfl⟩ := hs
        rw [he] at h1
        cases hr : a.eval x <;> rw [hr] at h1 <;> cases h1
        have kh := run_bnd (P := P) (w := w) hF hh hbh (Nat.le_refl _) .sliceAlen
        have kl := run_bnd (P := P) (w := w) hF hl hbl (Nat.le_refl _) .sliceB
        refine .quiet hM (rv := .string (s.extract l h)) ?_ (.string _)
        have hb : (Instr.sliceBounds false s.size s.size (lo.map a.eval) (hi.map a.eval) none).run P w = .ok (l, h, s.size) w := by
          cases hi with
          | none =>
            obtain ⟨_, rfl⟩ := kh
            cases lo with
            | none => obtain ⟨_, rfl⟩ := kl; simp [Instr.sliceBounds]
            | some y => obtain ⟨r, hr1, hr2, _⟩ := kl; simp [Instr.sliceBounds, hr1, hr2]
          | some z =>
            obtain ⟨r, hr1, hr2, _⟩ := kh
            cases lo with
            | none => obtain ⟨_, rfl⟩ := kl; simp [Instr.sliceBounds, hr1, hr2]
            | some y => obtain ⟨r', hr1', hr2', _⟩ := kl; simp [Instr.sliceBounds, hr1, hr2, hr1', hr2']
        simp [execOp, ho, Instr.sliceAt, Instr.slice, run_underlying ht, hr, hb]
  · cases hs

theorem s_sl {t e : TypeId} {x : Operand} {lo hi mx : Option Operand} {ex : E} {el eh em : Option E} {sz : Nat} (ho : o.op = .slice t x lo hi mx) (ht : P.underlying t = some (.slice e)) (hsz : sizeT P e = some sz) (hx : cE no x = some ex)
    (hl : lo.elim (some none) (fun y => (cE no y).map some) = some el) (hh : hi.elim (some none) (fun y => (cE no y).map some) = some eh) (hm : mx.elim (some none) (fun y => (cE no y).map some) = some em)
    (hF : FRel no nt β tm a) (hM : MRel no β m w)
    (hs : stepO bs (.sl sz ex el eh em) tm m n = some (v, m1, n1)) : Runs P no β m bs n n1 w (execOp a.eval o) v m1 := by
  have h1 := E.sim hF hx
  simp only [stepO] at hs
  split at hs
  case h_2 => cases hs
  rename_i ad len cap he
  split at hs
  · cases hs
  rename_i k hbk
  split at hs
  · cases hs
  rename_i h hbh
  split at hs
  · cases hs
  rename_i l hbl
  split at hs
  case isFalse => cases hs
  rename_i hcond
  obtain ⟨hhl, hlc, hmh, hmk⟩ := hcond
  rw [he] at h1
  obtain ⟨ra, c', hr, hc', hnil⟩ := slice_of h1
  -- the bounds, in the model
  have kl := run_bnd (P := P) (w := w) hF hl hbl (Nat.le_refl _) (if mx.isSome then .slice3C else .sliceB)
  have hlh : l ≤ h := by
    cases lo with
    | none => obtain ⟨_, rfl⟩ := kl; omega
    | some y => obtain ⟨_, _, _, hle, _⟩ := kl; exact hle
  have hbounds : ∃ k', (Instr.sliceBounds true len c' (lo.map a.eval) (hi.map a.eval) (mx.map a.eval)).run P w = .ok (l, h, k') w ∧ k ≤ k' ∧ (mx.isSome = true → k' = k) ∧ (mx = none → k' = c' ∧ k = cap) ∧ k' ≤ c' := by
    cases mx with
    | none =>
      simp at hm; subst hm
      simp [bnd] at hbk; subst hbk
      have kh := run_bnd (P := P) (w := w) (most' := c') hF hh hbh hc' .sliceAcap
      refine ⟨c', ?_, hc', (fun h => by cases h), fun _ => ⟨rfl, rfl⟩, Nat.le_refl _⟩
      cases hi with
      | none =>
        obtain ⟨_, rfl⟩ := kh
        cases lo with
        | none => obtain ⟨_, rfl⟩ := kl; simp [Instr.sliceBounds]
        | some y => obtain ⟨r, hr1, hr2, _⟩ := kl; simp at hr2; simp [Instr.sliceBounds, hr1, hr2]
      | some z =>
        obtain ⟨r, hr1, hr2, _⟩ := kh
        cases lo with
        | none => obtain ⟨_, rfl⟩ := kl; simp [Instr.sliceBounds, hr1, hr2]
        | some y => obtain ⟨r', hr1', hr2', _⟩ := kl; simp at hr2'; simp [Instr.sliceBounds, hr1, hr2, hr1', hr2']
    | some u =>
      have km := run_bnd (P := P) (w := w) (most' := c') hF hm hbk hc' .slice3Acap
      obtain ⟨rm, hm1, hm2, hmle, hms⟩ := km
      have kh := run_bnd (P := P) (w := w) hF hh hbh (Nat.le_refl _) .slice3B
      refine ⟨k, ?_, Nat.le_refl _, fun _ => rfl, (fun h => by cases h), by omega⟩
      cases hi with
      | none =>
        simp at hh; subst hh
        have := hmh hms
        cases this
      | some z =>
        obtain ⟨r, hr1, hr2, _⟩ := kh
        cases lo with
        | none => obtain ⟨_, rfl⟩ := kl; simp [Instr.sliceBounds, hm1, hm2, hr1, hr2]
        | some y => obtain ⟨r', hr1', hr2', _⟩ := kl; simp at hr2'; simp [Instr.sliceBounds, hm1, hm2, hr1, hr2, hr1', hr2']
  obtain ⟨k', hb, hkk, hkm, hkn, hkc⟩ := hbounds
  have hrun : (execOp a.eval o).run P w = .ok (.value (.slice (if k' = l then ra else ra.map (·.add (l * sz))) (h - l) (k' - l))) w := by
    simp only [execOp, ho, Instr.sliceAt, Sem.run_bind, run_underlying ht, Result.andThen_ok, Instr.slice, hr, hb, run_sizeT hsz, Sem.run_pure]
  cases ad with
  | none =>
    simp only [Option.some.injEq, Prod.mk.injEq] at hs
    obtain ⟨rfl, rfl, rfl⟩ := hs
    obtain ⟨rfl, rfl⟩ := hnil rfl
    have : k' = k := by
      cases mx with
      | none => exact (hkn rfl).1.trans (hkn rfl).2.symm
      | some u => exact hkm rfl
    subst this
    refine .quiet hM (rv := _) hrun ?_
    simp only [Option.map_none, ite_self]
    exact .snil _ _
  | some ad =>
    simp only at hs
    split at hs
    · rename_i hk
      simp only [Option.some.injEq, Prod.mk.injEq] at hs
      obtain ⟨rfl, rfl, rfl⟩ := hs
      have hmn : mx = none := by
        cases mx with
        | none => rfl
        | some u =>
          have : em.isSome = true := by
            simp only [Option.elim_some, Option.map_eq_some_iff] at hm
            obtain ⟨_, _, rfl⟩ := hm; rfl
          rw [Option.isNone_iff_eq_none] at hk
          rw [hk.2] at this; cases this
      have hkc2 := (hkn hmn).2
      have e0 : h - l = 0 := by omega
      refine .quiet hM (rv := _) hrun ?_
      rw [e0]
      have hra : ∃ r, ra = some r := by
        rw [hr] at h1
        cases h1 <;> exact ⟨_, rfl⟩
      obtain ⟨r, rfl⟩ := hra
      split
      · exact .empty
      · exact .empty
    · rename_i hk
      split at hs
      · cases hs
      · rename_i hsp
        split at hs
        · cases hs
        · rename_i blk hblk
          split at hs
          · rename_i hbsz
            simp only [Option.some.injEq, Prod.mk.injEq] at hs
            obtain ⟨rfl, rfl, rfl⟩ := hs
            obtain ⟨L, c2, hL, hr2, hc2, hroom⟩ := h1.inv_slice (by simpa using hsp)
            rw [hr] at hr2
            cases hr2
            have hade : ad = ⟨ad.block, ad.off, none⟩ := by
              cases ad; simp at hsp; simp [hsp]
            have hlk : l ≤ k' := by
              cases hmx : mx with
              | none => have := hkn hmx; omega
              | some u =>
                have h1 := hkm (by rw [hmx]; rfl)
                have : em.isSome = true := by
                  rw [hmx] at hm
                  simp only [Option.elim_some, Option.map_eq_some_iff] at hm
                  obtain ⟨_, _, rfl⟩ := hm; rfl
                have := hmk this
                omega
            refine .quiet hM (rv := _) hrun ?_
            by_cases e1 : k = l
            · -- the greatest index is told: both keep the place
              have hms : mx.isSome = true := by
                cases mx with
                | none =>
                  simp at hm; subst hm
                  exact absurd ⟨e1, rfl⟩ hk
                | some u => rfl
              have := hkm hms
              rw [this, if_pos e1, if_pos e1]
              rw [hade]
              refine VRel.slice (o := ad.off) hL (Nat.le_refl _) ?_
              · intro k0 N0 h0
                have := hroom k0 N0 h0
                have h3 : (k - l) * k0 ≤ c' * k0 := Nat.mul_le_mul_right _ (by omega)
                omega
            · have e2 : ¬ k' = l := by
                intro e
                cases hmx : mx with
                | none =>
                  have h4 := hkn hmx
                  -- then the capacity is the low bound: so is the elder one
                  omega
                | some u => have := hkm (by rw [hmx]; rfl); omega
              rw [if_neg e1, if_neg e2]
              simp only [Option.map_some, addr_add]
              rw [Nat.add_assoc]
              refine VRel.slice (o := ad.off + l * sz) hL (by omega) ?_
              intro k0 N0 h0
              have h5 := hroom k0 N0 h0
              by_cases hown : blk.own = true
              · obtain ⟨cs, t0, _, hroom0, _⟩ := hM.own _ blk L hblk hL hown
                rw [h0] at hroom0
                cases hroom0
                rw [hbsz] at *
                have h6 : (k' - l) * sz + l * sz = k' * sz := by rw [← Nat.add_mul]; congr 1; omega
                have h7 : k' * sz ≤ c' * sz := Nat.mul_le_mul_right _ hkc
                omega
              · rw [hM.ro _ blk L hblk hL (by simpa using hown)] at h0
                cases h0
          · cases hs

end
end Go.Proofs.Ytojdedadgddhgaa.AL
