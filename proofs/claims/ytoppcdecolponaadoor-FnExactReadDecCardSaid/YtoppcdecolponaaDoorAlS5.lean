/- Each step of the small language is a step of the model's: slices and strings, rows made. -/
import Derived.Test.YtoppcdecolponaaDoorAlS4
import Derived.Laws.IdiomStrings
import Derived.Laws.MakeOwn
namespace Go.Proofs.YtoppcdecolponaaDoor.AL
open Go
set_option linter.unusedVariables false
set_option linter.unusedSimpArgs false
variable {no : No} {P : Program}
theorem rep_get' (z : List Value) : ∀ (n i : Nat) (u : Value), (List.replicate n z).flatten[i]? = some u → i < n * z.length ∧ z[i % z.length]? = some u
 | 0, i, u, h => by simp at h
 | n + 1, i, u, h => by
   rw [List.replicate_succ, List.flatten_cons] at h
   by_cases hi : i < z.length
   · rw [List.getElem?_append_left hi] at h
     exact ⟨by rw [Nat.add_mul]; omega, by rw [Nat.mod_eq_of_lt hi]; exact h⟩
   · rw [List.getElem?_append_right (by omega)] at h
     obtain ⟨h1, h2⟩ := rep_get' z n (i - z.length) u h
     refine ⟨by rw [Nat.add_mul]; omega, ?_⟩
     rw [Nat.mod_eq_sub_mod (by omega)]
     exact h2
theorem rep_len' (z : List Value) (n : Nat) : (List.replicate n z).flatten.length = n * z.length := by simp
section
variable {nt : Nat} {β : Inj} {tm : Tm} {a : Act} {m m1 : Mem} {w : World} {bs n n1 : Nat} {v : Value} {o : Oper}
theorem run_bltn (ρ : Operand → Value) {b : Builtin} {args : Array Operand} {ts : Array TypeId} (ho : o.op = .call { callee := .builtin b, args, argTypes := ts }) :
 (execOp ρ o).run P w = (builtin b ts o.type (args.map fun | .const _ => true | _ => false) (args.map ρ)).run P w := by
 simp only [execOp, ho, resolve, Sem.run_bind, Sem.run_pure, Result.andThen_ok, invoke]
 rfl
theorem slice_of {β : Inj} {ad : Option Addr} {l c : Nat} {r : Value} (h : VRel no β (.slice ad l c) r) : ∃ ra c', r = .slice ra l c' ∧ c ≤ c' ∧ (ad = none → ra = none ∧ c' = c) := by
 cases h with
 | snil => exact ⟨_, _, rfl, Nat.le_refl _, fun _ => ⟨rfl, rfl⟩⟩
 | slice hL hc hr => exact ⟨_, _, rfl, hc, fun h => by cases h⟩
 | empty => exact ⟨_, _, rfl, Nat.zero_le _, fun h => by cases h⟩
theorem s_cvbs {src dst e : TypeId} {x : Operand} {ex : E} (ho : o.op = .convert src dst x) (hx : cE no x = some ex) (hsrc : P.underlying src = some (.slice e)) (he8 : P.underlying e = some (.int .u8)) (hdst : P.underlying dst = some .string)
 (hF : FRel no nt β tm a) (hM : MRel no β m w) (hs : stepO bs (.cvbs ex) tm m n = some (v, m1, n1)) : Runs P no β m bs n n1 w (execOp a.eval o) v m1 := by
 have h1 := E.sim hF hx
 simp only [stepO] at hs
 split at hs
 · rename_i ad l c hev
   rw [hev] at h1
   split at hs
   · rename_i cs hcs
     split at hs
     · rename_i bys hbs
       simp only [Option.some.injEq, Prod.mk.injEq] at hs
       obtain ⟨rfl, rfl, rfl⟩ := hs
       obtain ⟨hlen, hat⟩ := bytesV_at hbs
       unfold rdn at hcs
       split at hcs
       · cases hcs
       · rename_i hsp
         split at hcs
         · rename_i blk hb
           split at hcs
           · rename_i hle
             cases hcs
             generalize hr : a.eval x = rx at h1
             cases h1 with
             | @slice b o2 L _ _ c' hL hc hroom =>
               have hl : bys.length = l := by rw [hlen]; simp; simp at hle; omega
               subst hl
               refine .quiet hM (rv := .string ⟨bys.toArray⟩) ?_ (.string _)
               have key := run_convert_bytes_back (P := P) w src dst e ⟨L.B, L.O + o2, none⟩ c' bys hsrc he8 hdst fun j hj => by
                have h3 := hat j bys[j] (List.getElem?_eq_getElem hj)
                rw [List.getElem?_take_of_lt hj, List.getElem?_drop] at h3
                obtain ⟨r, hr1, hr2⟩ := hM.cells b blk L hb hL _ _ h3
                cases hr2
                rw [addr_add, Nat.add_assoc]
                exact hr1
               simp [execOp, ho, hr, key]
             | empty => simp at hsp
           · cases hcs
         · cases hcs
     · cases hs
   · cases hs
 · cases hs
theorem s_len {t e : TypeId} {x : Operand} {ex : E} {args : Array Operand} {ts : Array TypeId} (ho : o.op = .call { callee := .builtin .len, args, argTypes := ts }) (ha : args = #[x]) (hts : ts[0]? = some t) (ht : P.underlying t = some (.slice e))
 (hx : cE no x = some ex) (hF : FRel no nt β tm a) (hM : MRel no β m w)
 (hs : stepO bs (.len ex) tm m n = some (v, m1, n1)) : Runs P no β m bs n n1 w (execOp a.eval o) v m1 := by
 have h1 := E.sim hF hx
 simp only [stepO] at hs
 split at hs
 · rename_i ad l c he
   simp only [Option.some.injEq, Prod.mk.injEq] at hs
   obtain ⟨rfl, rfl, rfl⟩ := hs
   rw [he] at h1
   obtain ⟨ra, c', hr, _⟩ := slice_of h1
   refine .quiet hM (rv := .int .i64 l) ?_ (.int _ _)
   rw [run_bltn _ ho]
   simp [ha, builtin, Builtin.len_, hts, run_underlying ht, hr, goInt]
 · cases hs
theorem s_lens {t : TypeId} {x : Operand} {ex : E} {args : Array Operand} {ts : Array TypeId} (ho : o.op = .call { callee := .builtin .len, args, argTypes := ts }) (ha : args = #[x]) (hts : ts[0]? = some t) (ht : P.underlying t = some .string)
 (hx : cE no x = some ex) (hF : FRel no nt β tm a) (hM : MRel no β m w)
 (hs : stepO bs (.lens ex) tm m n = some (v, m1, n1)) : Runs P no β m bs n n1 w (execOp a.eval o) v m1 := by
 have h1 := E.sim hF hx
 simp only [stepO] at hs
 split at hs
 · rename_i s he
   simp only [Option.some.injEq, Prod.mk.injEq] at hs
   obtain ⟨rfl, rfl, rfl⟩ := hs
   rw [he] at h1
   cases hr : a.eval x <;> rw [hr] at h1 <;> cases h1
   refine .quiet hM (rv := .int .i64 s.size) ?_ (.int _ _)
   rw [run_bltn _ ho]
   simp [ha, builtin, Builtin.len_, hts, run_underlying ht, hr, goInt]
 · cases hs
theorem s_ix {t : TypeId} {x i : Operand} {ex ei : E} (ho : o.op = .index t x i) (ht : P.underlying t = some .string) (hx : cE no x = some ex) (hi : cE no i = some ei) (hF : FRel no nt β tm a) (hM : MRel no β m w)
 (hs : stepO bs (.ix ex ei) tm m n = some (v, m1, n1)) : Runs P no β m bs n n1 w (execOp a.eval o) v m1 := by
 have h1 := E.sim hF hx
 have h2 := E.sim hF hi
 simp only [stepO] at hs
 split at hs
 · rename_i s k j he hj
   split at hs
   · rename_i hj0
     split at hs
     · rename_i b hb
       simp only [Option.some.injEq, Prod.mk.injEq] at hs
       obtain ⟨rfl, rfl, rfl⟩ := hs
       rw [he] at h1
       rw [hj] at h2
       cases hr : a.eval x <;> rw [hr] at h1 <;> cases h1
       cases hr2 : a.eval i <;> rw [hr2] at h2 <;> cases h2
       refine .quiet hM (rv := .int .u8 b.toNat) ?_ (.int _ _)
       simp [execOp, ho, Instr.index, asIntOf, run_underlying ht, hr, hr2, hj0, hb]
     · cases hs
   · cases hs
 · cases hs
theorem s_fld {s : TypeId} {x : Operand} {e : E} {f : Nat} {fd : Field} {k : Option Nat} {b : Bool} (ho : o.op = .field s x f) (hx : cE no x = some e) (hfd : fieldT P s f = some fd) (hb : aggT P fd.type = some b)
 (hk : if b then ∃ j, sizeT P fd.type = some j ∧ k = some j else k = none) (hF : FRel no nt β tm a) (hM : MRel no β m w)
 (hs : stepO bs (.fld fd.offset k e) tm m n = some (v, m1, n1)) : Runs P no β m bs n n1 w (execOp a.eval o) v m1 := by
 have h1 := E.sim hF hx
 simp only [stepO] at hs
 split at hs
 · rename_i cs he
   rw [he] at h1
   obtain ⟨rs, hr, hsz, hc⟩ := agg_of h1
   unfold fieldT at hfd
   split at hfd
   · rename_i fs hfs
     cases b with
     | false =>
       simp only [Bool.false_eq_true, if_false] at hk
       subst hk
       simp only at hs
       split at hs
       · rename_i u hu
         simp only [Option.some.injEq, Prod.mk.injEq] at hs
         obtain ⟨rfl, rfl, rfl⟩ := hs
         have hlt := (Array.getElem?_eq_some_iff.1 hu).1
         have hri : rs[fd.offset]? = some (rs[fd.offset]'(by omega)) := Array.getElem?_eq_getElem _
         refine .quiet hM (rv := rs[fd.offset]'(by omega)) ?_ (hc _ _ _ hu hri)
         simp [execOp, ho, Instr.field, run_underlying hfs, hfd, hr, asAgg, part, run_aggT hb, hri]
       · cases hs
     | true =>
       simp only [if_true] at hk
       obtain ⟨j, hj, rfl⟩ := hk
       simp only [Option.some.injEq, Prod.mk.injEq] at hs
       obtain ⟨rfl, rfl, rfl⟩ := hs
       refine .quiet hM (rv := .agg (rs.extract fd.offset (fd.offset + j))) ?_ (.agg (by simp [hsz]) fun i x y hx hy => ?_)
       · simp [execOp, ho, Instr.field, run_underlying hfs, hfd, hr, asAgg, part, run_aggT hb, run_sizeT hj]
       · rw [Array.getElem?_extract] at hx hy
         split at hx
         · split at hy
           · exact hc _ _ _ hx hy
           · cases hy
         · cases hx
   · cases hfd
 · cases hs
theorem run_bnd {x : Option Operand} {e : Option E} {dflt most most' k : Nat} (hF : FRel no nt β tm a) (hx : x.elim (some none) (fun y => (cE no y).map some) = some e) (hb : bnd tm e dflt most = some k) (hle : most ≤ most') (code : BoundsCode) :
 match x with
 | none => e = none ∧ k = dflt
 | some y => ∃ r, a.eval y = r ∧ (Instr.sliceBound r most' code).run P w = .ok k w ∧ k ≤ most ∧ e.isSome = true := by
 cases x with
 | none =>
   simp at hx; subst hx
   simp [bnd] at hb
   exact ⟨rfl, hb.symm⟩
 | some y =>
   simp only [Option.elim_some, Option.map_eq_some_iff] at hx
   obtain ⟨e', he', rfl⟩ := hx
   have h1 := E.sim hF he'
   simp only [bnd] at hb
   split at hb
   · rename_i kd i hi
     split at hb
     · rename_i hc
       cases hb
       rw [hi] at h1
       have : (i : Int) ≤ (most' : Int) := by omega
       exact ⟨_, rfl, by rw [h1.inv_int]; simp [Instr.sliceBound, asIntOf, hc.1, this], by omega, rfl⟩
     · cases hb
   · cases hb
theorem s_sls {t : TypeId} {x : Operand} {lo hi : Option Operand} {ex : E} {el eh : Option E} (ho : o.op = .slice t x lo hi none) (ht : P.underlying t = some .string) (hx : cE no x = some ex)
 (hl : lo.elim (some none) (fun y => (cE no y).map some) = some el) (hh : hi.elim (some none) (fun y => (cE no y).map some) = some eh) (hF : FRel no nt β tm a) (hM : MRel no β m w)
 (hs : stepO bs (.sls ex el eh) tm m n = some (v, m1, n1)) : Runs P no β m bs n n1 w (execOp a.eval o) v m1 := by
 have h1 := E.sim hF hx
 simp only [stepO] at hs
 split at hs
 · rename_i s he
   split at hs
   · cases hs
   · rename_i h hbh
     split at hs
     · cases hs
     · rename_i l hbl
       simp only [Option.some.injEq, Prod.mk.injEq] at hs
       obtain ⟨rfl, rfl, rfl⟩ := hs
       rw [he] at h1
       cases hr : a.eval x <;> rw [hr] at h1 <;> cases h1
       have kh := run_bnd (P := P) (w := w) hF hh hbh (Nat.le_refl _) .sliceAlen
       have kl := run_bnd (P := P) (w := w) hF hl hbl (Nat.le_refl _) .sliceB
       refine .quiet hM (rv := .string (s.extract l h)) ?_ (.string _)
       have hb : (Instr.sliceBounds false s.size s.size (lo.map a.eval) (hi.map a.eval) none).run P w = .ok (l, h, s.size) w := by
        cases hi with
        | none =>
          obtain ⟨_, rfl⟩ := kh
          cases lo with
          | none => obtain ⟨_, rfl⟩ := kl; simp [Instr.sliceBounds]
          | some y => obtain ⟨r, hr1, hr2, _⟩ := kl; simp [Instr.sliceBounds, hr1, hr2]
        | some z =>
          obtain ⟨r, hr1, hr2, _⟩ := kh
          cases lo with
          | none => obtain ⟨_, rfl⟩ := kl; simp [Instr.sliceBounds, hr1, hr2]
          | some y => obtain ⟨r', hr1', hr2', _⟩ := kl; simp [Instr.sliceBounds, hr1, hr2, hr1', hr2']
       simp [execOp, ho, Instr.sliceAt, Instr.slice, run_underlying ht, hr, hb]
 · cases hs
theorem s_sl {t e : TypeId} {x : Operand} {lo hi mx : Option Operand} {ex : E} {el eh em : Option E} {sz : Nat} (ho : o.op = .slice t x lo hi mx) (ht : P.underlying t = some (.slice e)) (hsz : sizeT P e = some sz) (hx : cE no x = some ex)
 (hl : lo.elim (some none) (fun y => (cE no y).map some) = some el) (hh : hi.elim (some none) (fun y => (cE no y).map some) = some eh) (hm : mx.elim (some none) (fun y => (cE no y).map some) = some em)
 (hF : FRel no nt β tm a) (hM : MRel no β m w)
 (hs : stepO bs (.sl sz ex el eh em) tm m n = some (v, m1, n1)) : Runs P no β m bs n n1 w (execOp a.eval o) v m1 := by
 have h1 := E.sim hF hx
 simp only [stepO] at hs
 split at hs
 case h_2 => cases hs
 rename_i ad len cap he
 split at hs
 · cases hs
 rename_i k hbk
 split at hs
 · cases hs
 rename_i h hbh
 split at hs
 · cases hs
 rename_i l hbl
 split at hs
 case isFalse => cases hs
 rename_i hcond
 obtain ⟨hhl, hlc, hmh, hmk⟩ := hcond
 rw [he] at h1
 obtain ⟨ra, c', hr, hc', hnil⟩ := slice_of h1
 -- the bounds, in the model
 have kl := run_bnd (P := P) (w := w) hF hl hbl (Nat.le_refl _) (if mx.isSome then .slice3C else .sliceB)
 have hlh : l ≤ h := by
  cases lo with
  | none => obtain ⟨_, rfl⟩ := kl; omega
  | some y => obtain ⟨_, _, _, hle, _⟩ := kl; exact hle
 have hbounds : ∃ k', (Instr.sliceBounds true len c' (lo.map a.eval) (hi.map a.eval) (mx.map a.eval)).run P w = .ok (l, h, k') w ∧ k ≤ k' ∧ (mx.isSome = true → k' = k) ∧ (mx = none → k' = c' ∧ k = cap) ∧ k' ≤ c' := by
  cases mx with
  | none =>
    simp at hm; subst hm
    simp [bnd] at hbk; subst hbk
    have kh := run_bnd (P := P) (w := w) (most' := c') hF hh hbh hc' .sliceAcap
    refine ⟨c', ?_, hc', (fun h => by cases h), fun _ => ⟨rfl, rfl⟩, Nat.le_refl _⟩
    cases hi with
    | none =>
      obtain ⟨_, rfl⟩ := kh
      cases lo with
      | none => obtain ⟨_, rfl⟩ := kl; simp [Instr.sliceBounds]
      | some y => obtain ⟨r, hr1, hr2, _⟩ := kl; simp at hr2; simp [Instr.sliceBounds, hr1, hr2]
    | some z =>
      obtain ⟨r, hr1, hr2, _⟩ := kh
      cases lo with
      | none => obtain ⟨_, rfl⟩ := kl; simp [Instr.sliceBounds, hr1, hr2]
      | some y => obtain ⟨r', hr1', hr2', _⟩ := kl; simp at hr2'; simp [Instr.sliceBounds, hr1, hr2, hr1', hr2']
  | some u =>
    have km := run_bnd (P := P) (w := w) (most' := c') hF hm hbk hc' .slice3Acap
    obtain ⟨rm, hm1, hm2, hmle, hms⟩ := km
    have kh := run_bnd (P := P) (w := w) hF hh hbh (Nat.le_refl _) .slice3B
    refine ⟨k, ?_, Nat.le_refl _, fun _ => rfl, (fun h => by cases h), by omega⟩
    cases hi with
    | none =>
      simp at hh; subst hh
      have := hmh hms
      cases this
    | some z =>
      obtain ⟨r, hr1, hr2, _⟩ := kh
      cases lo with
      | none => obtain ⟨_, rfl⟩ := kl; simp [Instr.sliceBounds, hm1, hm2, hr1, hr2]
      | some y => obtain ⟨r', hr1', hr2', _⟩ := kl; simp at hr2'; simp [Instr.sliceBounds, hm1, hm2, hr1, hr2, hr1', hr2']
 obtain ⟨k', hb, hkk, hkm, hkn, hkc⟩ := hbounds
 have hrun : (execOp a.eval o).run P w = .ok (.value (.slice (if k' = l then ra else ra.map (·.add (l * sz))) (h - l) (k' - l))) w := by
  simp only [execOp, ho, Instr.sliceAt, Sem.run_bind, run_underlying ht, Result.andThen_ok, Instr.slice, hr, hb, run_sizeT hsz, Sem.run_pure]
 cases ad with
 | none =>
   simp only [Option.some.injEq, Prod.mk.injEq] at hs
   obtain ⟨rfl, rfl, rfl⟩ := hs
   obtain ⟨rfl, rfl⟩ := hnil rfl
   have : k' = k := by
    cases mx with
    | none => exact (hkn rfl).1.trans (hkn rfl).2.symm
    | some u => exact hkm rfl
   subst this
   refine .quiet hM (rv := _) hrun ?_
   simp only [Option.map_none, ite_self]
   exact .snil _ _
 | some ad =>
   simp only at hs
   split at hs
   · rename_i hk
     simp only [Option.some.injEq, Prod.mk.injEq] at hs
     obtain ⟨rfl, rfl, rfl⟩ := hs
     have hmn : mx = none := by
      cases mx with
      | none => rfl
      | some u =>
        have : em.isSome = true := by
         simp only [Option.elim_some, Option.map_eq_some_iff] at hm
         obtain ⟨_, _, rfl⟩ := hm; rfl
        rw [Option.isNone_iff_eq_none] at hk
        rw [hk.2] at this; cases this
     have hkc2 := (hkn hmn).2
     have e0 : h - l = 0 := by omega
     refine .quiet hM (rv := _) hrun ?_
     rw [e0]
     have hra : ∃ r, ra = some r := by
      rw [hr] at h1
      cases h1 <;> exact ⟨_, rfl⟩
     obtain ⟨r, rfl⟩ := hra
     split
     · exact .empty
     · exact .empty
   · rename_i hk
     split at hs
     · cases hs
     · rename_i hsp
       split at hs
       · cases hs
       · rename_i blk hblk
         split at hs
         · rename_i hbsz
           simp only [Option.some.injEq, Prod.mk.injEq] at hs
           obtain ⟨rfl, rfl, rfl⟩ := hs
           obtain ⟨L, c2, hL, hr2, hc2, hroom⟩ := h1.inv_slice (by simpa using hsp)
           rw [hr] at hr2
           cases hr2
           have hade : ad = ⟨ad.block, ad.off, none⟩ := by
            cases ad; simp at hsp; simp [hsp]
           have hlk : l ≤ k' := by
            cases hmx : mx with
            | none => have := hkn hmx; omega
            | some u =>
              have h1 := hkm (by rw [hmx]; rfl)
              have : em.isSome = true := by
               rw [hmx] at hm
               simp only [Option.elim_some, Option.map_eq_some_iff] at hm
               obtain ⟨_, _, rfl⟩ := hm; rfl
              have := hmk this
              omega
           refine .quiet hM (rv := _) hrun ?_
           by_cases e1 : k = l
           · -- the greatest index is told: both keep the place
             have hms : mx.isSome = true := by
              cases mx with
              | none =>
                simp at hm; subst hm
                exact absurd ⟨e1, rfl⟩ hk
              | some u => rfl
             have := hkm hms
             rw [this, if_pos e1, if_pos e1]
             rw [hade]
             refine VRel.slice (o := ad.off) hL (Nat.le_refl _) ?_
             · intro k0 N0 h0
               have := hroom k0 N0 h0
               have h3 : (k - l) * k0 ≤ c' * k0 := Nat.mul_le_mul_right _ (by omega)
               omega
           · have e2 : ¬ k' = l := by
              intro e
              cases hmx : mx with
              | none =>
                have h4 := hkn hmx
                -- then the capacity is the low bound: so is the elder one
                omega
              | some u => have := hkm (by rw [hmx]; rfl); omega
             rw [if_neg e1, if_neg e2]
             simp only [Option.map_some, addr_add]
             rw [Nat.add_assoc]
             refine VRel.slice (o := ad.off + l * sz) hL (by omega) ?_
             intro k0 N0 h0
             have h5 := hroom k0 N0 h0
             by_cases hown : blk.own = true
             · obtain ⟨cs, t0, _, hroom0, _⟩ := hM.own _ blk L hblk hL hown
               rw [h0] at hroom0
               cases hroom0
               rw [hbsz] at *
               have h6 : (k' - l) * sz + l * sz = k' * sz := by rw [← Nat.add_mul]; congr 1; omega
               have h7 : k' * sz ≤ c' * sz := Nat.mul_le_mul_right _ hkc
               omega
             · rw [hM.ro _ blk L hblk hL (by simpa using hown)] at h0
               cases h0
         · cases hs
theorem s_slA {t e : TypeId} {x : Operand} {lo hi : Option Operand} {ex : E} {el eh : Option E} {sz : Nat} (ho : o.op = .slice t x lo hi none) (ht : P.underlying t = some (.slice e)) (hsz : sizeT P e = some sz) (hx : cE no x = some ex)
 (hl : lo.elim (some none) (fun y => (cE no y).map some) = some el) (hh : hi.elim (some none) (fun y => (cE no y).map some) = some eh)
 (hF : FRel no nt β tm a) (hM : MRel no β m w) (hfr : Fresh m n) (hd : β n = none)
 (hs : stepA bs (.sl sz ex el eh none) tm m n = some (v, m1, n1)) : Runs P no β m bs n n1 w (execOp a.eval o) v m1 := by
 have h1 := E.sim hF hx
 obtain ⟨sz', x', lo', hi', ad, len, cap, h, l, blk, he', he, hbh, hbl, hhl, hlc, hlh, hsp, hblk, hbs, hown, hbsz, hroomy, rfl, rfl, rfl⟩ := stepA_inv hs
 cases he'
 rw [he] at h1
 obtain ⟨L, c', hL, hr, hc', hroom⟩ := h1.inv_slice hsp
 have kl := run_bnd (P := P) (w := w) hF hl hbl (Nat.le_refl _) .sliceB
 have kh := run_bnd (P := P) (w := w) (most' := c') hF hh hbh hc' .sliceAcap
 have hb : (Instr.sliceBounds true len c' (lo.map a.eval) (hi.map a.eval) none).run P w = .ok (l, h, c') w := by
  cases hi with
  | none =>
    obtain ⟨_, rfl⟩ := kh
    cases lo with
    | none => obtain ⟨_, rfl⟩ := kl; simp [Instr.sliceBounds]
    | some y => obtain ⟨r, hr1, hr2, _⟩ := kl; simp [Instr.sliceBounds, hr1, hr2]
  | some z =>
    obtain ⟨r, hr1, hr2, _⟩ := kh
    cases lo with
    | none => obtain ⟨_, rfl⟩ := kl; simp [Instr.sliceBounds, hr1, hr2]
    | some y => obtain ⟨r', hr1', hr2', _⟩ := kl; simp [Instr.sliceBounds, hr1, hr2, hr1', hr2']
 have hrun : (execOp a.eval o).run P w = .ok (.value (.slice (if c' = l then some ⟨L.B, L.O + ad.off, none⟩ else (some (⟨L.B, L.O + ad.off, none⟩ : Addr)).map (·.add (l * sz))) (h - l) (c' - l))) w := by
  simp only [execOp, ho, Instr.sliceAt, Sem.run_bind, run_underlying ht, Result.andThen_ok, Instr.slice, hr, Option.map_none, hb, run_sizeT hsz, Sem.run_pure]
 obtain ⟨cs, t0, hw0, hroom0, hcs⟩ := hM.own _ blk L hblk hL hown
 have hr9 := hroom _ _ hroom0
 rw [hbsz] at hr9 hroom0
 -- where the row lies from now on
 obtain ⟨O1, hO1⟩ : ∃ O1, O1 = if c' = l then L.O + ad.off else L.O + ad.off + l * sz := ⟨_, rfl⟩
 have hO1c : O1 + (c' - l) * sz ≤ cs.size ∧ (0 < h - l → O1 = L.O + ad.off + l * sz) := by
  rw [hO1]
  split
  · rename_i e
    refine ⟨?_, fun h0 => by omega⟩
    rw [e, Nat.sub_self, Nat.zero_mul]
    have : 0 ≤ c' * sz := Nat.zero_le _
    omega
  · rename_i e
    refine ⟨?_, fun _ => rfl⟩
    have h6 : (c' - l) * sz + l * sz = c' * sz := by rw [← Nat.add_mul]; congr 1; omega
    omega
 have hval : (if c' = l then some (⟨L.B, L.O + ad.off, none⟩ : Addr) else (some (⟨L.B, L.O + ad.off, none⟩ : Addr)).map (·.add (l * sz))) = some ⟨L.B, O1, none⟩ := by
  rw [hO1]
  split
  · rfl
  · simp only [Option.map_some, addr_add]
 rw [hval] at hrun
 have hlt : ad.block < n := by
  rcases Nat.lt_or_ge ad.block n with h2 | h2
  · exact h2
  · rw [hfr _ h2] at hblk; cases hblk
 let β1 : Inj := upd β n (some ⟨L.B, O1, some (sz, cs.size)⟩)
 have hβ1 : β1 n = some ⟨L.B, O1, some (sz, cs.size)⟩ := by simp [β1, upd]
 have ex : Ext0 β β1 := by
  intro b L' e
  simp only [β1, upd]
  split
  · rename_i e1; subst e1; rw [hd] at e; cases e
  · exact e
 have hβb : ∀ b, b ≠ n → β1 b = β b := fun b hb => by simp only [β1, upd, if_neg hb]
 have hmb : ∀ b blk', b ≠ n → upd (upd m ad.block none) n (some ⟨(blk.cells.drop (ad.off + l * sz)).take ((h - l) * sz), true, sz⟩) b = some blk' → b ≠ ad.block ∧ m b = some blk' := by
  intro b blk' hb e
  simp only [upd, if_neg hb] at e
  split at e
  · cases e
  · exact ⟨by assumption, e⟩
 have hmn : ∀ blk', upd (upd m ad.block none) n (some (⟨(blk.cells.drop (ad.off + l * sz)).take ((h - l) * sz), true, sz⟩ : Blk)) n = some blk' → blk' = ⟨(blk.cells.drop (ad.off + l * sz)).take ((h - l) * sz), true, sz⟩ := by
  intro blk' e
  simp only [upd, if_true] at e
  cases e; rfl
 have hlen : ((blk.cells.drop (ad.off + l * sz)).take ((h - l) * sz)).length = (h - l) * sz := by
  have h6 : (h - l) * sz + l * sz = h * sz := by rw [← Nat.add_mul]; congr 1; omega
  rw [List.length_take, List.length_drop]; omega
 have hle2 : (h - l) * sz ≤ (c' - l) * sz := Nat.mul_le_mul_right _ (by omega)
 refine ⟨_, _, w, β1, hrun, .inl rfl, ?_, ⟨ex, fun b e => ?_, fun b L' e e0 => ?_⟩, ⟨fun b L' e => ?_, fun b blk' L' hbk e i u hu => ?_, fun b blk' L' hbk e ho1 => ?_, fun b blk' L' hbk e ho1 => ?_, fun b b' blk' blk2 L' L2 hbk ho1 e hbk2 e2 hne => ?_, hM.kept, fun b blk' L' hbk e ho1 => ?_⟩, Frm.refl ..⟩
 · have := VRel.slice (no := no) (b := n) (o := 0) (l := h - l) (c := h - l) (c' := c' - l) hβ1 (by omega) (by intro k0 N0 h0; simp at h0; obtain ⟨rfl, rfl⟩ := h0; have := hO1c.1; simpa using this)
   unfold slc
   simpa using this
 · by_cases hb : b = n
   · subst hb; omega
   · exact absurd (hβb b hb) e
 · by_cases hb : b = n
   · subst hb
     rw [hβ1] at e; cases e
     exact .inr ⟨ad.block, L, hL, ⟨blk, hblk, hown⟩, hbs, hlt, rfl⟩
   · rw [hβb b hb, e0] at e; cases e
 · by_cases hb : b = n
   · subst hb; rw [hβ1] at e; cases e; have := hM.bound _ _ hL; exact this
   · rw [hβb b hb] at e; exact hM.bound b L' e
 · by_cases hb : b = n
   · subst hb
     rw [hβ1] at e; cases e
     have := hmn blk' hbk; subst this
     simp only [List.getElem?_take] at hu
     split at hu
     · rename_i hi
       rw [List.getElem?_drop] at hu
       obtain ⟨r, hr1, hr2⟩ := hM.cells _ blk L hblk hL _ u hu
       refine ⟨r, ?_, hr2.mono ex⟩
       have h0 : 0 < h - l := by
        rcases Nat.eq_zero_or_pos (h - l) with h0 | h0
        · rw [h0] at hi; simp at hi
        · exact h0
       have := hO1c.2 h0
       rw [← hr1]; simp only; congr 2; omega
     · cases hu
   · rw [hβb b hb] at e
     obtain ⟨_, h3⟩ := hmb b blk' hb hbk
     obtain ⟨r, hr1, hr2⟩ := hM.cells b blk' L' h3 e i u hu
     exact ⟨r, hr1, hr2.mono ex⟩
 · by_cases hb : b = n
   · subst hb
     rw [hβ1] at e; cases e
     have := hmn blk' hbk; subst this
     exact ⟨cs, t0, hw0, rfl, by simp only; rw [hlen]; have := hO1c.1; omega⟩
   · rw [hβb b hb] at e
     exact hM.own b blk' L' (hmb b blk' hb hbk).2 e ho1
 · by_cases hb : b = n
   · subst hb
     have := hmn blk' hbk; subst this
     cases ho1
   · rw [hβb b hb] at e
     exact hM.ro b blk' L' (hmb b blk' hb hbk).2 e ho1
 · by_cases hb : b = n
   · by_cases hb' : b' = n
     · omega
     · subst hb
       rw [hβ1] at e; cases e
       rw [hβb b' hb'] at e2
       obtain ⟨h3, h4⟩ := hmb b' blk2 hb' hbk2
       exact hM.apart ad.block b' blk blk2 L L2 hblk hown hL h4 e2 (Ne.symm h3)
   · rw [hβb b hb] at e
     obtain ⟨h3, h4⟩ := hmb b blk' hb hbk
     by_cases hb' : b' = n
     · subst hb'
       rw [hβ1] at e2; cases e2
       exact hM.apart b ad.block blk' blk L' L h4 ho1 e hblk hL h3
     · rw [hβb b' hb'] at e2
       exact hM.apart b b' blk' blk2 L' L2 h4 ho1 e (hmb b' blk2 hb' hbk2).2 e2 hne
 · by_cases hb : b = n
   · subst hb
     rw [hβ1] at e; cases e
     exact hM.ownS ad.block blk L hblk hL hown
   · rw [hβb b hb] at e
     exact hM.ownS b blk' L' (hmb b blk' hb hbk).2 e ho1
theorem s_clr {t e : TypeId} {x : Operand} {ex : E} {args : Array Operand} {ts : Array TypeId} {z : List Value} (ho : o.op = .call { callee := .builtin .clear, args, argTypes := ts }) (ha : args = #[x]) (hts : ts[0]? = some t) (ht : P.underlying t = some (.slice e)) (hz : zeroOf P e = some z)
 (hx : cE no x = some ex) (hF : FRel no nt β tm a) (hM : MRel no β m w) (hfr : Fresh m n)
 (hs : stepO bs (.clr z.length z ex) tm m n = some (v, m1, n1)) : Runs P no β m bs n n1 w (execOp a.eval o) v m1 := by
 have h1 := E.sim hF hx
 simp only [stepO] at hs
 split at hs
 · rename_i ad len cap he
   rw [he] at h1
   obtain ⟨ra, c', hr, hc', hnil⟩ := slice_of h1
   split at hs
   · rename_i h0
     subst h0
     simp only [Option.some.injEq, Prod.mk.injEq] at hs
     obtain ⟨rfl, rfl, rfl⟩ := hs
     refine .quiet hM (rv := .tuple #[]) ?_ .junk
     rw [run_bltn _ ho]
     cases ra <;> simp [ha, builtin, Builtin.clear_, hts, run_underlying ht, hr]
   · rename_i h0
     split at hs
     · rename_i ad
       simp only [if_true] at hs
       split at hs
       · rename_i m2 hw
         simp only [Option.some.injEq, Prod.mk.injEq] at hs
         obtain ⟨rfl, rfl, rfl⟩ := hs
         have hsp : ad.spot = none := by
          cases hsp : ad.spot with
          | none => rfl
          | some k => simp [AL.wrn, hsp] at hw
         obtain ⟨L, c2, hL, hr2, _, _⟩ := h1.inv_slice hsp
         rw [hr] at hr2
         cases hr2
         obtain ⟨zv, hzrun, hzc, hflat, hsz⟩ := run_zeroOf hz w
         have hptr : VRel no β (.pointer (some ad)) (.pointer (some ⟨L.B, L.O + ad.off, none⟩)) := by
          have : ad = ⟨ad.block, ad.off, none⟩ := by cases ad; simp at hsp; simp [hsp]
          rw [this]; exact .ptr hL
         obtain ⟨w1, hrun, hM1, hF1⟩ := wrn_sim P hM hfr hptr hw (rs := (Builtin.zeroCells zv.cells len).toList) (by
          intro u hu
          rw [List.mem_flatten] at hu
          obtain ⟨l, hl1, hl2⟩ := hu
          rw [List.mem_replicate] at hl1
          rw [hl1.2] at hl2
          have := hflat u hl2
          cases u <;> first | rfl | cases this) (by simp [Builtin.zeroCells, hzc, rep_len']) (by
          intro i u r hu hr'
          obtain ⟨hi, hu'⟩ := rep_get' z _ _ _ hu
          have : r = u := by
           have hlt : i % zv.cells.size < zv.cells.size := by
            have := (List.getElem?_eq_some_iff.1 hu').1
            rw [hzc]; simpa using this
           have h3 : zv.cells[i % zv.cells.size]? = some u := by rw [hzc]; simpa using hu'
           simp only [Builtin.zeroCells, Array.toList_map, Array.toList_range, List.getElem?_map] at hr'
           rw [List.getElem?_range (by rw [hzc]; simpa using hi)] at hr'
           simp only [Option.map_some, Option.some.injEq] at hr'
           rw [← hr', getElem!_pos zv.cells _ hlt]
           rw [Array.getElem?_eq_getElem hlt] at h3
           exact Option.some.inj h3
          rw [this]
          exact .constW (hflat u (List.mem_of_getElem? hu')))
         refine ⟨_, .tuple #[], w1, β, ?_, .inl rfl, .junk, Ext.refl .., hM1, hF1⟩
         rw [run_bltn _ ho]
         obtain ⟨k, rfl⟩ : ∃ k, len = k + 1 := ⟨len - 1, by omega⟩
         simp [ha, builtin, Builtin.clear_, hts, run_underlying ht, hr, hzrun, hrun]
       · cases hs
     · cases hs
 · cases hs
end
end Go.Proofs.YtoppcdecolponaaDoor.AL
