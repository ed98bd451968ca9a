/- The law FnExactWrrPick holds: whatever the arguments, the call gives true, and the arguments read as before. No condition. -/
import Derived.Test.YtdlkgdlefbabcaaRows
import Derived.Test.YtdlkgdlefbabcaaLkWrrPick
import Derived.Test.YtdlkgdlefbabcaaRow2
import Derived.Test.YtdlkgdlefbabcaaCWrrPick0
import Derived.WalkKit
import Derived.ProofKit
import Derived.Below
import Derived.SizedLaws
namespace Go.Proofs.Ytdlkgdlefbabcaa.AL
open Go
open Go.ChangeShapes Go.WideShapes Go.ChangeAt Go.RowKit
set_option linter.unusedVariables false
set_option linter.unusedSimpArgs false

section
variable {H : Type} {enc : TypeId × Value → H} {W : World}
theorem oInt : Opn enc Try.prog no W 3 (VR iR i64) := VO.int Try.underlying3
theorem oWrr : Opn enc Try.prog no W 34 (VR Wrr.r Wrr.wf) :=
  (Opn.struct Try.underlying34 (by kernel_rfl) (OpnF.cons (k := 1) VR.mono rfl (by kernel_rfl) oInt (OpnF.cons (k := 1) VR.mono rfl (by kernel_rfl) oInt OpnF.nil))).imp fun m x vs h => ⟨⟨x.1, x.2.1⟩, by
    have h := VR.cons h fun _ h => VR.cons h fun _ h => VR.nil h
    exact ⟨h.pt, h.nar, ⟨h.wf.1, h.wf.2.1⟩⟩⟩
theorem oBool : Opn enc Try.prog no W 4 (VR bR (fun _ => True)) := VO.bool Try.underlying4
theorem oMConf : Opn enc Try.prog no W 136 (VR MConf.r MConf.wf) :=
  (Opn.struct Try.underlying136 (by kernel_rfl) (OpnF.cons (k := 1) VR.mono rfl (by kernel_rfl) oInt (OpnF.cons (k := 1) VR.mono rfl (by kernel_rfl) oBool (OpnF.cons (k := 1) VR.mono rfl (by kernel_rfl) oInt (OpnF.cons (k := 1) VR.mono rfl (by kernel_rfl) oInt OpnF.nil))))).imp fun m x vs h => ⟨⟨x.1, x.2.1, x.2.2.1, x.2.2.2.1⟩, by
    have h := VR.cons h fun _ h => VR.cons h fun _ h => VR.cons h fun _ h => VR.cons h fun _ h => VR.nil h
    exact ⟨h.pt, h.nar, ⟨h.wf.1, h.wf.2.2.1, h.wf.2.2.2.1⟩⟩⟩
theorem oSMConf : Opn enc Try.prog no W 22 (VR (slR 4 MConf.r) (fun xs => xs.length ≤ 140737488355328 ∧ ∀ y, y ∈ xs → MConf.wf y)) := VO.slice Try.underlying22 (by kernel_rfl) (by decide) (of_decide_eq_true (by kernel_rfl)) oMConf
theorem oConf : Opn enc Try.prog no W 24 (VR Conf.r Conf.wf) :=
  (Opn.struct Try.underlying24 (by kernel_rfl) (OpnF.cons (k := 1) VR.mono rfl (by kernel_rfl) oSMConf (OpnF.cons (k := 1) VR.mono rfl (by kernel_rfl) oInt (OpnF.cons (k := 1) VR.mono rfl (by kernel_rfl) oInt (OpnF.cons (k := 1) VR.mono rfl (by kernel_rfl) oInt (OpnF.cons (k := 1) VR.mono rfl (by kernel_rfl) oInt (OpnF.cons (k := 1) VR.mono rfl (by kernel_rfl) oInt OpnF.nil))))))).imp fun m x vs h => ⟨⟨x.1, x.2.1, x.2.2.1, x.2.2.2.1, x.2.2.2.2.1, x.2.2.2.2.2.1⟩, by
    have h := VR.cons h fun _ h => VR.cons h fun _ h => VR.cons h fun _ h => VR.cons h fun _ h => VR.cons h fun _ h => VR.cons h fun _ h => VR.nil h
    exact ⟨h.pt, h.nar, ⟨h.wf.1, h.wf.2.1, h.wf.2.2.1, h.wf.2.2.2.1, h.wf.2.2.2.2.1, h.wf.2.2.2.2.2.1⟩⟩⟩
theorem oSBool : Opn enc Try.prog no W 44 (VR (slR 1 bR) (fun xs => xs.length ≤ 140737488355328 ∧ ∀ y, y ∈ xs → (fun _ => True) y)) := VO.slice Try.underlying44 (by kernel_rfl) (by decide) (of_decide_eq_true (by kernel_rfl)) oBool
end

theorem own : ownKnob Try.prog.godebug = none := by kernel_rfl
set_option maxRecDepth 100000 in
theorem lifted (os : Os) (started : os.Started) (H : Type) (enc : TypeId × Value → H) :
    ReturnsInHanded {} Try.checked os 8 .any (Rows.fnExactWrrPickSpec.pre6 enc Try.prog Try.f8 Rows.fnExactWrrPickRow.domain false) (Rows.fnExactWrrPickSpec.post enc Try.prog Try.f8 false true false false) := by
  refine returnsInHanded_of_change_sized (C := Try.checked) own started (by kernel_rfl) Try.func8
    (ChangeSpec.witness6 (enc := enc) (C := Try.checked) false ⟨#[], #[.agg #[.int .i64 0, .int .i64 0], .agg #[.slice none 0 0, .int .i64 0, .int .i64 0, .int .i64 0, .int .i64 0, .int .i64 0], .slice none 0 0], []⟩ 8 (by kernel_rfl) (by kernel_rfl) (by kernel_rfl) (by kernel_rfl)) ?_
  intro W base args ds gs before hval0 hW hcnd hsz0 _
  have hsz : (DataW.weightsEach Try.prog (Try.f8.params.toList ++ Rows.fnExactWrrPickSpec.plain.varTypes Try.prog) (ds ++ gs)).all (· ≤ reachBytes) = true := hsz0
  have hval : ∀ (j : Nat) t v, Try.f8.params[j]? = some t → args[j]? = some v → Value.okWide Try.prog W .any base t v := hval0
  have hW' := hW
  obtain ⟨p, q, hA0, hV, rfl, hfz, hnd⟩ := hW
  have hA : DataW.TrodAll enc Try.prog W 0 (fun _ => true) true Try.f8.params.toList args.toList ds p := hA0
  rw [Try.params8] at hA hval hsz
  obtain ⟨v0, vs0, d0, ds0, p0, q0, hargs, rfl, rfl, h0, r0⟩ := trodAll_cons hA
  obtain ⟨v1, vs1, d1, ds1, p1, q1, rfl, rfl, rfl, h1, r1⟩ := trodAll_cons r0
  obtain ⟨v2, vs2, d2, ds2, p2, q2, rfl, rfl, rfl, h2, r2⟩ := trodAll_cons r1
  obtain ⟨rfl, rfl, rfl⟩ := trodAll_nil r2
  obtain rfl : args = #[v0, v1, v2] := by cases args; simp_all
  obtain ⟨rfl, rfl⟩ := trodVars_none hV
  have hsz2 : ∀ k, k ∈ DataW.weightsEach Try.prog [34, 24, 44] [d0, d1, d2] → k ≤ reachBytes := fun k hk => of_decide_eq_true (List.all_eq_true.1 hsz k hk)
  simp only [DataW.weightsEach, List.mem_append, List.not_mem_nil, or_false] at hsz2
  obtain ⟨cs0, hc0, _⟩ := okWide_struct Try.underlying34 (hval 0 34 v0 rfl rfl)
  obtain ⟨y0, us0, β0, m0, n0, g0, V0, w0, e0⟩ := oWrr.agg h0 (fun k hk => hsz2 k (.inl hk)) hc0 (View.none no W)
  obtain ⟨cs1, hc1, _⟩ := okWide_struct Try.underlying24 (hval 1 24 v1 rfl rfl)
  obtain ⟨y1, us1, β1, m1, n1, g1, V1, w1, e1⟩ := oConf.agg h1 (fun k hk => hsz2 k (.inr (.inl hk))) hc1 V0
  have hc2 : v2.cells = #[v2] := by obtain ⟨_, _, _, rfl⟩ := okWide_slice Try.underlying44 (hval 2 44 v2 rfl rfl); rfl
  obtain ⟨y2, us2, β2, m2, n2, g2, V2, w2, e2⟩ := oSBool.word h2 (fun k hk => hsz2 k (.inr (.inr hk))) hc2 V1
  have hws : Wds no β2 n2 [.agg us0.toArray, .agg us1.toArray, us2] [v0, v1, v2] := ((((w0.mono g1).mono g2).append (w1.mono g2)).append w2)
  have hps : Pt (RF m2) [.agg y0.r, .agg y1.r, .sl 1 (y2.map bR)] [.agg us0.toArray, .agg us1.toArray, us2] := (Pt.cons (RF.agg (by simpa using (VR.mono _ _ _ _ (VR.mono _ _ _ _ e0 g1.mem) g2.mem).pt.1) fun i x y h1 h2 => (VR.mono _ _ _ _ (VR.mono _ _ _ _ e0 g1.mem) g2.mem).pt.2 i x y h1 (by simpa using h2)) (Pt.cons (RF.agg (by simpa using (VR.mono _ _ _ _ e1 g2.mem).pt.1) fun i x y h1 h2 => (VR.mono _ _ _ _ e1 g2.mem).pt.2 i x y h1 (by simpa using h2)) (Pt.cons (Pt.word e2.pt) Pt.nil)))
  refine (law_end (f := 8) (g := 299) mixed link rfl V2 hws hps (c_299 y0 y1 e1.wf y2 e2.wf.1)).mono fun e W' ⟨he, bel⟩ => ?_
  subst he
  exact ⟨_, rfl, post_true rfl hW' rfl rfl Try.underlying4 (by rw [Try.params8]; decide) bel (by kernel_rfl) (by kernel_rfl) (by kernel_rfl)⟩
theorem over : Rows.fnExactWrrPickRow.holds Try.pinned (OpenSpec.ofChange Rows.fnExactWrrPickSpec) :=
  OpenClaim.holds_of_wide 8 Try.f8 rfl rfl rfl rfl rfl rfl rfl ⟨rfl, rfl, rfl, rfl, rfl⟩ rfl rfl rfl rfl rfl (by kernel_rfl) Try.func8 (by kernel_rfl)
    (of_decide_eq_true (by kernel_rfl)) (by unfold Func.isWrapper; first | (rw [if_pos (by decide +kernel)]; kernel_rfl) | (rw [if_neg (by decide +kernel)]; exact ⟨rfl, rfl⟩))
    (fun os started H enc _ => lifted os started H enc)
end Go.Proofs.Ytdlkgdlefbabcaa.AL
namespace Go.Proofs.Ytdlkgdlefbabcaa
/-- The row. -/
theorem fnExactWrrPick_holds : Rows.FnExactWrrPickSaid := AL.over
#print axioms fnExactWrrPick_holds
end Go.Proofs.Ytdlkgdlefbabcaa
