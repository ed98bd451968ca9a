/- The law FnExactMstEnd holds: whatever the arguments, the call gives true, and the arguments read as before. No condition. -/
import Derived.Test.YtdialnejieoelaaRows
import Derived.Test.YtdialnejieoelaaLkMstEnd
import Derived.Test.YtdialnejieoelaaRow2
import Derived.Test.YtdialnejieoelaaCMstEnd1
import Derived.WalkKit
import Derived.ProofKit
import Derived.Below
import Derived.SizedLaws
namespace Go.Proofs.Ytdialnejieoelaa.AL
open Go
open Go.ChangeShapes Go.WideShapes Go.ChangeAt Go.RowKit
set_option linter.unusedVariables false
set_option linter.unusedSimpArgs false
section
variable {H : Type} {enc : TypeId × Value → H} {W : World}
theorem oBool : Opn enc Try.prog no W 4 (VR bR (fun _ => True)) := VO.bool Try.underlying4
theorem oInt : Opn enc Try.prog no W 3 (VR iR i64) := VO.int Try.underlying3
theorem oSInt : Opn enc Try.prog no W 27 (VR (slR 1 iR) (fun xs => xs.length ≤ 140737488355328 ∧ ∀ y, y ∈ xs → i64 y)) := VO.slice Try.underlying27 (by kernel_rfl) (by decide) (of_decide_eq_true (by kernel_rfl)) oInt
theorem oReq : Opn enc Try.prog no W 46 (VR Req.r Req.wf) :=
 (Opn.struct Try.underlying46 (by kernel_rfl) (OpnF.cons (k := 1) VR.mono rfl (by kernel_rfl) oBool (OpnF.cons (k := 1) VR.mono rfl (by kernel_rfl) oInt (OpnF.cons (k := 1) VR.mono rfl (by kernel_rfl) oInt (OpnF.cons (k := 1) VR.mono rfl (by kernel_rfl) oInt (OpnF.cons (k := 1) VR.mono rfl (by kernel_rfl) oBool (OpnF.cons (k := 1) VR.mono rfl (by kernel_rfl) oSInt OpnF.nil))))))).imp fun m x vs h => ⟨⟨x.1, x.2.1, x.2.2.1, x.2.2.2.1, x.2.2.2.2.1, x.2.2.2.2.2.1⟩, by
   have h := VR.cons h fun _ h => VR.cons h fun _ h => VR.cons h fun _ h => VR.cons h fun _ h => VR.cons h fun _ h => VR.cons h fun _ h => VR.nil h
   exact ⟨h.pt, h.nar, ⟨h.wf.2.1, h.wf.2.2.1, h.wf.2.2.2.1, h.wf.2.2.2.2.2.1⟩⟩⟩
theorem oSReq : Opn enc Try.prog no W 40 (VR (slR 6 Req.r) (fun xs => xs.length ≤ 140737488355328 ∧ ∀ y, y ∈ xs → Req.wf y)) := VO.slice Try.underlying40 (by kernel_rfl) (by decide) (of_decide_eq_true (by kernel_rfl)) oReq
theorem oMst : Opn enc Try.prog no W 42 (VR Mst.r Mst.wf) :=
 (Opn.struct Try.underlying42 (by kernel_rfl) (OpnF.cons (k := 1) VR.mono rfl (by kernel_rfl) oSReq (OpnF.cons (k := 1) VR.mono rfl (by kernel_rfl) oInt (OpnF.cons (k := 1) VR.mono rfl (by kernel_rfl) oInt (OpnF.cons (k := 1) VR.mono rfl (by kernel_rfl) oInt (OpnF.cons (k := 1) VR.mono rfl (by kernel_rfl) oBool (OpnF.cons (k := 1) VR.mono rfl (by kernel_rfl) oBool OpnF.nil))))))).imp fun m x vs h => ⟨⟨x.1, x.2.1, x.2.2.1, x.2.2.2.1, x.2.2.2.2.1, x.2.2.2.2.2.1⟩, by
   have h := VR.cons h fun _ h => VR.cons h fun _ h => VR.cons h fun _ h => VR.cons h fun _ h => VR.cons h fun _ h => VR.cons h fun _ h => VR.nil h
   exact ⟨h.pt, h.nar, ⟨h.wf.1, h.wf.2.1, h.wf.2.2.1, h.wf.2.2.2.1⟩⟩⟩
end
theorem own : ownKnob Try.prog.godebug = none := by kernel_rfl
set_option maxRecDepth 100000 in
theorem lifted (os : Os) (started : os.Started) (H : Type) (enc : TypeId × Value → H) :
 ReturnsInHanded {} Try.checked os 8 .any (Rows.fnExactMstEndSpec.pre6 enc Try.prog Try.f8 Rows.fnExactMstEndRow.domain false) (Rows.fnExactMstEndSpec.post enc Try.prog Try.f8 false true false false) := by
 refine returnsInHanded_of_change_sized (C := Try.checked) own started (by kernel_rfl) Try.func8
  (ChangeSpec.witness6 (enc := enc) (C := Try.checked) false ⟨#[], #[.agg #[.slice none 0 0, .int .i64 0, .int .i64 0, .int .i64 0, .bool false, .bool false]], []⟩ 8 (by kernel_rfl) (by kernel_rfl) (by kernel_rfl) (by kernel_rfl)) ?_
 intro W base args ds gs before hval0 hW hcnd hsz0 _
 have hsz : (DataW.weightsEach Try.prog (Try.f8.params.toList ++ Rows.fnExactMstEndSpec.plain.varTypes Try.prog) (ds ++ gs)).all (· ≤ reachBytes) = true := hsz0
 have hval : ∀ (j : Nat) t v, Try.f8.params[j]? = some t → args[j]? = some v → Value.okWide Try.prog W .any base t v := hval0
 have hW' := hW
 obtain ⟨p, q, hA0, hV, rfl, hfz, hnd⟩ := hW
 have hA : DataW.TrodAll enc Try.prog W 0 (fun _ => true) true Try.f8.params.toList args.toList ds p := hA0
 rw [Try.params8] at hA hval hsz
 obtain ⟨v0, vs0, d0, ds0, p0, q0, hargs, rfl, rfl, h0, r0⟩ := trodAll_cons hA
 obtain ⟨rfl, rfl, rfl⟩ := trodAll_nil r0
 obtain rfl : args = #[v0] := by cases args; simp_all
 obtain ⟨rfl, rfl⟩ := trodVars_none hV
 have hsz2 : ∀ k, k ∈ DataW.weightsEach Try.prog [42] [d0] → k ≤ reachBytes := fun k hk => of_decide_eq_true (List.all_eq_true.1 hsz k hk)
 simp only [DataW.weightsEach, List.mem_append, List.not_mem_nil, or_false] at hsz2
 obtain ⟨cs0, hc0, _⟩ := okWide_struct Try.underlying42 (hval 0 42 v0 rfl rfl)
 obtain ⟨y0, us0, β0, m0, n0, g0, V0, w0, e0⟩ := oMst.agg h0 (fun k hk => hsz2 k hk) hc0 (View.none no W)
 have hws : Wds no β0 n0 [.agg us0.toArray] [v0] := w0
 have hps : Pt (RF m0) [.agg y0.r] [.agg us0.toArray] := (Pt.cons (RF.agg (by simpa using e0.pt.1) fun i x y h1 h2 => e0.pt.2 i x y h1 (by simpa using h2)) Pt.nil)
 refine (law_end (f := 8) (g := 346) mixed link rfl V0 hws hps (gx_cv (gx_law_346 y0 e0.wf))).mono fun e W' ⟨he, bel⟩ => ?_
 subst he
 exact ⟨_, rfl, post_true rfl hW' rfl rfl Try.underlying4 (by rw [Try.params8]; decide) bel (by kernel_rfl) (by kernel_rfl) (by kernel_rfl)⟩
theorem over : Rows.fnExactMstEndRow.holds Try.pinned (OpenSpec.ofChange Rows.fnExactMstEndSpec) :=
 OpenClaim.holds_of_wide 8 Try.f8 rfl rfl rfl rfl rfl rfl rfl ⟨rfl, rfl, rfl, rfl, rfl⟩ rfl rfl rfl rfl rfl (by kernel_rfl) Try.func8 (by kernel_rfl)
  (of_decide_eq_true (by kernel_rfl)) (by unfold Func.isWrapper; first | (rw [if_pos (by decide +kernel)]; kernel_rfl) | (rw [if_neg (by decide +kernel)]; exact ⟨rfl, rfl⟩))
  (fun os started H enc _ => lifted os started H enc)
end Go.Proofs.Ytdialnejieoelaa.AL
namespace Go.Proofs.Ytdialnejieoelaa
theorem fnExactMstEnd_holds : Rows.FnExactMstEndSaid := AL.over
#print axioms fnExactMstEnd_holds
end Go.Proofs.Ytdialnejieoelaa
