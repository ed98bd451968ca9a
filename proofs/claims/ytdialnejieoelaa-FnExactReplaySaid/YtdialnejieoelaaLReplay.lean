/- The law FnExactReplay holds: whatever the arguments, the call gives true, and the arguments read as before. No condition. -/
import Derived.Test.YtdialnejieoelaaRows
import Derived.Test.YtdialnejieoelaaLkReplay
import Derived.Test.YtdialnejieoelaaRow2
import Derived.Test.YtdialnejieoelaaCReplay3
import Derived.WalkKit
import Derived.ProofKit
import Derived.Below
import Derived.SizedLaws
namespace Go.Proofs.Ytdialnejieoelaa.AL
open Go
open Go.ChangeShapes Go.WideShapes Go.ChangeAt Go.RowKit
set_option linter.unusedVariables false
set_option linter.unusedSimpArgs false
section
variable {H : Type} {enc : TypeId × Value → H} {W : World}
theorem oInt : Opn enc Try.prog no W 3 (VR iR i64) := VO.int Try.underlying3
theorem oBool : Opn enc Try.prog no W 4 (VR bR (fun _ => True)) := VO.bool Try.underlying4
theorem oDone : Opn enc Try.prog no W 138 (VR Done.r Done.wf) :=
 (Opn.struct Try.underlying138 (by kernel_rfl) (OpnF.cons (k := 1) VR.mono rfl (by kernel_rfl) oInt (OpnF.cons (k := 1) VR.mono rfl (by kernel_rfl) oInt (OpnF.cons (k := 1) VR.mono rfl (by kernel_rfl) oBool (OpnF.cons (k := 1) VR.mono rfl (by kernel_rfl) oInt (OpnF.cons (k := 1) VR.mono rfl (by kernel_rfl) oInt (OpnF.cons (k := 1) VR.mono rfl (by kernel_rfl) oInt (OpnF.cons (k := 1) VR.mono rfl (by kernel_rfl) oInt OpnF.nil)))))))).imp fun m x vs h => ⟨⟨x.1, x.2.1, x.2.2.1, x.2.2.2.1, x.2.2.2.2.1, x.2.2.2.2.2.1, x.2.2.2.2.2.2.1⟩, by
   have h := VR.cons h fun _ h => VR.cons h fun _ h => VR.cons h fun _ h => VR.cons h fun _ h => VR.cons h fun _ h => VR.cons h fun _ h => VR.cons h fun _ h => VR.nil h
   exact ⟨h.pt, h.nar, ⟨h.wf.1, h.wf.2.1, h.wf.2.2.2.1, h.wf.2.2.2.2.1, h.wf.2.2.2.2.2.1, h.wf.2.2.2.2.2.2.1⟩⟩⟩
theorem oSDone : Opn enc Try.prog no W 51 (VR (slR 7 Done.r) (fun xs => xs.length ≤ 140737488355328 ∧ ∀ y, y ∈ xs → Done.wf y)) := VO.slice Try.underlying51 (by kernel_rfl) (by decide) (of_decide_eq_true (by kernel_rfl)) oDone
end
theorem own : ownKnob Try.prog.godebug = none := by kernel_rfl
set_option maxRecDepth 100000 in
theorem lifted (os : Os) (started : os.Started) (H : Type) (enc : TypeId × Value → H) :
 ReturnsInHanded {} Try.checked os 9 .any (Rows.fnExactReplaySpec.pre6 enc Try.prog Try.f9 Rows.fnExactReplayRow.domain false) (Rows.fnExactReplaySpec.post enc Try.prog Try.f9 false true false false) := by
 refine returnsInHanded_of_change_sized (C := Try.checked) own started (by kernel_rfl) Try.func9
  (ChangeSpec.witness6 (enc := enc) (C := Try.checked) false ⟨#[], #[.slice none 0 0], []⟩ 8 (by kernel_rfl) (by kernel_rfl) (by kernel_rfl) (by kernel_rfl)) ?_
 intro W base args ds gs before hval0 hW hcnd hsz0 _
 have hsz : (DataW.weightsEach Try.prog (Try.f9.params.toList ++ Rows.fnExactReplaySpec.plain.varTypes Try.prog) (ds ++ gs)).all (· ≤ reachBytes) = true := hsz0
 have hval : ∀ (j : Nat) t v, Try.f9.params[j]? = some t → args[j]? = some v → Value.okWide Try.prog W .any base t v := hval0
 have hW' := hW
 obtain ⟨p, q, hA0, hV, rfl, hfz, hnd⟩ := hW
 have hA : DataW.TrodAll enc Try.prog W 0 (fun _ => true) true Try.f9.params.toList args.toList ds p := hA0
 rw [Try.params9] at hA hval hsz
 obtain ⟨v0, vs0, d0, ds0, p0, q0, hargs, rfl, rfl, h0, r0⟩ := trodAll_cons hA
 obtain ⟨rfl, rfl, rfl⟩ := trodAll_nil r0
 obtain rfl : args = #[v0] := by cases args; simp_all
 obtain ⟨rfl, rfl⟩ := trodVars_none hV
 have hsz2 : ∀ k, k ∈ DataW.weightsEach Try.prog [51] [d0] → k ≤ reachBytes := fun k hk => of_decide_eq_true (List.all_eq_true.1 hsz k hk)
 simp only [DataW.weightsEach, List.mem_append, List.not_mem_nil, or_false] at hsz2
 have hc0 : v0.cells = #[v0] := by obtain ⟨_, _, _, rfl⟩ := okWide_slice Try.underlying51 (hval 0 51 v0 rfl rfl); rfl
 obtain ⟨y0, us0, β0, m0, n0, g0, V0, w0, e0⟩ := oSDone.word h0 (fun k hk => hsz2 k hk) hc0 (View.none no W)
 have hws : Wds no β0 n0 [us0] [v0] := w0
 have hps : Pt (RF m0) [.sl 7 (y0.map Done.r)] [us0] := (Pt.cons (Pt.word e0.pt) Pt.nil)
 refine (law_end (f := 9) (g := 347) mixed link rfl V0 hws hps (c_347 y0 e0.wf.1)).mono fun e W' ⟨he, bel⟩ => ?_
 subst he
 exact ⟨_, rfl, post_true rfl hW' rfl rfl Try.underlying4 (by rw [Try.params9]; decide) bel (by kernel_rfl) (by kernel_rfl) (by kernel_rfl)⟩
theorem over : Rows.fnExactReplayRow.holds Try.pinned (OpenSpec.ofChange Rows.fnExactReplaySpec) :=
 OpenClaim.holds_of_wide 9 Try.f9 rfl rfl rfl rfl rfl rfl rfl ⟨rfl, rfl, rfl, rfl, rfl⟩ rfl rfl rfl rfl rfl (by kernel_rfl) Try.func9 (by kernel_rfl)
  (of_decide_eq_true (by kernel_rfl)) (by unfold Func.isWrapper; first | (rw [if_pos (by decide +kernel)]; kernel_rfl) | (rw [if_neg (by decide +kernel)]; exact ⟨rfl, rfl⟩))
  (fun os started H enc _ => lifted os started H enc)
end Go.Proofs.Ytdialnejieoelaa.AL
namespace Go.Proofs.Ytdialnejieoelaa
theorem fnExactReplay_holds : Rows.FnExactReplaySaid := AL.over
#print axioms fnExactReplay_holds
end Go.Proofs.Ytdialnejieoelaa
