/- The law FnExactIdleBus holds: whatever the arguments, the call gives true, and the arguments read as before. No condition. -/
import Derived.Test.YtoppcdecolponaaGreatRows
import Derived.Test.YtoppcdecolponaaGreatLkIdleBus
import Derived.Test.YtoppcdecolponaaGreatRow2
import Derived.Test.YtoppcdecolponaaGreatCIdleBus3
import Derived.WalkKit
import Derived.ProofKit
import Derived.Below
import Derived.SizedLaws
namespace Go.Proofs.YtoppcdecolponaaGreat.AL
open Go
open Go.ChangeShapes Go.WideShapes Go.ChangeAt Go.RowKit
set_option linter.unusedVariables false
set_option linter.unusedSimpArgs false
section
variable {H : Type} {enc : TypeId × Value → H} {W : World}
theorem oInt : Opn enc Tryz.prog no W 3 (VR iR i64) := VO.int Tryz.underlying3
theorem oBool : Opn enc Tryz.prog no W 4 (VR bR (fun _ => True)) := VO.bool Tryz.underlying4
theorem oMConf : Opn enc Tryz.prog no W 202 (VR MConf.r MConf.wf) :=
 (Opn.struct Tryz.underlying202 (by kernel_rfl) (OpnF.cons (k := 1) VR.mono rfl (by kernel_rfl) oInt (OpnF.cons (k := 1) VR.mono rfl (by kernel_rfl) oBool (OpnF.cons (k := 1) VR.mono rfl (by kernel_rfl) oInt (OpnF.cons (k := 1) VR.mono rfl (by kernel_rfl) oInt OpnF.nil))))).imp fun m x vs h => ⟨⟨x.1, x.2.1, x.2.2.1, x.2.2.2.1⟩, by
   have h := VR.cons h fun _ h => VR.cons h fun _ h => VR.cons h fun _ h => VR.cons h fun _ h => VR.nil h
   exact ⟨h.pt, h.nar, ⟨h.wf.1, h.wf.2.2.1, h.wf.2.2.2.1⟩⟩⟩
theorem oSMConf : Opn enc Tryz.prog no W 62 (VR (slR 4 MConf.r) (fun xs => xs.length ≤ 140737488355328 ∧ ∀ y, y ∈ xs → MConf.wf y)) := VO.slice Tryz.underlying62 (by kernel_rfl) (by decide) (of_decide_eq_true (by kernel_rfl)) oMConf
theorem oConf : Opn enc Tryz.prog no W 64 (VR Conf.r Conf.wf) :=
 (Opn.struct Tryz.underlying64 (by kernel_rfl) (OpnF.cons (k := 1) VR.mono rfl (by kernel_rfl) oSMConf (OpnF.cons (k := 1) VR.mono rfl (by kernel_rfl) oInt (OpnF.cons (k := 1) VR.mono rfl (by kernel_rfl) oInt (OpnF.cons (k := 1) VR.mono rfl (by kernel_rfl) oInt (OpnF.cons (k := 1) VR.mono rfl (by kernel_rfl) oInt (OpnF.cons (k := 1) VR.mono rfl (by kernel_rfl) oInt OpnF.nil))))))).imp fun m x vs h => ⟨⟨x.1, x.2.1, x.2.2.1, x.2.2.2.1, x.2.2.2.2.1, x.2.2.2.2.2.1⟩, by
   have h := VR.cons h fun _ h => VR.cons h fun _ h => VR.cons h fun _ h => VR.cons h fun _ h => VR.cons h fun _ h => VR.cons h fun _ h => VR.nil h
   exact ⟨h.pt, h.nar, ⟨h.wf.1, h.wf.2.1, h.wf.2.2.1, h.wf.2.2.2.1, h.wf.2.2.2.2.1, h.wf.2.2.2.2.2.1⟩⟩⟩
theorem oSInt : Opn enc Tryz.prog no W 28 (VR (slR 1 iR) (fun xs => xs.length ≤ 140737488355328 ∧ ∀ y, y ∈ xs → i64 y)) := VO.slice Tryz.underlying28 (by kernel_rfl) (by decide) (of_decide_eq_true (by kernel_rfl)) oInt
theorem oReq : Opn enc Tryz.prog no W 223 (VR Req.r Req.wf) :=
 (Opn.struct Tryz.underlying223 (by kernel_rfl) (OpnF.cons (k := 1) VR.mono rfl (by kernel_rfl) oBool (OpnF.cons (k := 1) VR.mono rfl (by kernel_rfl) oInt (OpnF.cons (k := 1) VR.mono rfl (by kernel_rfl) oInt (OpnF.cons (k := 1) VR.mono rfl (by kernel_rfl) oInt (OpnF.cons (k := 1) VR.mono rfl (by kernel_rfl) oBool (OpnF.cons (k := 1) VR.mono rfl (by kernel_rfl) oSInt OpnF.nil))))))).imp fun m x vs h => ⟨⟨x.1, x.2.1, x.2.2.1, x.2.2.2.1, x.2.2.2.2.1, x.2.2.2.2.2.1⟩, by
   have h := VR.cons h fun _ h => VR.cons h fun _ h => VR.cons h fun _ h => VR.cons h fun _ h => VR.cons h fun _ h => VR.cons h fun _ h => VR.nil h
   exact ⟨h.pt, h.nar, ⟨h.wf.2.1, h.wf.2.2.1, h.wf.2.2.2.1, h.wf.2.2.2.2.2.1⟩⟩⟩
theorem oSReq : Opn enc Tryz.prog no W 157 (VR (slR 6 Req.r) (fun xs => xs.length ≤ 140737488355328 ∧ ∀ y, y ∈ xs → Req.wf y)) := VO.slice Tryz.underlying157 (by kernel_rfl) (by decide) (of_decide_eq_true (by kernel_rfl)) oReq
theorem oMst : Opn enc Tryz.prog no W 159 (VR Mst.r Mst.wf) :=
 (Opn.struct Tryz.underlying159 (by kernel_rfl) (OpnF.cons (k := 1) VR.mono rfl (by kernel_rfl) oSReq (OpnF.cons (k := 1) VR.mono rfl (by kernel_rfl) oInt (OpnF.cons (k := 1) VR.mono rfl (by kernel_rfl) oInt (OpnF.cons (k := 1) VR.mono rfl (by kernel_rfl) oInt (OpnF.cons (k := 1) VR.mono rfl (by kernel_rfl) oBool (OpnF.cons (k := 1) VR.mono rfl (by kernel_rfl) oBool OpnF.nil))))))).imp fun m x vs h => ⟨⟨x.1, x.2.1, x.2.2.1, x.2.2.2.1, x.2.2.2.2.1, x.2.2.2.2.2.1⟩, by
   have h := VR.cons h fun _ h => VR.cons h fun _ h => VR.cons h fun _ h => VR.cons h fun _ h => VR.cons h fun _ h => VR.cons h fun _ h => VR.nil h
   exact ⟨h.pt, h.nar, ⟨h.wf.1, h.wf.2.1, h.wf.2.2.1, h.wf.2.2.2.1⟩⟩⟩
theorem oSMst : Opn enc Tryz.prog no W 65 (VR (slR 6 Mst.r) (fun xs => xs.length ≤ 140737488355328 ∧ ∀ y, y ∈ xs → Mst.wf y)) := VO.slice Tryz.underlying65 (by kernel_rfl) (by decide) (of_decide_eq_true (by kernel_rfl)) oMst
theorem oWrr : Opn enc Tryz.prog no W 66 (VR Wrr.r Wrr.wf) :=
 (Opn.struct Tryz.underlying66 (by kernel_rfl) (OpnF.cons (k := 1) VR.mono rfl (by kernel_rfl) oInt (OpnF.cons (k := 1) VR.mono rfl (by kernel_rfl) oInt OpnF.nil))).imp fun m x vs h => ⟨⟨x.1, x.2.1⟩, by
   have h := VR.cons h fun _ h => VR.cons h fun _ h => VR.nil h
   exact ⟨h.pt, h.nar, ⟨h.wf.1, h.wf.2.1⟩⟩⟩
theorem oBucket : Opn enc Tryz.prog no W 170 (VR Bucket.r Bucket.wf) :=
 (Opn.struct Tryz.underlying170 (by kernel_rfl) (OpnF.cons (k := 1) VR.mono rfl (by kernel_rfl) oInt (OpnF.cons (k := 1) VR.mono rfl (by kernel_rfl) oInt OpnF.nil))).imp fun m x vs h => ⟨⟨x.1, x.2.1⟩, by
   have h := VR.cons h fun _ h => VR.cons h fun _ h => VR.nil h
   exact ⟨h.pt, h.nar, ⟨h.wf.1, h.wf.2.1⟩⟩⟩
theorem oSBucket : Opn enc Tryz.prog no W 67 (VR (slR 2 Bucket.r) (fun xs => xs.length ≤ 140737488355328 ∧ ∀ y, y ∈ xs → Bucket.wf y)) := VO.slice Tryz.underlying67 (by kernel_rfl) (by decide) (of_decide_eq_true (by kernel_rfl)) oBucket
theorem oBeat : Opn enc Tryz.prog no W 68 (VR Beat.r Beat.wf) :=
 (Opn.struct Tryz.underlying68 (by kernel_rfl) (OpnF.cons (k := 1) VR.mono rfl (by kernel_rfl) oBool (OpnF.cons (k := 1) VR.mono rfl (by kernel_rfl) oInt (OpnF.cons (k := 1) VR.mono rfl (by kernel_rfl) oInt (OpnF.cons (k := 1) VR.mono rfl (by kernel_rfl) oBool (OpnF.cons (k := 1) VR.mono rfl (by kernel_rfl) oInt (OpnF.cons (k := 1) VR.mono rfl (by kernel_rfl) oInt (OpnF.cons (k := 1) VR.mono rfl (by kernel_rfl) oInt (OpnF.cons (k := 1) VR.mono rfl (by kernel_rfl) oBool OpnF.nil))))))))).imp fun m x vs h => ⟨⟨x.1, x.2.1, x.2.2.1, x.2.2.2.1, x.2.2.2.2.1, x.2.2.2.2.2.1, x.2.2.2.2.2.2.1, x.2.2.2.2.2.2.2.1⟩, by
   have h := VR.cons h fun _ h => VR.cons h fun _ h => VR.cons h fun _ h => VR.cons h fun _ h => VR.cons h fun _ h => VR.cons h fun _ h => VR.cons h fun _ h => VR.cons h fun _ h => VR.nil h
   exact ⟨h.pt, h.nar, ⟨h.wf.2.1, h.wf.2.2.1, h.wf.2.2.2.2.1, h.wf.2.2.2.2.2.1, h.wf.2.2.2.2.2.2.1⟩⟩⟩
theorem oDev : Opn enc Tryz.prog no W 69 (VR Dev.r Dev.wf) :=
 (Opn.struct Tryz.underlying69 (by kernel_rfl) (OpnF.cons (k := 1) VR.mono rfl (by kernel_rfl) oSInt (OpnF.cons (k := 1) VR.mono rfl (by kernel_rfl) oInt (OpnF.cons (k := 1) VR.mono rfl (by kernel_rfl) oSInt OpnF.nil)))).imp fun m x vs h => ⟨⟨x.1, x.2.1, x.2.2.1⟩, by
   have h := VR.cons h fun _ h => VR.cons h fun _ h => VR.cons h fun _ h => VR.nil h
   exact ⟨h.pt, h.nar, ⟨h.wf.1, h.wf.2.1, h.wf.2.2.1⟩⟩⟩
theorem oModel : Opn enc Tryz.prog no W 71 (VR Model.r Model.wf) :=
 (Opn.struct Tryz.underlying71 (by kernel_rfl) (OpnF.cons (k := 1) VR.mono rfl (by kernel_rfl) oSInt (OpnF.cons (k := 3) VR.mono rfl (by kernel_rfl) oDev OpnF.nil))).imp fun m x vs h => ⟨⟨x.1, x.2.1⟩, by
   have h := VR.cons h fun _ h => VR.cons h fun _ h => VR.nil h
   exact ⟨h.pt, h.nar, ⟨h.wf.1, h.wf.2.1⟩⟩⟩
theorem oDone : Opn enc Tryz.prog no W 173 (VR Done.r Done.wf) :=
 (Opn.struct Tryz.underlying173 (by kernel_rfl) (OpnF.cons (k := 1) VR.mono rfl (by kernel_rfl) oInt (OpnF.cons (k := 1) VR.mono rfl (by kernel_rfl) oInt (OpnF.cons (k := 1) VR.mono rfl (by kernel_rfl) oBool (OpnF.cons (k := 1) VR.mono rfl (by kernel_rfl) oInt (OpnF.cons (k := 1) VR.mono rfl (by kernel_rfl) oInt (OpnF.cons (k := 1) VR.mono rfl (by kernel_rfl) oInt (OpnF.cons (k := 1) VR.mono rfl (by kernel_rfl) oInt OpnF.nil)))))))).imp fun m x vs h => ⟨⟨x.1, x.2.1, x.2.2.1, x.2.2.2.1, x.2.2.2.2.1, x.2.2.2.2.2.1, x.2.2.2.2.2.2.1⟩, by
   have h := VR.cons h fun _ h => VR.cons h fun _ h => VR.cons h fun _ h => VR.cons h fun _ h => VR.cons h fun _ h => VR.cons h fun _ h => VR.cons h fun _ h => VR.nil h
   exact ⟨h.pt, h.nar, ⟨h.wf.1, h.wf.2.1, h.wf.2.2.2.1, h.wf.2.2.2.2.1, h.wf.2.2.2.2.2.1, h.wf.2.2.2.2.2.2.1⟩⟩⟩
theorem oSDone : Opn enc Tryz.prog no W 72 (VR (slR 7 Done.r) (fun xs => xs.length ≤ 140737488355328 ∧ ∀ y, y ∈ xs → Done.wf y)) := VO.slice Tryz.underlying72 (by kernel_rfl) (by decide) (of_decide_eq_true (by kernel_rfl)) oDone
theorem oBus : Opn enc Tryz.prog no W 74 (VR Bus.r Bus.wf) :=
 (Opn.struct Tryz.underlying74 (by kernel_rfl) (OpnF.cons (k := 6) VR.mono rfl (by kernel_rfl) oConf (OpnF.cons (k := 1) VR.mono rfl (by kernel_rfl) oInt (OpnF.cons (k := 1) VR.mono rfl (by kernel_rfl) oSMst (OpnF.cons (k := 2) VR.mono rfl (by kernel_rfl) oWrr (OpnF.cons (k := 1) VR.mono rfl (by kernel_rfl) oSBucket (OpnF.cons (k := 1) VR.mono rfl (by kernel_rfl) oSInt (OpnF.cons (k := 1) VR.mono rfl (by kernel_rfl) oInt (OpnF.cons (k := 1) VR.mono rfl (by kernel_rfl) oInt (OpnF.cons (k := 1) VR.mono rfl (by kernel_rfl) oInt (OpnF.cons (k := 8) VR.mono rfl (by kernel_rfl) oBeat (OpnF.cons (k := 8) VR.mono rfl (by kernel_rfl) oBeat (OpnF.cons (k := 4) VR.mono rfl (by kernel_rfl) oModel (OpnF.cons (k := 1) VR.mono rfl (by kernel_rfl) oInt (OpnF.cons (k := 1) VR.mono rfl (by kernel_rfl) oSDone OpnF.nil))))))))))))))).imp fun m x vs h => ⟨⟨x.1, x.2.1, x.2.2.1, x.2.2.2.1, x.2.2.2.2.1, x.2.2.2.2.2.1, x.2.2.2.2.2.2.1, x.2.2.2.2.2.2.2.1, x.2.2.2.2.2.2.2.2.1, x.2.2.2.2.2.2.2.2.2.1, x.2.2.2.2.2.2.2.2.2.2.1, x.2.2.2.2.2.2.2.2.2.2.2.1, x.2.2.2.2.2.2.2.2.2.2.2.2.1, x.2.2.2.2.2.2.2.2.2.2.2.2.2.1⟩, by
   have h := VR.cons h fun _ h => VR.cons h fun _ h => VR.cons h fun _ h => VR.cons h fun _ h => VR.cons h fun _ h => VR.cons h fun _ h => VR.cons h fun _ h => VR.cons h fun _ h => VR.cons h fun _ h => VR.cons h fun _ h => VR.cons h fun _ h => VR.cons h fun _ h => VR.cons h fun _ h => VR.cons h fun _ h => VR.nil h
   exact ⟨h.pt, h.nar, ⟨h.wf.1, h.wf.2.1, h.wf.2.2.1, h.wf.2.2.2.1, h.wf.2.2.2.2.1, h.wf.2.2.2.2.2.1, h.wf.2.2.2.2.2.2.1, h.wf.2.2.2.2.2.2.2.1, h.wf.2.2.2.2.2.2.2.2.1, h.wf.2.2.2.2.2.2.2.2.2.1, h.wf.2.2.2.2.2.2.2.2.2.2.1, h.wf.2.2.2.2.2.2.2.2.2.2.2.1, h.wf.2.2.2.2.2.2.2.2.2.2.2.2.1, h.wf.2.2.2.2.2.2.2.2.2.2.2.2.2.1⟩⟩⟩
end
theorem own : ownKnob Tryz.prog.godebug = none := by kernel_rfl
set_option maxRecDepth 100000 in
theorem lifted (os : Os) (started : os.Started) (H : Type) (enc : TypeId × Value → H) :
 ReturnsInHanded {} Tryz.checked os 5 .any (Rows.fnExactIdleBusSpec.pre6 enc Tryz.prog Tryz.f5 Rows.fnExactIdleBusRow.domain false) (Rows.fnExactIdleBusSpec.post enc Tryz.prog Tryz.f5 false true false false) := by
 refine returnsInHanded_of_change_sized (C := Tryz.checked) own started (by kernel_rfl) Tryz.func5
  (ChangeSpec.witness6 (enc := enc) (C := Tryz.checked) false ⟨#[], #[.agg #[.slice none 0 0, .int .i64 0, .int .i64 0, .int .i64 0, .int .i64 0, .int .i64 0, .int .i64 0, .slice none 0 0, .int .i64 0, .int .i64 0, .slice none 0 0, .slice none 0 0, .int .i64 0, .int .i64 0, .int .i64 0, .bool false, .int .i64 0, .int .i64 0, .bool false, .int .i64 0, .int .i64 0, .int .i64 0, .bool false, .bool false, .int .i64 0, .int .i64 0, .bool false, .int .i64 0, .int .i64 0, .int .i64 0, .bool false, .slice none 0 0, .slice none 0 0, .int .i64 0, .slice none 0 0, .int .i64 0, .slice none 0 0]], []⟩ 8 (by kernel_rfl) (by kernel_rfl) (by kernel_rfl) (by kernel_rfl)) ?_
 intro W base args ds gs before hval0 hW hcnd hsz0 _
 have hsz : (DataW.weightsEach Tryz.prog (Tryz.f5.params.toList ++ Rows.fnExactIdleBusSpec.plain.varTypes Tryz.prog) (ds ++ gs)).all (· ≤ reachBytes) = true := hsz0
 have hval : ∀ (j : Nat) t v, Tryz.f5.params[j]? = some t → args[j]? = some v → Value.okWide Tryz.prog W .any base t v := hval0
 have hW' := hW
 obtain ⟨p, q, hA0, hV, rfl, hfz, hnd⟩ := hW
 have hA : DataW.TrodAll enc Tryz.prog W 0 (fun _ => true) true Tryz.f5.params.toList args.toList ds p := hA0
 rw [Tryz.params5] at hA hval hsz
 obtain ⟨v0, vs0, d0, ds0, p0, q0, hargs, rfl, rfl, h0, r0⟩ := trodAll_cons hA
 obtain ⟨rfl, rfl, rfl⟩ := trodAll_nil r0
 obtain rfl : args = #[v0] := by cases args; simp_all
 obtain ⟨rfl, rfl⟩ := trodVars_none hV
 have hsz2 : ∀ k, k ∈ DataW.weightsEach Tryz.prog [74] [d0] → k ≤ reachBytes := fun k hk => of_decide_eq_true (List.all_eq_true.1 hsz k hk)
 simp only [DataW.weightsEach, List.mem_append, List.not_mem_nil, or_false] at hsz2
 obtain ⟨cs0, hc0, _⟩ := okWide_struct Tryz.underlying74 (hval 0 74 v0 rfl rfl)
 obtain ⟨y0, us0, β0, m0, n0, g0, V0, w0, e0⟩ := oBus.agg h0 (fun k hk => hsz2 k hk) hc0 (View.none no W)
 have hws : Wds no β0 n0 [.agg us0.toArray] [v0] := w0
 have hps : Pt (RF m0) [.agg y0.r] [.agg us0.toArray] := (Pt.cons (RF.agg (by simpa using e0.pt.1) fun i x y h1 h2 => e0.pt.2 i x y h1 (by simpa using h2)) Pt.nil)
 refine (law_end (f := 5) (g := 112) mixed link rfl V0 hws hps (c_112 y0 e0.wf)).mono fun e W' ⟨he, bel⟩ => ?_
 subst he
 exact ⟨_, rfl, post_true rfl hW' rfl rfl Tryz.underlying4 (by rw [Tryz.params5]; decide) bel (by kernel_rfl) (by kernel_rfl) (by kernel_rfl)⟩
theorem over : Rows.fnExactIdleBusRow.holds Tryz.pinned (OpenSpec.ofChange Rows.fnExactIdleBusSpec) :=
 OpenClaim.holds_of_wide 5 Tryz.f5 rfl rfl rfl rfl rfl rfl rfl ⟨rfl, rfl, rfl, rfl, rfl⟩ rfl rfl rfl rfl rfl (by kernel_rfl) Tryz.func5 (by kernel_rfl)
  (of_decide_eq_true (by kernel_rfl)) (by unfold Func.isWrapper; first | (rw [if_pos (by decide +kernel)]; kernel_rfl) | (rw [if_neg (by decide +kernel)]; exact ⟨rfl, rfl⟩))
  (fun os started H enc _ => lifted os started H enc)
end Go.Proofs.YtoppcdecolponaaGreat.AL
namespace Go.Proofs.YtoppcdecolponaaGreat
theorem fnExactIdleBus_holds : Rows.FnExactIdleBusSaid := AL.over
#print axioms fnExactIdleBus_holds
end Go.Proofs.YtoppcdecolponaaGreat
