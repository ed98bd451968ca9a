/- The law FnGoesFirst holds: whatever the arguments, the call gives true, and the arguments read as before. No condition. -/
import Derived.Test.YtoppcdecolponaaGreatRows
import Derived.Test.YtoppcdecolponaaGreatLkGoesFirst
import Derived.Test.YtoppcdecolponaaGreatWa3
import Derived.Test.YtoppcdecolponaaGreatCGoesFirst6
import Derived.WalkKit
import Derived.ProofKit
import Derived.Below
import Derived.SizedLaws
namespace Go.Proofs.YtoppcdecolponaaGreat.AL
open Go
open Go.ChangeShapes Go.WideShapes Go.ChangeAt Go.RowKit
set_option linter.unusedVariables false
set_option linter.unusedSimpArgs false
section
variable {H : Type} {enc : TypeId × Value → H} {W : World}
theorem oByte : Opn enc Tryz.prog (noW W) W 5 (VR uR u8) := VO.byte Tryz.underlying5
theorem oSByte : Opn enc Tryz.prog (noW W) W 22 (VR (slR 1 uR) (fun xs => xs.length ≤ 140737488355328 ∧ ∀ y, y ∈ xs → u8 y)) := VO.slice Tryz.underlying22 (by kernel_rfl) (by decide) (of_decide_eq_true (by kernel_rfl)) oByte
end
theorem own : ownKnob Tryz.prog.godebug = none := by kernel_rfl
set_option maxRecDepth 100000 in
theorem lifted (os : Os) (started : os.Started) (H : Type) (enc : TypeId × Value → H) :
 ReturnsInHanded {} Tryz.checked os 3 .any (Rows.fnGoesFirstSpec.pre6 enc Tryz.prog Tryz.f3 Rows.fnGoesFirstRow.domain false) (Rows.fnGoesFirstSpec.post enc Tryz.prog Tryz.f3 false true false false) := by
 refine returnsInHanded_of_change_sized (C := Tryz.checked) own started (by kernel_rfl) Tryz.func3
  (ChangeSpec.witness6 (enc := enc) (C := Tryz.checked) false ⟨#[], #[.slice none 0 0], []⟩ 8 (by kernel_rfl) (by kernel_rfl) (by kernel_rfl) (by kernel_rfl)) ?_
 intro W base args ds gs before hval0 hW hcnd hsz0 _
 have hsz : (DataW.weightsEach Tryz.prog (Tryz.f3.params.toList ++ Rows.fnGoesFirstSpec.plain.varTypes Tryz.prog) (ds ++ gs)).all (· ≤ reachBytes) = true := hsz0
 have hval : ∀ (j : Nat) t v, Tryz.f3.params[j]? = some t → args[j]? = some v → Value.okWide Tryz.prog W .any base t v := hval0
 have hW' := hW
 obtain ⟨p, q, hA0, hV, rfl, hfz, hnd⟩ := hW
 have hA : DataW.TrodAll enc Tryz.prog W 0 (fun _ => true) true Tryz.f3.params.toList args.toList ds p := hA0
 rw [Tryz.params3] at hA hval hsz
 obtain ⟨v0, vs0, d0, ds0, p0, q0, hargs, rfl, rfl, h0, r0⟩ := trodAll_cons hA
 obtain ⟨rfl, rfl, rfl⟩ := trodAll_nil r0
 obtain rfl : args = #[v0] := by cases args; simp_all
 obtain ⟨rfl, rfl⟩ := trodVars_none hV
 have hsz2 : ∀ k, k ∈ DataW.weightsEach Tryz.prog [22] [d0] → k ≤ reachBytes := fun k hk => of_decide_eq_true (List.all_eq_true.1 hsz k hk)
 simp only [DataW.weightsEach, List.mem_append, List.not_mem_nil, or_false] at hsz2
 have hc0 : v0.cells = #[v0] := by obtain ⟨_, _, _, rfl⟩ := okWide_slice Tryz.underlying22 (hval 0 22 v0 rfl rfl); rfl
 obtain ⟨y0, us0, β0, m0, n0, g0, V0, w0, e0⟩ := oSByte.word h0 (fun k hk => hsz2 k hk) hc0 (View.none (noW W) W ⟨Nat.le_refl _, fun B _ => rfl⟩)
 have hws : Wds (noW W) β0 n0 [us0] [v0] := w0
 have hps : Pt (RF m0) [.sl 1 (y0.map uR)] [us0] := (Pt.cons (Pt.word e0.pt) Pt.nil)
 refine (law_end (f := 3) (g := 120) mixed (link W) rfl V0 hws hps (c_120 y0 e0.wf.1 e0.wf.2)).mono fun e W' ⟨he, bel⟩ => ?_
 subst he
 exact ⟨_, rfl, post_true rfl hW' rfl rfl Tryz.underlying4 (by rw [Tryz.params3]; decide) bel (by kernel_rfl) (by kernel_rfl) (by kernel_rfl)⟩
theorem over : Rows.fnGoesFirstRow.holds Tryz.pinned (OpenSpec.ofChange Rows.fnGoesFirstSpec) :=
 OpenClaim.holds_of_wide 3 Tryz.f3 rfl rfl rfl rfl rfl rfl rfl ⟨rfl, rfl, rfl, rfl, rfl⟩ rfl rfl rfl rfl rfl (by kernel_rfl) Tryz.func3 (by kernel_rfl)
  (of_decide_eq_true (by kernel_rfl)) (by unfold Func.isWrapper; first | (rw [if_pos (by decide +kernel)]; kernel_rfl) | (rw [if_neg (by decide +kernel)]; exact ⟨rfl, rfl⟩))
  (fun os started H enc _ => lifted os started H enc)
end Go.Proofs.YtoppcdecolponaaGreat.AL
namespace Go.Proofs.YtoppcdecolponaaGreat
theorem fnGoesFirst_holds : Rows.FnGoesFirstSaid := AL.over
#print axioms fnGoesFirst_holds
end Go.Proofs.YtoppcdecolponaaGreat
