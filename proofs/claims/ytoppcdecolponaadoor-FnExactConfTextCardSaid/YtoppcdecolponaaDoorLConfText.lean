/- The law FnExactConfText holds: whatever the arguments, the call gives true, and the arguments read as before. Condition: the library's variables hold what its text lays (the card ties them). -/
import Derived.Test.YtoppcdecolponaaDoorRows
import Derived.Test.YtoppcdecolponaaDoorCards
import Derived.Test.YtoppcdecolponaaDoorTie
import Derived.SevenTiedAt
import Derived.LaidLaws
import Derived.LaidMore
import Derived.Lib.LaidTab
import Derived.Stop.LaidErr
import Derived.Test.YtoppcdecolponaaDoorLkConfText
import Derived.Test.YtoppcdecolponaaDoorIrConfText
import Derived.Test.YtoppcdecolponaaDoorCConfText1
import Derived.WalkKit
import Derived.ProofKit
import Derived.Below
import Derived.SizedLaws
namespace Go.Proofs.YtoppcdecolponaaDoor.AL
open Go
open Go.ChangeShapes Go.WideShapes Go.ChangeAt Go.RowKit
set_option linter.unusedVariables false
set_option linter.unusedSimpArgs false
section
variable {H : Type} {enc : TypeId × Value → H} {W : World}
theorem oInt : Opn enc Tryd.prog (noW W) W 3 (VR iR i64) := VO.int Tryd.underlying3
theorem oBool : Opn enc Tryd.prog (noW W) W 4 (VR bR (fun _ => True)) := VO.bool Tryd.underlying4
theorem oMConf : Opn enc Tryd.prog (noW W) W 68 (VR MConf.r MConf.wf) :=
 (Opn.struct Tryd.underlying68 (by kernel_rfl) (OpnF.cons (k := 1) VR.mono rfl (by kernel_rfl) oInt (OpnF.cons (k := 1) VR.mono rfl (by kernel_rfl) oBool (OpnF.cons (k := 1) VR.mono rfl (by kernel_rfl) oInt (OpnF.cons (k := 1) VR.mono rfl (by kernel_rfl) oInt OpnF.nil))))).imp fun m x vs h => ⟨⟨x.1, x.2.1, x.2.2.1, x.2.2.2.1⟩, by
   have h := VR.cons h fun _ h => VR.cons h fun _ h => VR.cons h fun _ h => VR.cons h fun _ h => VR.nil h
   exact ⟨h.pt, h.nar, ⟨h.wf.1, h.wf.2.2.1, h.wf.2.2.2.1⟩⟩⟩
theorem oSMConf : Opn enc Tryd.prog (noW W) W 22 (VR (slR 4 MConf.r) (fun xs => xs.length ≤ 140737488355328 ∧ ∀ y, y ∈ xs → MConf.wf y)) := VO.slice Tryd.underlying22 (by kernel_rfl) (by decide) (of_decide_eq_true (by kernel_rfl)) oMConf
theorem oConf : Opn enc Tryd.prog (noW W) W 24 (VR Conf.r Conf.wf) :=
 (Opn.struct Tryd.underlying24 (by kernel_rfl) (OpnF.cons (k := 1) VR.mono rfl (by kernel_rfl) oSMConf (OpnF.cons (k := 1) VR.mono rfl (by kernel_rfl) oInt (OpnF.cons (k := 1) VR.mono rfl (by kernel_rfl) oInt (OpnF.cons (k := 1) VR.mono rfl (by kernel_rfl) oInt (OpnF.cons (k := 1) VR.mono rfl (by kernel_rfl) oInt (OpnF.cons (k := 1) VR.mono rfl (by kernel_rfl) oInt OpnF.nil))))))).imp fun m x vs h => ⟨⟨x.1, x.2.1, x.2.2.1, x.2.2.2.1, x.2.2.2.2.1, x.2.2.2.2.2.1⟩, by
   have h := VR.cons h fun _ h => VR.cons h fun _ h => VR.cons h fun _ h => VR.cons h fun _ h => VR.cons h fun _ h => VR.cons h fun _ h => VR.nil h
   exact ⟨h.pt, h.nar, ⟨h.wf.1, h.wf.2.1, h.wf.2.2.1, h.wf.2.2.2.1, h.wf.2.2.2.2.1, h.wf.2.2.2.2.2.1⟩⟩⟩
end
theorem own : ownKnob Tryd.prog.godebug = none := by kernel_rfl
noncomputable def laidL : List (String × DataW Unit) := [("math/bits.deBruijn32tab", Rows.laid_math_bits_deBruijn32tab), ("math/bits.deBruijn64tab", Rows.laid_math_bits_deBruijn64tab), ("internal/strconv.uint64pow10", Rows.laid_internal_strconv_uint64pow10)]
theorem start_met (os : Os) (args : Array Value) : laidMet Tryd.prog laidL ((World.doorLaid Tryd.prog 400 os).forCall (fun _ _ => 0) ⟨#[], args, []⟩).memory :=
 laidMet_of_run' 8 (by kernel_rfl) (by kernel_rfl)
theorem tab_eq : (Rows.laid_internal_strconv_uint64pow10 : DataW Unit) = Lib.tabData .u64 Lib.pow10Tab := by kernel_rfl
theorem vars_of {W : World} (hL : laidMet Tryd.prog laidL W) : Vars W := by
 refine ⟨?_⟩
 · have h := hL.tail.tail
   rw [tab_eq] at h
   exact Lib.tabIs_of_head (g := 3) (by kernel_rfl) (by kernel_rfl) Tryd.underlying114 Tryd.underlying102 (by kernel_rfl) (by kernel_rfl) h
set_option maxRecDepth 100000 in
theorem lifted (os : Os) (started : os.Started) (H : Type) (enc : TypeId × Value → H) :
 ReturnsInHanded {} Tryd.checked os 3 .any (fun w args => (Rows.fnExactConfTextSpec.pre enc Tryd.prog Tryd.f3 [] false w args ∧ laidMet Tryd.prog laidL w) ∧ sizedMet enc Tryd.prog Tryd.f3 (OpenSpec.ofChange Rows.fnExactConfTextSpec) false w args) (Rows.fnExactConfTextSpec.post enc Tryd.prog Tryd.f3 false true false false) := by
 refine returnsInHanded_of_change_and (C := Tryd.checked) (X := fun w _ => laidMet Tryd.prog laidL w) (fun _ _ _ hh h => h.of_heap hh) own started (by kernel_rfl) Tryd.func3
  (ChangeSpec.witness_shaped (enc := enc) (C := Tryd.checked) (os := os) (X := fun w _ => laidMet Tryd.prog laidL w) false (World.doorLaid Tryd.prog 400 os) #[.agg #[.slice none 0 0, .int .i64 0, .int .i64 0, .int .i64 0, .int .i64 0, .int .i64 0]] 8 rfl (World.shaped_of_RefB (by kernel_rfl) (by kernel_rfl)) (by kernel_rfl) (by kernel_rfl) (by kernel_rfl) (start_met os _)) ?_
 intro W base args ds gs before hval0 hW hcnd hsz0 hL _
 have hsz : (DataW.weightsEach Tryd.prog (Tryd.f3.params.toList ++ Rows.fnExactConfTextSpec.plain.varTypes Tryd.prog) (ds ++ gs)).all (· ≤ reachBytes) = true := hsz0
 have hval : ∀ (j : Nat) t v, Tryd.f3.params[j]? = some t → args[j]? = some v → Value.okWide Tryd.prog W .any base t v := hval0
 have hW' := hW
 obtain ⟨p, q, hA0, hV, rfl, hfz, hnd⟩ := hW
 have hA : DataW.TrodAll enc Tryd.prog W 0 (fun _ => true) true Tryd.f3.params.toList args.toList ds p := hA0
 rw [Tryd.params3] at hA hval hsz
 have hv : Vars W := vars_of hL
 obtain ⟨v0, vs0, d0, ds0, p0, q0, hargs, rfl, rfl, h0, r0⟩ := trodAll_cons hA
 obtain ⟨rfl, rfl, rfl⟩ := trodAll_nil r0
 obtain rfl : args = #[v0] := by cases args; simp_all
 obtain ⟨rfl, rfl⟩ := trodVars_none hV
 have hsz2 : ∀ k, k ∈ DataW.weightsEach Tryd.prog [24] [d0] → k ≤ reachBytes := fun k hk => of_decide_eq_true (List.all_eq_true.1 hsz k hk)
 simp only [DataW.weightsEach, List.mem_append, List.not_mem_nil, or_false] at hsz2
 obtain ⟨cs0, hc0, _⟩ := okWide_struct Tryd.underlying24 (hval 0 24 v0 rfl rfl)
 obtain ⟨y0, us0, β0, m0, n0, g0, V0, w0, e0⟩ := oConf.agg h0 (fun k hk => hsz2 k hk) hc0 (View.none (noW W) W ⟨Nat.le_refl _, fun B _ => rfl⟩)
 have hws : Wds (noW W) β0 n0 [.agg us0.toArray] [v0] := w0
 have hps : Pt (RF m0) [.agg y0.r] [.agg us0.toArray] := (Pt.cons (RF.agg (by simpa using e0.pt.1) fun i x y h1 h2 => e0.pt.2 i x y h1 (by simpa using h2)) Pt.nil)
 refine (law_end (f := 3) (g := 108) mixed (link W hv) rfl V0 hws hps (c_108 y0 e0.wf)).mono fun e W' ⟨he, bel⟩ => ?_
 subst he
 exact ⟨_, rfl, post_true rfl hW' rfl rfl Tryd.underlying4 (by rw [Tryd.params3]; decide) bel (by kernel_rfl) (by kernel_rfl) (by kernel_rfl)⟩
theorem over : Rows.fnExactConfTextRow.holds Tryd.pinned (OpenSpec.ofChange Rows.fnExactConfTextSpec) :=
 OpenClaim.holds_of_wide 3 Tryd.f3 rfl rfl rfl rfl rfl rfl rfl ⟨rfl, rfl, rfl, rfl, rfl⟩ rfl rfl rfl rfl rfl (by kernel_rfl) Tryd.func3 (by kernel_rfl)
  (of_decide_eq_true (by kernel_rfl)) (by unfold Func.isWrapper; first | (rw [if_pos (by decide +kernel)]; kernel_rfl) | (rw [if_neg (by decide +kernel)]; exact ⟨rfl, rfl⟩))
  (fun os started H enc _ => lifted os started H enc)
theorem card : Rows.FnExactConfTextCardSaid :=
 Claim7.holds_tied_plain_at .later [] [.data, .data, .data] true (true, "cdd760242d715eb1cd829b1ddfe72b6938c8049d2634890c2c0c9141f39e0a62") true
  over (fun _ h => by cases h) (by kernel_rfl) (fun _ h => by cases h) fnExactConfText_row_tie rfl ⟨rfl, rfl⟩ (by kernel_rfl) rfl
  (fun f fn hf hfn => by
    obtain rfl : f = 3 := Option.some.inj ((show Tryd.prog.funcNamed Rows.fnExactConfTextRow.func = some 3 by kernel_rfl).symm.trans hf) |>.symm
    obtain rfl : fn = Tryd.f3 := (Option.some.inj (Tryd.func3.symm.trans hfn)).symm
    exact ⟨by kernel_rfl, fun j t ht => by
     rw [Tryd.params3] at ht
     have hm : t ∈ [24] := by simpa using Array.mem_of_getElem? ht
     have hall : ([24].all fun u => !Tryd.prog.wantsStandIn u) = true := by kernel_rfl
     exact (show Tryd.prog.wantsStandIn t = false by simpa using List.all_eq_true.1 hall t hm)⟩)
  (by kernel_rfl)
end Go.Proofs.YtoppcdecolponaaDoor.AL
namespace Go.Proofs.YtoppcdecolponaaDoor
theorem fnExactConfText_holds : Rows.FnExactConfTextCardSaid := AL.card
#print axioms fnExactConfText_holds
end Go.Proofs.YtoppcdecolponaaDoor
