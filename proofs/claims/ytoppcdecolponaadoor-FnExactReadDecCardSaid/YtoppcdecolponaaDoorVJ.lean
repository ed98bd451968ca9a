/- Strings of bytes. -/
import Derived.Test.YtoppcdecolponaaDoorV3
namespace Go.Proofs.YtoppcdecolponaaDoor.AL
open Go
set_option linter.unusedVariables false
section
variable {G : Prg} {q : Bool} {tl : List (Nat × V)} {L : List LB}
theorem o_cvbs1 {x : E} {b : Nat} {k : Int} (hx : evE tl x = some (.ls b 1)) (hb : L[b]? = some (.arr 1 [[.w (.int .u8 k)]])) (hk : 0 ≤ k ∧ k < 256) :
 OpV G q (.cvbs x) tl L (some (.w (.string ⟨#[UInt8.ofNat k.toNat]⟩))) L :=
 .same fun N c Z M tm m n hM hS => by
  obtain ⟨a, ha⟩ := hM.getZ hb
  have h1 := (evE_rel hS hx).ls_inv ha rfl
  cases a with
  | none => obtain ⟨k', e⟩ := hM.nil _ _ ha; cases e
  | some ad =>
    obtain ⟨_, _, cells, hm, rows', rfl, hl, hall, hpt, hn⟩ := hM.cell _ _ _ ha
    match rows', hl with
    | [r], _ =>
      have h2 := hpt 0 _ r rfl rfl
      obtain ⟨y, r2, rfl, e1, e2⟩ := h2.uncons
      rw [e2.unnil] at hm
      cases e1
      refine ⟨_, fun _ => ?_, .fz (.w rfl)⟩
      simp only [stepO, h1, slOf]
      simp [AL.rdn, hm, bytesV, hk]
end
end Go.Proofs.YtoppcdecolponaaDoor.AL
