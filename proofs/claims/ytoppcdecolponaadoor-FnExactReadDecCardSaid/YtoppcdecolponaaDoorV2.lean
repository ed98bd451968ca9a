/- Code over plain data: what single operations do, continued: arrays, structures. -/
import Derived.Test.YtoppcdecolponaaDoorV1
namespace Go.Proofs.YtoppcdecolponaaDoor.AL
open Go
set_option linter.unusedVariables false
set_option linter.unusedSimpArgs false
section
variable {G : Prg} {q : Bool} {tl : List (Nat × V)} {L : List LB}
theorem o_ext {i x cs u} (hx : evE tl x = some (.tup cs)) (hr : cs[i]? = some u) : OpV G q (.ext i x) tl L (some u) L :=
 .same fun N c Z M tm m n hM hS => by
  obtain ⟨vs, e1, hvl, hu⟩ := (evE_rel hS hx).tup_inv
  have hi := (List.getElem?_eq_some_iff.1 hr).1
  have h2 : vs[i]? = some vs[i] := Array.getElem?_eq_getElem (by omega)
  exact ⟨_, fun _ => by simp only [stepO, e1, h2], hu _ _ _ hr h2⟩
end
end Go.Proofs.YtoppcdecolponaaDoor.AL
