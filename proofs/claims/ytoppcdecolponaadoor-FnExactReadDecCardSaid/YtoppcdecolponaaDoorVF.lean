/- Steps beside arrays that are kept out of sight: calls, and an array of our own that goes out of sight. -/
import Derived.Test.YtoppcdecolponaaDoorVE
namespace Go.Proofs.YtoppcdecolponaaDoor.AL
open Go
set_option linter.unusedVariables false
set_option linter.unusedSimpArgs false
section
variable {N : Nat} {G : Prg} {tl : Tl} {L : List LB} {OL : Ob} {K : Tl → List LB → Ob → Prop} {l : List IOp} {q : Bool} {d : Nat}
def Vew (OL : Ob) (us us' : List V) : Prop := ∀ M', (∀ (i : Nat) D, OL[i]? = some D → sub D M') → ∀ args, Pt (RF M') us args → Pt (RF M') us' args
end
end Go.Proofs.YtoppcdecolponaaDoor.AL
