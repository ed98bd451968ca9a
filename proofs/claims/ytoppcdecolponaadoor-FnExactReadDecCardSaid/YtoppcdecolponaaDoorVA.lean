/- Code over plain data: an array of our own is only read from now on. -/
import Derived.Test.YtoppcdecolponaaDoorV9
namespace Go.Proofs.YtoppcdecolponaaDoor.AL
open Go
set_option linter.unusedVariables false
set_option linter.unusedSimpArgs false
theorem Wk.nar {a b : V} (h : Wk a b) (hn : a.nar = true) : b.nar = true := by
 cases h with
 | refl => exact hn
 | nil => rfl
 | agg => cases hn
 | tup => cases hn
end Go.Proofs.YtoppcdecolponaaDoor.AL
