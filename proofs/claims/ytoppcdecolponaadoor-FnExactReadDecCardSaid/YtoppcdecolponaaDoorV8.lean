/- Code over plain data: calls of functions that hold our own variables; slices that may be nil. -/
import Derived.Test.YtoppcdecolponaaDoorV7
namespace Go.Proofs.YtoppcdecolponaaDoor.AL
open Go
set_option linter.unusedVariables false
set_option linter.unusedSimpArgs false
end Go.Proofs.YtoppcdecolponaaDoor.AL
