/- Calls of functions that are lent, or hand out, arrays that are kept out of sight. -/
import Derived.Test.YtoppcdecolponaaDoorVF
namespace Go.Proofs.YtoppcdecolponaaDoor.AL
open Go
set_option linter.unusedVariables false
set_option linter.unusedSimpArgs false
end Go.Proofs.YtoppcdecolponaaDoor.AL
