/- Code over plain data: loops whose own rows get new numbers in each round. -/
import Derived.Test.YtoppcdecolponaaDoorV8
namespace Go.Proofs.YtoppcdecolponaaDoor.AL
open Go
set_option linter.unusedVariables false
set_option linter.unusedSimpArgs false
end Go.Proofs.YtoppcdecolponaaDoor.AL
