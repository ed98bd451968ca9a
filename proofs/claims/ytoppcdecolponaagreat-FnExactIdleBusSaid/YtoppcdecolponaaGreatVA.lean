/- Code over plain data: an array of our own is only read from now on. -/
import Derived.Test.YtoppcdecolponaaGreatV9
namespace Go.Proofs.YtoppcdecolponaaGreat.AL
open Go
set_option linter.unusedVariables false
set_option linter.unusedSimpArgs false
end Go.Proofs.YtoppcdecolponaaGreat.AL
