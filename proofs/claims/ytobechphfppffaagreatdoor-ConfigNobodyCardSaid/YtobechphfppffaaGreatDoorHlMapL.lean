/- Maps as lists of pairs: plain law. -/
import Derived.Test.YtobechphfppffaaGreatDoorHlMap
set_option linter.unusedVariables false
set_option linter.unusedSimpArgs false
namespace Go.HL
open Go
section
variable {κ ν:Type} [DecidableEq κ]
end
end Go.HL
