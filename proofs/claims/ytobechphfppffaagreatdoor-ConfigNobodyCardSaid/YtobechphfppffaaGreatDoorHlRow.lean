/- The heaplet logic in use, part 5: from a contract to what a row asks. -/
import Derived.Test.YtobechphfppffaaGreatDoorHlLib
import Derived.Below
import Derived.ProofKit
import Derived.OpenShut
set_option linter.unusedVariables false
set_option linter.unusedSimpArgs false
namespace Go.HL
open Go
end Go.HL
