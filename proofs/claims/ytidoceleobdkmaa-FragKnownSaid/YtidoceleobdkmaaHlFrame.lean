/- The heaplet logic in use, part 10: what a call does not own it leaves as it was; what may be forgotten behind a call. -/
import Derived.Test.YtidoceleobdkmaaHlLib
set_option linter.unusedVariables false
set_option linter.unusedSimpArgs false
namespace Go.HL
open Go
end Go.HL
