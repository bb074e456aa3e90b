/- The heaplet logic in use, part 2: when two structs or arrays of bools, integers and strings are equal; keys of maps. -/
import Derived.Test.YtpkhoemonibajaaDoorHlUse
import Derived.DeepKeys3
import Derived.MapKept
set_option linter.unusedVariables false
set_option linter.unusedSimpArgs false
namespace Go.HL
open Go
section
variable {P:Program} (w:World)
end
end Go.HL
