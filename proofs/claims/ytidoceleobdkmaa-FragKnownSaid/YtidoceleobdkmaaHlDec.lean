/- Arguments that are structs: what their cells are. -/
import Derived.Test.YtidoceleobdkmaaHlArg
set_option linter.unusedVariables false
set_option linter.unusedSimpArgs false
namespace Go.HL
open Go
end Go.HL
