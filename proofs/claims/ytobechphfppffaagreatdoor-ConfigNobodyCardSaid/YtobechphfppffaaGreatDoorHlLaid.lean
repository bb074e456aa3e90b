/- A table that a row lists, wherever it stands on the list. -/
import Derived.Lib.LaidTab
set_option linter.unusedVariables false
set_option linter.unusedSimpArgs false
namespace Go.HL
open Go Go.Lib
end Go.HL
