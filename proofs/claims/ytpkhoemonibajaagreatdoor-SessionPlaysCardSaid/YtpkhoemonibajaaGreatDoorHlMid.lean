/- The heaplet logic in use, part 8: append into the middle of a row that is known. -/
import Derived.Test.YtpkhoemonibajaaGreatDoorHlLib
set_option linter.unusedVariables false
set_option linter.unusedSimpArgs false
namespace Go.HL
open Go
end Go.HL
