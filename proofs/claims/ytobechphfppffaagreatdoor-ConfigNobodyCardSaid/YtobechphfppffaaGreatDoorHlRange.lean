/- The heaplet logic in use, part 7: going through a map: each pair once, in whichever order. -/
import Derived.Test.YtobechphfppffaaGreatDoorHlLib
import Derived.Maps.RangeRun
set_option linter.unusedVariables false
set_option linter.unusedSimpArgs false
namespace Go.HL
open Go
section
variable {κ ν:Type} {P:Program} {hp:HP} {mt kt et:TypeId} {ek:κ→Value} {ev:ν→Value} {m it:Nat} {l done:List (κ × ν)}
end
end Go.HL
