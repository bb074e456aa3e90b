/- The heaplet logic in use, part 11: an entry of a map that is there is stored; what an interface holds. -/
import Derived.Test.YtobechphfppffaaGreatDoorHlMapL
import Derived.Test.YtobechphfppffaaGreatDoorHlUse2
import Derived.WideKeyEntry
set_option linter.unusedVariables false
set_option linter.unusedSimpArgs false
namespace Go.HL
open Go
section
variable {κ ν:Type} {P:Program} {hp:HP} {mt kt et:TypeId} {ek:κ→Value} {ev:ν→Value} {r:Nat} {l:List (κ × ν)}
end
end Go.HL
