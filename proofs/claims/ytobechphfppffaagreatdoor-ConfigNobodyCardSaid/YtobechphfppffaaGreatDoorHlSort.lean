/- The heaplet logic in use, part 9: a row of things as an array: reads, stores, swaps. -/
import Derived.Test.YtobechphfppffaaGreatDoorHlMid
import Derived.Sort.Defs
set_option linter.unusedVariables false
set_option linter.unusedSimpArgs false
namespace Go.HL
open Go
section
variable {α:Type}
variable {hp0:HP} {b:Nat} {e:TypeId} {sp size:Nat} {en:α→List Value} {d:Array α}
end
section
variable {α:Type} [Inhabited α]
variable {hp0:HP} {b:Nat} {e:TypeId} {sp size:Nat} {en:α→List Value} {d:Array α}
end
end Go.HL
