/- The heaplet logic in use, part 12: stores, reads of parts, walks through maps, numbers without a sign. -/
import Derived.Test.YtobechphfppffaaGreatDoorHlSort
import Derived.Test.YtobechphfppffaaGreatDoorHlRange
import Derived.Test.YtobechphfppffaaGreatDoorHlMapL
set_option linter.unusedVariables false
set_option linter.unusedSimpArgs false
namespace Go.HL
open Go
theorem HP.st_at {hp:HP} {r o:Nat} {e:TypeId} {cs:List Value} {sp:Nat} {v:Value} {c:HP→Prop} (hb:hp r=.cells e cs sp) (ho:o<cs.length) (h:c (hp.set r (.cells e (cs.set o v) sp))):hp.st r o v c:=by
  unfold HP.st; rw [hb]; exact ⟨ho,h⟩
section
variable {κ ν:Type} {hp hp':HP} {ek:κ→Value} {ev:ν→Value} {m it:Nat} {l done:List (κ × ν)}
end
theorem HP.stN_at {hp:HP} {r o:Nat} {e:TypeId} {cs vs:List Value} {sp:Nat} {c:HP→Prop} (hb:hp r=.cells e cs sp) (ho:o+vs.length≤cs.length) (h1:vs.all one=true) (h:c (hp.set r (.cells e (splice cs o vs) sp))):hp.stN r o vs c:=by
  unfold HP.stN; rw [hb]; exact ⟨ho,h1,h⟩
end Go.HL
