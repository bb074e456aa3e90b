/- The heaplet logic in use, part 21: parts that are parted; a row in a part grows; the shut. -/
import Derived.Test.YtpkhoemonibajaaDoorHlParts
import Derived.Test.YtpkhoemonibajaaDoorHlApp
set_option linter.unusedVariables false
set_option linter.unusedSimpArgs false
namespace Go.HL
open Go
section
variable {hp hp':HP} {ps:Nat→HP}
theorem Parts.at (h:Parts hp ps) (i:Nat) {l:HP} (e:ps i=l):HSub l hp:=e▸h.sub i
end
section
variable {κ ν:Type} {ek:κ→Value} {ev:ν→Value} {l:List (κ × ν)}
theorem MapE.sub {hp hp':HP} {m:Nat} (h:MapE ek ev l (hp m)) (hs:HSub hp hp'):MapE ek ev l (hp' m):=by
  obtain ⟨es,clock,he,hr⟩:=h
  exact ⟨es,clock,hs.obj he,hr⟩
theorem MapE.ne {e:Ent} (h:MapE ek ev l e):e≠.none:=by
  obtain ⟨es,clock,he,hr⟩:=h
  rw [he]; simp
end
end Go.HL
