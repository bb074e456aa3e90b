/- The heaplet logic in use, part 14: an append and what it leaves as it was; the end of a row; one block alone. -/
import Derived.Test.YtpkhoemonibajaaDoorHlUse2
import Derived.Test.YtpkhoemonibajaaDoorHlMid
set_option linter.unusedVariables false
set_option linter.unusedSimpArgs false
namespace Go.HL
open Go
def HP.onlyF (b:Nat) (e:Ent):HP:=HP.set (fun _=>.none) b e
theorem HSub.onlyF {hp:HP} {b:Nat} {e:Ent} (h:hp b=e):HSub (HP.onlyF b e) hp:=fun x=>by
  unfold HP.onlyF
  by_cases hx:x=b
  · subst hx; rw [HP.set_eq]; exact .inr h.symm
  · rw [HP.set_ne _ _ hx]; exact .inl rfl
theorem HP.onlyF_eq (b:Nat) (e:Ent):HP.onlyF b e b=e:=HP.set_eq ..
theorem HP.onlyF_ne {b x:Nat} (e:Ent) (h:x≠b):HP.onlyF b e x=.none:=HP.set_ne _ _ h
end Go.HL
