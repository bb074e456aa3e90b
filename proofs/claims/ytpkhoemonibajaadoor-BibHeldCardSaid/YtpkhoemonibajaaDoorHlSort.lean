/- The heaplet logic in use, part 9: a row of things as an array: reads, stores, swaps. -/
import Derived.Test.YtpkhoemonibajaaDoorHlMid
import Derived.Sort.Defs
set_option linter.unusedVariables false
set_option linter.unusedSimpArgs false
namespace Go.HL
open Go
theorem flat_splice {α:Type} {en:α→List Value} {size:Nat} (he:∀ x,(en x).length=size) {l:List α} {i:Nat} (x:α) (hi:i<l.length):splice (l.flatMap en) (i*size) (en x)=(l.set i x).flatMap en:=by
  have hle:(i+1)*size≤l.length*size:=Nat.mul_le_mul_right _ hi
  rw [Nat.succ_mul] at hle
  rw [splice_eq _ _ _ (by rw [he,flat_len he]; exact hle),he,flat_take he,show i*size+size=(i+1)*size by rw [Nat.succ_mul],flat_drop he,List.set_eq_take_append_cons_drop,if_pos hi]
  simp
section
variable {α:Type}
variable {hp0:HP} {b:Nat} {e:TypeId} {sp size:Nat} {en:α→List Value} {d:Array α}
end
section
variable {α:Type} [Inhabited α]
variable {hp0:HP} {b:Nat} {e:TypeId} {sp size:Nat} {en:α→List Value} {d:Array α}
end
end Go.HL
