/- The heaplet logic in use, part 9: a row of things as an array: reads, stores, swaps. -/
import Derived.Test.YtpkhoemonibajaaGreatDoorHlMid
import Derived.Sort.Defs
set_option linter.unusedVariables false
set_option linter.unusedSimpArgs false
namespace Go.HL
open Go
theorem flat_splice {α:Type} {en:α→List Value} {size:Nat} (he:∀ x,(en x).length=size) {l:List α} {i:Nat} (x:α) (hi:i<l.length):splice (l.flatMap en) (i*size) (en x)=(l.set i x).flatMap en:=by
  have hle:(i+1)*size≤l.length*size:=Nat.mul_le_mul_right _ hi
  rw [Nat.succ_mul] at hle
  rw [splice_eq _ _ _ (by rw [he,flat_len he]; exact hle),he,flat_take he,show i*size+size=(i+1)*size by rw [Nat.succ_mul],flat_drop he,List.set_eq_take_append_cons_drop,if_pos hi]
  simp
section
variable {α:Type}
def HA (hp0:HP) (b:Nat) (e:TypeId) (sp:Nat) (en:α→List Value) (d:Array α):HP:=hp0.set b (.cells e (d.toList.flatMap en) sp)
variable {hp0:HP} {b:Nat} {e:TypeId} {sp size:Nat} {en:α→List Value} {d:Array α}
theorem HA.st (he:∀ x,(en x).length=size) (h1:∀ x,(en x).all one=true) {i:Nat} (hi:i<d.size) (x:α) {K:HP→Prop} (h:K (HA hp0 b e sp en (d.setIfInBounds i x))) :
    (HA hp0 b e sp en d).stN b (0+i*size) (en x) K:=by
  unfold HP.stN HA
  rw [HP.set_eq]
  have hle:(i+1)*size≤d.size*size:=Nat.mul_le_mul_right _ hi
  rw [Nat.succ_mul] at hle
  refine ⟨by rw [he,flat_len he,Nat.zero_add]; simpa using hle,h1 x,?_⟩
  rw [HP.set_set,Nat.zero_add,flat_splice he x (by simpa using hi)]
  have:(d.setIfInBounds i x).toList=d.toList.set i x:=by simp
  rw [← this]
  exact h
end
section
variable {α:Type} [Inhabited α]
variable {hp0:HP} {b:Nat} {e:TypeId} {sp size:Nat} {en:α→List Value} {d:Array α}
theorem HA.get (he:∀ x,(en x).length=size) {i:Nat} (hi:i<d.size):(HA hp0 b e sp en d).cellN b (0+i*size) size=some (en d[i]!):=by
  unfold HA
  rw [HP.cellN_of (HP.set_eq ..),Nat.zero_add,flat_at he (by simpa using hi),getElem!_pos d i hi]
  simp
end
end Go.HL
