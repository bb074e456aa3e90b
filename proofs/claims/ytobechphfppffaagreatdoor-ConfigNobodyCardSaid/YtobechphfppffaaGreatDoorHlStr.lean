/- The heaplet logic in use, part 15: strings. -/
import Derived.Test.YtobechphfppffaaGreatDoorHlUse2
set_option linter.unusedVariables false
set_option linter.unusedSimpArgs false
namespace Go.HL
open Go
theorem bytes_loop (s:ByteArray):∀ (k i:Nat) (r:List UInt8),s.size-i=k→ByteArray.toList.loop s i r=r.reverse++s.data.toList.drop i:=by
  intro k
  induction k with
  | zero=>
    intro i r hk
    unfold ByteArray.toList.loop
    rw [if_neg (by omega),List.drop_of_length_le (by have:s.data.toList.length=s.size:=rfl; omega),List.append_nil]
  | succ k ih=>
    intro i r hk
    unfold ByteArray.toList.loop
    have hi:i<s.size:=by omega
    rw [if_pos hi,ih _ _ (by omega)]
    have hl:i<s.data.toList.length:=hi
    rw [List.drop_eq_getElem_cons hl,List.reverse_cons,List.append_assoc]
    congr 2
    have e:s.get! i=s.data.toList[i]:=by
      show s.data[i]! = _
      rw [getElem!_pos s.data i hi]; simp
    simp [e]
theorem toList_bytes (s:ByteArray):s.toList=s.data.toList:=by
  unfold ByteArray.toList
  rw [bytes_loop s _ 0 [] rfl]; simp
theorem bytes_ext {s t:ByteArray} (h:s.data.toList=t.data.toList):s=t:=ByteArray.ext (Array.ext' h)
theorem str_eq (s t:ByteArray):(s.toList==t.toList)=decide (s=t):=by
  rw [toList_bytes,toList_bytes,Bool.eq_iff_iff,beq_iff_eq,decide_eq_true_iff]
  exact ⟨bytes_ext,fun h=>by rw [h]⟩
end Go.HL
