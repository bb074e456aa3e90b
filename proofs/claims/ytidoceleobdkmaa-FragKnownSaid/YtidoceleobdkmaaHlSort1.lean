/- The heaplet logic in use, part 16: a row of things of one cell as an array: reads, stores. -/
import Derived.Test.YtidoceleobdkmaaHlSort
import Derived.Test.YtidoceleobdkmaaHlUse2
set_option linter.unusedVariables false
set_option linter.unusedSimpArgs false
namespace Go.HL
open Go
section
variable {α:Type} [Inhabited α] {hp0:HP} {b:Nat} {e:TypeId} {sp:Nat} {en:α→Value} {d:Array α}
theorem HA.get1 {i:Nat} (hi:i<d.size):(HA hp0 b e sp (fun x=>[en x]) d).cell b (0+i*1)=some (en d[i]!):=by
  have h:=HA.get (hp0:=hp0) (b:=b) (e:=e) (sp:=sp) (size:=1) (en:=fun x=>[en x]) (d:=d) (fun _=>rfl) hi
  exact HP.cell_cellN (j:=0) h rfl
end
section
variable {α:Type} {hp0:HP} {b:Nat} {e:TypeId} {sp:Nat} {en:α→Value} {d:Array α}
theorem HA.st1 {i:Nat} (hi:i<d.size) (x:α) {K:HP→Prop} (h:K (HA hp0 b e sp (fun x=>[en x]) (d.setIfInBounds i x))) :
    (HA hp0 b e sp (fun x=>[en x]) d).st b (0+i*1) (en x) K:=by
  have hl:(d.toList.flatMap fun x=>[en x])=d.toList.map en:=by
    induction d.toList with
    | nil=>rfl
    | cons a l ih=>simpa using ih
  refine HP.st_at (by unfold HA; exact HP.set_eq ..) (by rw [hl]; simpa using hi) ?_
  have e1:((d.toList.flatMap fun x=>[en x]).set (0+i*1) (en x))=(d.setIfInBounds i x).toList.flatMap fun x=>[en x]:=by
    have hl2:∀ l:List α,(l.flatMap fun x=>[en x])=l.map en:=fun l=>by
      induction l with
      | nil=>rfl
      | cons a l ih=>simpa using ih
    rw [hl2,hl2,Nat.zero_add,Nat.mul_one,← List.map_set]
    simp
  rw [e1]
  unfold HA at h ⊢
  rw [HP.set_set]
  exact h
end
end Go.HL
