/- The heaplet logic in use, part 17: going through a string; a mask of ones. -/
import Derived.Test.YtobechphfppffaaGreatDoorHlRange
import Derived.Test.YtobechphfppffaaGreatDoorHlUse2
set_option linter.unusedVariables false
set_option linter.unusedSimpArgs false
namespace Go.HL
open Go
section
variable {P:Program} {hp:HP}
theorem opS_rangeS {mt:TypeId} {s:ByteArray} (hu:P.underlying mt=some .string) {K:Value→HP→Prop}
    (h:∀ it,hp it=.none→K (ptr it 0) (hp.set it (.obj (.stringIter s 0)))):opS P (Instr.range mt (.string s)) hp K:=by
  intro F w0 w hf
  refine ⟨ptr w.heap.size 0,w.alloc (.stringIter s 0),hp.set w.heap.size (.obj (.stringIter s 0)),?_,hf.alloc _ rfl,h _ hf.fresh⟩
  simp [Instr.range,run_underlying hu,run_newObj]
theorem opS_nextS {ty:TypeId} {s:ByteArray} {it pos:Nat} (hr:hp it=.obj (.stringIter s pos)) {K:Value→HP→Prop}
    (hend:¬ pos<s.size→K (.tuple #[.bool false]) hp)
    (hgo:pos<s.size→K (.tuple #[.bool true,.int .i64 pos,.int .i32 (Utf8.decode s pos).1]) (hp.set it (.obj (.stringIter s (pos+(Utf8.decode s pos).2))))):opS P (Instr.next (ptr it 0) true ty) hp K:=by
  intro F w0 w hf
  have hb:=getObj_of hf hr
  by_cases hp':pos<s.size
  · refine ⟨_,_,_,?_,hf.setObj hr (o':=.stringIter s (pos+(Utf8.decode s pos).2)),hgo hp'⟩
    simp [Instr.next,getObj,setObj,Sem.run,hb,hp',goInt]
  · refine ⟨_,_,_,?_,hf,hend hp'⟩
    simp [Instr.next,getObj,Sem.run,hb,hp']
end
end Go.HL
