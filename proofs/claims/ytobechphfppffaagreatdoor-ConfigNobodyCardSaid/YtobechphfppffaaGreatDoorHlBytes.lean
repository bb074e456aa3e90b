/- The heaplet logic in use, part 19: a string out of bytes. -/
import Derived.Test.YtobechphfppffaaGreatDoorHlStr
import Derived.Laws.BytesString
import Derived.Laws.IdiomStrings
set_option linter.unusedVariables false
set_option linter.unusedSimpArgs false
namespace Go.HL
open Go
def u8 (n:Int):UInt8:=UInt8.ofNat n.toNat
theorem fold_bytes:∀ (ns:List Int) (r:ByteArray),ns.foldl (fun r n=>r.push (UInt8.ofNat n.toNat)) r=⟨r.data++(ns.map u8).toArray⟩
  | [],r=>by cases r; simp
  | n::ns,r=>by
    rw [List.foldl_cons,fold_bytes ns]
    cases r
    simp [ByteArray.push,u8]
theorem rdS_bytes {P:Program} {hp:HP} {src dst e:TypeId} (hs:P.underlying src=some (.slice e)) (he:P.underlying e=some (.int .u8)) (hd:P.underlying dst=some .string) {b o n cap:Nat} {ns:List Int}
    (hn:ns.length=n) (hc:hp.cellN b o n=some (ns.map (Value.int .u8))) {c:Value→Prop} (h:c (.string ⟨(ns.map u8).toArray⟩)):rdS P (convert src dst (.slice (some ⟨b,o,none⟩) n cap)) hp c:=by
  refine ⟨_,fun F w0 w hf=>?_,h⟩
  rw [run_convert_bytes_string w src dst e _ n cap hs he hd]
  have hl:=run_loadCells_list (P:=P) w ⟨b,o,none⟩ (ns.map (Value.int .u8)) (fun j v hj=>hf.cellN_at hc j v hj)
  rw [List.length_map,hn] at hl
  rw [run_bytesToString w _ n cap ns hl,fold_bytes]
  have he0:ByteArray.empty.data=#[]:=rfl
  rw [he0]
  simp
end Go.HL
