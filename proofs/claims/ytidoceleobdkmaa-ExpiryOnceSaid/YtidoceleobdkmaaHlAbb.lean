/- Short names for printed texts. -/
import Derived.Test.YtidoceleobdkmaaHlOrd
namespace Go.HL
open Go
abbrev sV (v : Value) : SV := SV.val v
abbrev sI (n : Int) : SV := SV.val (Value.int .i64 n)
abbrev sB (b : Bool) : SV := SV.val (Value.bool b)
theorem Sc {α : Type} {f g : Nat → Option α} {i : Nat} {x : α} (h : g i = some x) (hf : Sub f g) : Sub (upd f i x) g := Sub.cons h hf
theorem Sn {α : Type} {g : Nat → Option α} : Sub (fun _ => none) g := Sub.nil g
theorem Rn {pv : PV} : RefOk (fun _ => none) pv := RefOk.nil pv
theorem Rv {env : Env} {pv : PV} (i : Nat) (x : Value) (h : RefOk env pv) : RefOk (upd env i (.val x)) pv := RefOk.v i x h
end Go.HL
