/- Short names for printed texts. -/
import Derived.Test.YtidoceleobdkmaaHlOrd
namespace Go.HL
open Go
abbrev sV (v : Value) : SV := SV.val v
abbrev sI (n : Int) : SV := SV.val (Value.int .i64 n)
abbrev sB (b : Bool) : SV := SV.val (Value.bool b)
abbrev sS (a : Option Addr) (n c : Nat) : SV := SV.val (Value.slice a n c)
abbrev sP (a : Option Addr) : SV := SV.val (Value.pointer a)
abbrev sA (l : List Value) : SV := SV.val (Value.agg ⟨l⟩)
abbrev sQ (b o : Nat) : SV := SV.val (ptr b o)
abbrev sU : SV := SV.val undef
abbrev sR (k o : Nat) : SV := SV.priv k o
abbrev wr (n : Int) : Int := IntKind.wrap .i64 n
theorem Sc {α : Type} {f g : Nat → Option α} {i : Nat} {x : α} (h : g i = some x) (hf : Sub f g) : Sub (upd f i x) g := Sub.cons h hf
theorem Sn {α : Type} {g : Nat → Option α} : Sub (fun _ => none) g := Sub.nil g
theorem Rn {pv : PV} : RefOk (fun _ => none) pv := RefOk.nil pv
theorem Rv {env : Env} {pv : PV} (i : Nat) (x : Value) (h : RefOk env pv) : RefOk (upd env i (.val x)) pv := RefOk.v i x h
theorem Ru {env : Env} {pv : PV} {x : Value} (i : Nat) (h : RefOk env pv) : RefOk (upd env i (.val x)) pv := RefOk.v i x h
set_option linter.defProp false
def mV := @ldV_mono
def mN := @ptrN_mono
def mI := @intV_mono
def mL := @ldL_mono
def mC := @CF_mono
def mt := @ite2_mono
def mB := @boolV_mono
def mS := @slcV_mono
def mf := @if_mono
def ms := @strV_mono
def mT := @tup2V_mono
def mA := @aggV_mono
def mP := @ptrV_mono
def mM := @mapV_mono
def mW := @stN_mono
def mO := @opS_mono
def mR := @rdS_mono
def mw := @st_mono
def mU := @tup3V_mono
def mE := @eqAgg_mono
def mF := @fnV_mono
end Go.HL
