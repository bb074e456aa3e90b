/- Short names for printed texts. -/
import Derived.Test.YtpkhoemonibajaaGreatDoorHlOrd
import Derived.Test.YtpkhoemonibajaaGreatDoorHlPth
set_option linter.unusedVariables false
set_option linter.unusedSimpArgs false
namespace Go.HL
open Go
theorem Ru {env:Env} {pv:PV} {x:Value} (i:Nat) (h:RefOk env pv):RefOk (upd env i (.val x)) pv:=RefOk.v i x h
set_option linter.defProp false
def mt:=@ite2_mono
abbrev w2 {α:Type} (f:Nat→Option α) (i0:Nat) (x0:α) (i1:Nat) (x1:α):Nat→Option α:=upd (upd f i0 x0) i1 x1
abbrev w3 {α:Type} (f:Nat→Option α) (i0:Nat) (x0:α) (i1:Nat) (x1:α) (i2:Nat) (x2:α):Nat→Option α:=upd (upd (upd f i0 x0) i1 x1) i2 x2
abbrev w4 {α:Type} (f:Nat→Option α) (i0:Nat) (x0:α) (i1:Nat) (x1:α) (i2:Nat) (x2:α) (i3:Nat) (x3:α):Nat→Option α:=upd (upd (upd (upd f i0 x0) i1 x1) i2 x2) i3 x3
abbrev w5 {α:Type} (f:Nat→Option α) (i0:Nat) (x0:α) (i1:Nat) (x1:α) (i2:Nat) (x2:α) (i3:Nat) (x3:α) (i4:Nat) (x4:α):Nat→Option α:=upd (upd (upd (upd (upd f i0 x0) i1 x1) i2 x2) i3 x3) i4 x4
theorem z1 {α:Type} {f g:Nat→Option α} {i0:Nat} {x0:α} (h:Sub f g) (h0:g i0=some x0:=by exact rfl):Sub (upd f i0 x0) g:=Sub.cons h0 h
theorem z2 {α:Type} {f g:Nat→Option α} {i0 i1:Nat} {x0 x1:α} (h:Sub f g) (h0:g i0=some x0:=by exact rfl) (h1:g i1=some x1:=by exact rfl):Sub (upd (upd f i1 x1) i0 x0) g:=Sub.cons h0 (Sub.cons h1 h)
theorem z3 {α:Type} {f g:Nat→Option α} {i0 i1 i2:Nat} {x0 x1 x2:α} (h:Sub f g) (h0:g i0=some x0:=by exact rfl) (h1:g i1=some x1:=by exact rfl) (h2:g i2=some x2:=by exact rfl):Sub (upd (upd (upd f i2 x2) i1 x1) i0 x0) g:=Sub.cons h0 (Sub.cons h1 (Sub.cons h2 h))
theorem z4 {α:Type} {f g:Nat→Option α} {i0 i1 i2 i3:Nat} {x0 x1 x2 x3:α} (h:Sub f g) (h0:g i0=some x0:=by exact rfl) (h1:g i1=some x1:=by exact rfl) (h2:g i2=some x2:=by exact rfl) (h3:g i3=some x3:=by exact rfl):Sub (upd (upd (upd (upd f i3 x3) i2 x2) i1 x1) i0 x0) g:=Sub.cons h0 (Sub.cons h1 (Sub.cons h2 (Sub.cons h3 h)))
theorem z5 {α:Type} {f g:Nat→Option α} {i0 i1 i2 i3 i4:Nat} {x0 x1 x2 x3 x4:α} (h:Sub f g) (h0:g i0=some x0:=by exact rfl) (h1:g i1=some x1:=by exact rfl) (h2:g i2=some x2:=by exact rfl) (h3:g i3=some x3:=by exact rfl) (h4:g i4=some x4:=by exact rfl):Sub (upd (upd (upd (upd (upd f i4 x4) i3 x3) i2 x2) i1 x1) i0 x0) g:=Sub.cons h0 (Sub.cons h1 (Sub.cons h2 (Sub.cons h3 (Sub.cons h4 h))))
theorem r1 {env:Env} {pv:PV} (i0:Nat) {x0:Value} (h:RefOk env pv):RefOk (upd env i0 (.val x0)) pv:=Ru i0 h
theorem r2 {env:Env} {pv:PV} (i0 i1:Nat) {x0 x1:Value} (h:RefOk env pv):RefOk (upd (upd env i1 (.val x1)) i0 (.val x0)) pv:=Ru i0 (Ru i1 h)
theorem r3 {env:Env} {pv:PV} (i0 i1 i2:Nat) {x0 x1 x2:Value} (h:RefOk env pv):RefOk (upd (upd (upd env i2 (.val x2)) i1 (.val x1)) i0 (.val x0)) pv:=Ru i0 (Ru i1 (Ru i2 h))
theorem r4 {env:Env} {pv:PV} (i0 i1 i2 i3:Nat) {x0 x1 x2 x3:Value} (h:RefOk env pv):RefOk (upd (upd (upd (upd env i3 (.val x3)) i2 (.val x2)) i1 (.val x1)) i0 (.val x0)) pv:=Ru i0 (Ru i1 (Ru i2 (Ru i3 h)))
theorem r7 {env:Env} {pv:PV} (i0 i1 i2 i3 i4 i5 i6:Nat) {x0 x1 x2 x3 x4 x5 x6:Value} (h:RefOk env pv):RefOk (upd (upd (upd (upd (upd (upd (upd env i6 (.val x6)) i5 (.val x5)) i4 (.val x4)) i3 (.val x3)) i2 (.val x2)) i1 (.val x1)) i0 (.val x0)) pv:=Ru i0 (Ru i1 (Ru i2 (Ru i3 (Ru i4 (Ru i5 (Ru i6 h))))))
theorem r8 {env:Env} {pv:PV} (i0 i1 i2 i3 i4 i5 i6 i7:Nat) {x0 x1 x2 x3 x4 x5 x6 x7:Value} (h:RefOk env pv):RefOk (upd (upd (upd (upd (upd (upd (upd (upd env i7 (.val x7)) i6 (.val x6)) i5 (.val x5)) i4 (.val x4)) i3 (.val x3)) i2 (.val x2)) i1 (.val x1)) i0 (.val x0)) pv:=Ru i0 (Ru i1 (Ru i2 (Ru i3 (Ru i4 (Ru i5 (Ru i6 (Ru i7 h)))))))
def As:=@AWP.seq
end Go.HL
