/- Short names for printed texts. -/
import Derived.Test.YtpkhoemonibajaaDoorHlOrd
set_option linter.unusedVariables false
set_option linter.unusedSimpArgs false
namespace Go.HL
open Go
abbrev sV (v:Value):SV:=SV.val v
abbrev sI (n:Int):SV:=SV.val (Value.int .i64 n)
abbrev sB (b:Bool):SV:=SV.val (Value.bool b)
abbrev sS (a:Option Addr) (n c:Nat):SV:=SV.val (Value.slice a n c)
abbrev sP (a:Option Addr):SV:=SV.val (Value.pointer a)
abbrev sA (l:List Value):SV:=SV.val (Value.agg ⟨l⟩)
abbrev sQ (b o:Nat):SV:=SV.val (ptr b o)
abbrev sU:SV:=SV.val undef
abbrev sR (k o:Nat):SV:=SV.priv k o
abbrev wr (n:Int):Int:=IntKind.wrap .i64 n
theorem Sc {α:Type} {f g:Nat→Option α} {i:Nat} {x:α} (h:g i=some x) (hf:Sub f g):Sub (upd f i x) g:=Sub.cons h hf
theorem Sn {α:Type} {g:Nat→Option α}:Sub (fun _=>none) g:=Sub.nil g
theorem Rn {pv:PV}:RefOk (fun _=>none) pv:=RefOk.nil pv
theorem Rv {env:Env} {pv:PV} (i:Nat) (x:Value) (h:RefOk env pv):RefOk (upd env i (.val x)) pv:=RefOk.v i x h
theorem Ru {env:Env} {pv:PV} {x:Value} (i:Nat) (h:RefOk env pv):RefOk (upd env i (.val x)) pv:=RefOk.v i x h
set_option linter.defProp false
def mV:=@ldV_mono
def mN:=@ptrN_mono
def mI:=@intV_mono
def mL:=@ldL_mono
def mC:=@CF_mono
def mt:=@ite2_mono
def mB:=@boolV_mono
def mS:=@slcV_mono
def mf:=@if_mono
def ms:=@strV_mono
def mT:=@tup2V_mono
def mA:=@aggV_mono
def mP:=@ptrV_mono
def mM:=@mapV_mono
def mW:=@stN_mono
def mO:=@opS_mono
def mR:=@rdS_mono
def mw:=@st_mono
def mU:=@tup3V_mono
def mE:=@eqAgg_mono
def mF:=@fnV_mono
abbrev OA:=Option Addr
abbrev Kh:=Value→HP→Prop
abbrev w2 {α:Type} (f:Nat→Option α) (i0:Nat) (x0:α) (i1:Nat) (x1:α):Nat→Option α:=upd (upd f i0 x0) i1 x1
abbrev w3 {α:Type} (f:Nat→Option α) (i0:Nat) (x0:α) (i1:Nat) (x1:α) (i2:Nat) (x2:α):Nat→Option α:=upd (upd (upd f i0 x0) i1 x1) i2 x2
abbrev w4 {α:Type} (f:Nat→Option α) (i0:Nat) (x0:α) (i1:Nat) (x1:α) (i2:Nat) (x2:α) (i3:Nat) (x3:α):Nat→Option α:=upd (upd (upd (upd f i0 x0) i1 x1) i2 x2) i3 x3
abbrev w5 {α:Type} (f:Nat→Option α) (i0:Nat) (x0:α) (i1:Nat) (x1:α) (i2:Nat) (x2:α) (i3:Nat) (x3:α) (i4:Nat) (x4:α):Nat→Option α:=upd (upd (upd (upd (upd f i0 x0) i1 x1) i2 x2) i3 x3) i4 x4
abbrev w6 {α:Type} (f:Nat→Option α) (i0:Nat) (x0:α) (i1:Nat) (x1:α) (i2:Nat) (x2:α) (i3:Nat) (x3:α) (i4:Nat) (x4:α) (i5:Nat) (x5:α):Nat→Option α:=upd (upd (upd (upd (upd (upd f i0 x0) i1 x1) i2 x2) i3 x3) i4 x4) i5 x5
abbrev w7 {α:Type} (f:Nat→Option α) (i0:Nat) (x0:α) (i1:Nat) (x1:α) (i2:Nat) (x2:α) (i3:Nat) (x3:α) (i4:Nat) (x4:α) (i5:Nat) (x5:α) (i6:Nat) (x6:α):Nat→Option α:=upd (upd (upd (upd (upd (upd (upd f i0 x0) i1 x1) i2 x2) i3 x3) i4 x4) i5 x5) i6 x6
abbrev w8 {α:Type} (f:Nat→Option α) (i0:Nat) (x0:α) (i1:Nat) (x1:α) (i2:Nat) (x2:α) (i3:Nat) (x3:α) (i4:Nat) (x4:α) (i5:Nat) (x5:α) (i6:Nat) (x6:α) (i7:Nat) (x7:α):Nat→Option α:=upd (upd (upd (upd (upd (upd (upd (upd f i0 x0) i1 x1) i2 x2) i3 x3) i4 x4) i5 x5) i6 x6) i7 x7
theorem z1 {α:Type} {f g:Nat→Option α} {i0:Nat} {x0:α} (h:Sub f g) (h0:g i0=some x0:=by exact rfl):Sub (upd f i0 x0) g:=Sub.cons h0 h
theorem z2 {α:Type} {f g:Nat→Option α} {i0 i1:Nat} {x0 x1:α} (h:Sub f g) (h0:g i0=some x0:=by exact rfl) (h1:g i1=some x1:=by exact rfl):Sub (upd (upd f i1 x1) i0 x0) g:=Sub.cons h0 (Sub.cons h1 h)
theorem z3 {α:Type} {f g:Nat→Option α} {i0 i1 i2:Nat} {x0 x1 x2:α} (h:Sub f g) (h0:g i0=some x0:=by exact rfl) (h1:g i1=some x1:=by exact rfl) (h2:g i2=some x2:=by exact rfl):Sub (upd (upd (upd f i2 x2) i1 x1) i0 x0) g:=Sub.cons h0 (Sub.cons h1 (Sub.cons h2 h))
theorem z4 {α:Type} {f g:Nat→Option α} {i0 i1 i2 i3:Nat} {x0 x1 x2 x3:α} (h:Sub f g) (h0:g i0=some x0:=by exact rfl) (h1:g i1=some x1:=by exact rfl) (h2:g i2=some x2:=by exact rfl) (h3:g i3=some x3:=by exact rfl):Sub (upd (upd (upd (upd f i3 x3) i2 x2) i1 x1) i0 x0) g:=Sub.cons h0 (Sub.cons h1 (Sub.cons h2 (Sub.cons h3 h)))
theorem z5 {α:Type} {f g:Nat→Option α} {i0 i1 i2 i3 i4:Nat} {x0 x1 x2 x3 x4:α} (h:Sub f g) (h0:g i0=some x0:=by exact rfl) (h1:g i1=some x1:=by exact rfl) (h2:g i2=some x2:=by exact rfl) (h3:g i3=some x3:=by exact rfl) (h4:g i4=some x4:=by exact rfl):Sub (upd (upd (upd (upd (upd f i4 x4) i3 x3) i2 x2) i1 x1) i0 x0) g:=Sub.cons h0 (Sub.cons h1 (Sub.cons h2 (Sub.cons h3 (Sub.cons h4 h))))
theorem z6 {α:Type} {f g:Nat→Option α} {i0 i1 i2 i3 i4 i5:Nat} {x0 x1 x2 x3 x4 x5:α} (h:Sub f g) (h0:g i0=some x0:=by exact rfl) (h1:g i1=some x1:=by exact rfl) (h2:g i2=some x2:=by exact rfl) (h3:g i3=some x3:=by exact rfl) (h4:g i4=some x4:=by exact rfl) (h5:g i5=some x5:=by exact rfl):Sub (upd (upd (upd (upd (upd (upd f i5 x5) i4 x4) i3 x3) i2 x2) i1 x1) i0 x0) g:=Sub.cons h0 (Sub.cons h1 (Sub.cons h2 (Sub.cons h3 (Sub.cons h4 (Sub.cons h5 h)))))
theorem z7 {α:Type} {f g:Nat→Option α} {i0 i1 i2 i3 i4 i5 i6:Nat} {x0 x1 x2 x3 x4 x5 x6:α} (h:Sub f g) (h0:g i0=some x0:=by exact rfl) (h1:g i1=some x1:=by exact rfl) (h2:g i2=some x2:=by exact rfl) (h3:g i3=some x3:=by exact rfl) (h4:g i4=some x4:=by exact rfl) (h5:g i5=some x5:=by exact rfl) (h6:g i6=some x6:=by exact rfl):Sub (upd (upd (upd (upd (upd (upd (upd f i6 x6) i5 x5) i4 x4) i3 x3) i2 x2) i1 x1) i0 x0) g:=Sub.cons h0 (Sub.cons h1 (Sub.cons h2 (Sub.cons h3 (Sub.cons h4 (Sub.cons h5 (Sub.cons h6 h))))))
theorem z8 {α:Type} {f g:Nat→Option α} {i0 i1 i2 i3 i4 i5 i6 i7:Nat} {x0 x1 x2 x3 x4 x5 x6 x7:α} (h:Sub f g) (h0:g i0=some x0:=by exact rfl) (h1:g i1=some x1:=by exact rfl) (h2:g i2=some x2:=by exact rfl) (h3:g i3=some x3:=by exact rfl) (h4:g i4=some x4:=by exact rfl) (h5:g i5=some x5:=by exact rfl) (h6:g i6=some x6:=by exact rfl) (h7:g i7=some x7:=by exact rfl):Sub (upd (upd (upd (upd (upd (upd (upd (upd f i7 x7) i6 x6) i5 x5) i4 x4) i3 x3) i2 x2) i1 x1) i0 x0) g:=Sub.cons h0 (Sub.cons h1 (Sub.cons h2 (Sub.cons h3 (Sub.cons h4 (Sub.cons h5 (Sub.cons h6 (Sub.cons h7 h)))))))
theorem r1 {env:Env} {pv:PV} (i0:Nat) {x0:Value} (h:RefOk env pv):RefOk (upd env i0 (.val x0)) pv:=Ru i0 h
theorem r2 {env:Env} {pv:PV} (i0 i1:Nat) {x0 x1:Value} (h:RefOk env pv):RefOk (upd (upd env i1 (.val x1)) i0 (.val x0)) pv:=Ru i0 (Ru i1 h)
theorem r3 {env:Env} {pv:PV} (i0 i1 i2:Nat) {x0 x1 x2:Value} (h:RefOk env pv):RefOk (upd (upd (upd env i2 (.val x2)) i1 (.val x1)) i0 (.val x0)) pv:=Ru i0 (Ru i1 (Ru i2 h))
theorem r4 {env:Env} {pv:PV} (i0 i1 i2 i3:Nat) {x0 x1 x2 x3:Value} (h:RefOk env pv):RefOk (upd (upd (upd (upd env i3 (.val x3)) i2 (.val x2)) i1 (.val x1)) i0 (.val x0)) pv:=Ru i0 (Ru i1 (Ru i2 (Ru i3 h)))
theorem r5 {env:Env} {pv:PV} (i0 i1 i2 i3 i4:Nat) {x0 x1 x2 x3 x4:Value} (h:RefOk env pv):RefOk (upd (upd (upd (upd (upd env i4 (.val x4)) i3 (.val x3)) i2 (.val x2)) i1 (.val x1)) i0 (.val x0)) pv:=Ru i0 (Ru i1 (Ru i2 (Ru i3 (Ru i4 h))))
theorem r6 {env:Env} {pv:PV} (i0 i1 i2 i3 i4 i5:Nat) {x0 x1 x2 x3 x4 x5:Value} (h:RefOk env pv):RefOk (upd (upd (upd (upd (upd (upd env i5 (.val x5)) i4 (.val x4)) i3 (.val x3)) i2 (.val x2)) i1 (.val x1)) i0 (.val x0)) pv:=Ru i0 (Ru i1 (Ru i2 (Ru i3 (Ru i4 (Ru i5 h)))))
theorem r7 {env:Env} {pv:PV} (i0 i1 i2 i3 i4 i5 i6:Nat) {x0 x1 x2 x3 x4 x5 x6:Value} (h:RefOk env pv):RefOk (upd (upd (upd (upd (upd (upd (upd env i6 (.val x6)) i5 (.val x5)) i4 (.val x4)) i3 (.val x3)) i2 (.val x2)) i1 (.val x1)) i0 (.val x0)) pv:=Ru i0 (Ru i1 (Ru i2 (Ru i3 (Ru i4 (Ru i5 (Ru i6 h))))))
theorem r8 {env:Env} {pv:PV} (i0 i1 i2 i3 i4 i5 i6 i7:Nat) {x0 x1 x2 x3 x4 x5 x6 x7:Value} (h:RefOk env pv):RefOk (upd (upd (upd (upd (upd (upd (upd (upd env i7 (.val x7)) i6 (.val x6)) i5 (.val x5)) i4 (.val x4)) i3 (.val x3)) i2 (.val x2)) i1 (.val x1)) i0 (.val x0)) pv:=Ru i0 (Ru i1 (Ru i2 (Ru i3 (Ru i4 (Ru i5 (Ru i6 (Ru i7 h)))))))
theorem rp {env:Env} {pv:PV} (i k o:Nat) (h:RefOk env pv) (hk:pv k≠none:=by intro e; cases e):RefOk (upd env i (.priv k o)) pv:=RefOk.p i k o h hk
theorem AWP.sb {P N c} {Q:Post} {env pv hp env' pv'} (h:AWP P N c Q env' pv' hp) (hr:RefOk env' pv') (he:Sub env' env) (hv:Sub pv' pv):AWP P N c Q env pv hp:=AWP.sub h hr he hv (HSub.refl _)
theorem AWP.cd {P N c a b} {Q:Post} {env pv hp} {t:Bool} {A B:Prop} (h:ite2 t A B) (hc:env c=some (.val (.bool t))) (ha:A→AWP P N a Q env pv hp) (hb:B→AWP P N b Q env pv hp):AWP P N (.cond (.tmp c) a b) Q env pv hp:=AWP.cond hc (fun e=>ha (ite2_t h e)) (fun e=>hb (ite2_f h e))
def pthF:Nat→Nat→List Nat
  | 0,_=>[]
  | f+1,n=>if n≤1 then [] else n % 2::pthF f (n / 2)
def pth (n:Nat):List Nat:=pthF 200 n
abbrev sT (s:ByteArray):SV:=SV.val (.string s)
def Ag:=@AWP.rgn
def As:=@AWP.seq
def Aq:=@AWP.seq'
def Ae:=@AWP.sb
def Ac:=@AWP.cd
theorem Ar {P:Program} {N:Nat} {prv:List Nat} {ops:Array Oper} {id:Nat} {b:Code} {Q:Post} {env env':Env} {pv pv':PV} {hp:HP} {X:Prop} (e:RW P N prv ops (List.range ops.size) env' pv' hp (fun env pv hp=>AWP P N b Q env pv hp)=X) (h:X)
    (hr:RefOk env' pv') (he:Sub env' env) (hv:Sub pv' pv):AWP P N (.seq (.region id ops false) b) Q env pv hp:=AWP.seq' (AWP.rgn e h hr he hv)
end Go.HL
