/- The heaplet logic, part 33: an evaluator of code over memory that is known; blocks are named by numbers of its own. -/
import Derived.Test.YtobechphfppffaaGreatDoorHlCW
import Derived.Test.YtobechphfppffaaGreatDoorHlStr
import Derived.Test.YtobechphfppffaaGreatDoorHlMid
import Derived.Test.YtobechphfppffaaGreatDoorHlMake
import Derived.Test.YtobechphfppffaaGreatDoorHlBytes
import Derived.Test.YtobechphfppffaaGreatDoorHlRangeS
import Derived.Test.YtobechphfppffaaGreatDoorHlMapE
set_option linter.unusedVariables false
set_option linter.unusedSimpArgs false
namespace Go.HL
open Go
inductive Tr (α:Type) where
  | nil
  | nd (v:Option α) (l r:Tr α)
noncomputable def Tr.get {α:Type} (t:Tr α):Nat→Option α:=
  Tr.rec (motive:=fun _=>Nat→Option α) (fun _=>none) (fun v _ _ gl gr n=>Nat.rec (motive:=fun _=>Option α) v
    (fun k _=>Nat.rec (motive:=fun _=>Option α) (gl (Nat.div k 2)) (fun _ _=>gr (Nat.div k 2)) (Nat.mod k 2)) n) t
noncomputable def Tr.put {α:Type} (x:Option α) (f:Nat):Nat→Tr α→Tr α:=
  Nat.rec (motive:=fun _=>Nat→Tr α→Tr α) (fun _ t=>t) (fun _ ih n t=>Tr.rec (motive:=fun _=>Tr α)
      (Nat.rec (motive:=fun _=>Tr α) (.nd x .nil .nil) (fun k _=>Nat.rec (motive:=fun _=>Tr α) (.nd none (ih (Nat.div k 2) .nil) .nil) (fun _ _=>.nd none .nil (ih (Nat.div k 2) .nil)) (Nat.mod k 2)) n)
      (fun v l r _ _=>Nat.rec (motive:=fun _=>Tr α) (.nd x l r) (fun k _=>Nat.rec (motive:=fun _=>Tr α) (.nd v (ih (Nat.div k 2) l) r) (fun _ _=>.nd v l (ih (Nat.div k 2) r)) (Nat.mod k 2)) n) t) f
noncomputable def Tr.set {α:Type} (t:Tr α) (n:Nat) (x:α):Tr α:=Tr.put (some x) (Nat.succ n) n t
/-! Lists, by their recursors. -/
section
variable {α β:Type}
noncomputable def lget (l:List α):Nat→Option α:=List.rec (motive:=fun _=>Nat→Option α) (fun _=>none) (fun x _ ih n=>Nat.rec (motive:=fun _=>Option α) (some x) (fun k _=>ih k) n) l
noncomputable def llen (l:List α):Nat:=List.rec (motive:=fun _=>Nat) 0 (fun _ _ ih=>Nat.succ ih) l
noncomputable def lset (v:α) (l:List α):Nat→List α:=List.rec (motive:=fun _=>Nat→List α) (fun _=>[]) (fun x xs ih n=>Nat.rec (motive:=fun _=>List α) (v::xs) (fun k _=>x::ih k) n) l
noncomputable def ltake (l:List α):Nat→List α:=List.rec (motive:=fun _=>Nat→List α) (fun _=>[]) (fun x _ ih n=>Nat.rec (motive:=fun _=>List α) [] (fun k _=>x::ih k) n) l
noncomputable def ldrop (l:List α):Nat→List α:=List.rec (motive:=fun _=>Nat→List α) (fun _=>[]) (fun x xs ih n=>Nat.rec (motive:=fun _=>List α) (x::xs) (fun k _=>ih k) n) l
noncomputable def lapp (a b:List α):List α:=List.rec (motive:=fun _=>List α) b (fun x _ ih=>x::ih) a
noncomputable def lmap (f:α→β) (l:List α):List β:=List.rec (motive:=fun _=>List β) [] (fun x _ ih=>f x::ih) l
noncomputable def lall (f:α→Bool) (l:List α):Bool:=List.rec (motive:=fun _=>Bool) true (fun x _ ih=>Bool.rec (motive:=fun _=>Bool) false ih (f x)) l
end
inductive Cp where
  | kn (c:Nat)
  | un (k:Nat)
inductive RV where
  | v (x:Value)
  | p (i off:Nat)
  | s (i off len:Nat) (cap:Cp)
  | m (i:Nat)
  | f (g:FuncId) (a b:List RV)
  | ifc (t:TypeId) (x:RV)
  | agg (cs:List RV)
  | tup (xs:List RV)
instance:Inhabited RV:=⟨.v undef⟩
inductive ES where
  | val (x:RV)
  | pr (k g off:Nat)
inductive SE where
  | cells (T:TypeId) (cs:List RV) (sp:Option Nat)
  | map (kt:TypeId) (l:List (Value × RV × Nat)) (clock:Nat)
  | obj (o:Obj)
  | row (cs:List RV)
  | dead
structure St where
  n:Nat
  h:Tr SE
abbrev EP:=Tr (Nat × Option (TypeId × List RV))
noncomputable def pvGet (pv:EP) (k g:Nat):Option (TypeId × List RV):=match pv.get k with
  | some (g',some c)=>(match Nat.beq g' g with | true=>some c | false=>none)
  | _=>none
noncomputable def pvSet (pv:EP) (k g:Nat) (c:TypeId × List RV):EP:=pv.set k (g,some c)
noncomputable def pvNew (pv:EP) (d:Nat) (c:TypeId × List RV):Option (Nat × EP):=match pv.get d with
  | none=>some (0,pv.set d (0,some c))
  | some (g,none)=>some (g,pv.set d (g,some c))
  | some (_,some _)=>none
noncomputable def pvDrop (pv:EP):List Nat→EP
  | []=>pv
  | d::ds=>match pv.get d with
    | some (g,some _)=>pvDrop (pv.set d (g+1,none)) ds
    | _=>pvDrop pv ds
abbrev EE:=Tr ES
noncomputable def pureL:List RV→Option (List Value)
  | []=>some []
  | .v x::l=>(pureL l).bind fun r=>some (x::r)
  | _=>none
noncomputable def mkAgg (l:List RV):RV:=match pureL l with
  | some vs=>.v (.agg ⟨vs⟩)
  | none=>.agg l
noncomputable def mkTup (l:List RV):RV:=match pureL l with
  | some vs=>.v (.tuple ⟨vs⟩)
  | none=>.tup l
noncomputable def vals (l:List Value):List RV:=lmap .v l
noncomputable def aggE:RV→Option (List RV)
  | .v (.agg ⟨cs⟩)=>some (vals cs)
  | .agg cs=>some cs
  | _=>none
noncomputable def tupE:RV→Option (List RV)
  | .v (.tuple ⟨cs⟩)=>some (vals cs)
  | .tup cs=>some cs
  | _=>none
noncomputable def oneE:RV→Bool
  | .v (.agg _) | .v (.tuple _) | .agg _ | .tup _=>false
  | _=>true
noncomputable def cellsE:RV→List RV
  | .v (.agg ⟨cs⟩)=>vals cs
  | .agg cs=>cs
  | x=>[x]
noncomputable def kcode:IntKind→Nat
  | .i8=>0 | .i16=>1 | .i32=>2 | .i64=>3 | .u8=>4 | .u16=>5 | .u32=>6 | .u64=>7
noncomputable def isInt (k:IntKind):RV→Bool
  | .v (.int k' _)=>Nat.beq (kcode k') (kcode k)
  | _=>false
noncomputable def isBool:RV→Bool
  | .v (.bool _)=>true
  | _=>false
noncomputable def isStr:RV→Bool
  | .v (.string _)=>true
  | _=>false
noncomputable def isPtr:RV→Bool
  | .v (.pointer _)=>true
  | .p _ _=>true
  | _=>false
noncomputable def isSlc:RV→Bool
  | .v (.slice _ _ _)=>true
  | .s _ _ _ _=>true
  | _=>false
noncomputable def isMap:RV→Bool
  | .v (.map _)=>true
  | .m _=>true
  | _=>false
noncomputable def isAgg:RV→Bool
  | .v (.agg _)=>true
  | .agg _=>true
  | _=>false
noncomputable def kindE (d:TypeDesc) (x:RV):Bool:=match d with
  | .int k=>isInt k x
  | .bool=>isBool x
  | .string=>isStr x
  | .pointer _=>isPtr x
  | .slice _=>isSlc x
  | .map _ _=>isMap x
  | .struct _=>isAgg x
  | .array _ _=>isAgg x
  | _=>true
noncomputable def kindT (P:Program) (t:TypeId) (x:RV):Bool:=match P.underlying t with
  | some d=>kindE d x
  | none=>false
noncomputable def kindL (P:Program):List TypeId→List RV→Bool
  | [],[]=>true
  | t::ts,x::xs=>kindT P t x&&kindL P ts xs
  | _,_=>false
noncomputable def elimTup (P:Program) (ts:List TypeId) (x:RV):Bool:=match ts with
  | []=>true
  | [_]=>true
  | _::_::_::_::_::_=>true
  | ts=>match tupE x with
    | some l=>kindL P ts l
    | none=>false
noncomputable def elimE (P:Program) (t:TypeId) (x:RV):Bool:=match P.underlying t with
  | some (.tuple ts)=>elimTup P ts.toList x
  | some d=>kindE d x
  | none=>true
/-! Types. -/
noncomputable def offE (P:Program) (s:TypeId) (f:Nat):Option Nat:=match P.underlying s with
  | some (.struct fs)=>match fs[f]? with
    | some fd=>match P.info? fd.type with
      | some i=>match i.size with
        | 0=>none
        | _+1=>some fd.offset
      | none=>none
    | none=>none
  | _=>none
noncomputable def sizeE (P:Program) (t:TypeId):Option Nat:=match P.info? t with
  | some i=>some i.size
  | none=>none
noncomputable def zeroE (P:Program) (t:TypeId):Option (List Value):=match P.info? t with
  | some i=>match i.zero with
    | some v=>some v.cells.toList
    | none=>none
  | none=>none
/-! Cells. -/
noncomputable def St.cellsAt (st:St) (i:Nat):Option (List RV):=match st.h.get i with
  | some (.cells _ cs _)=>some cs
  | some (.obj (.cells ⟨c⟩ _ _))=>some (vals c)
  | some (.row cs)=>some cs
  | _=>none
noncomputable def cutE (cs:List RV) (o n:Nat):Option (List RV):=match Nat.ble (o+n) (llen cs) with
  | true=>some (ltake (ldrop cs o) n)
  | false=>none
noncomputable def spliceE (cs:List RV) (o:Nat) (vs:List RV):List RV:=lapp (ltake cs o) (lapp vs (ldrop cs (o+llen vs)))
noncomputable def St.nx (st:St):Option Nat→Nat
  | some j=>j
  | none=>st.n
noncomputable def St.new (st:St) (fr:Option Nat) (e:SE):Option St:=match st.h.get (st.nx fr) with
  | none=>some ⟨match fr with | some _=>st.n | none=>Nat.succ st.n,st.h.set (st.nx fr) e⟩
  | some _=>none
noncomputable def St.upd (st:St) (i:Nat) (e:SE):St:=⟨st.n,st.h.set i e⟩
noncomputable def idxE (i:Int) (n:Nat):Option Nat:=match i with
  | .ofNat k=>(match Nat.blt k n with | true=>some k | false=>none)
  | .negSucc _=>none
/-! The model's own text, where it is not opened. -/
noncomputable def semE {α:Type} (P:Program):Sem α→Option α
  | .pure v=>some v
  | .program k=>semE P (k P)
  | _=>none
/-! Numbers. -/
noncomputable def klim:IntKind→Nat
  | .i8=>128 | .i16=>32768 | .i32=>2147483648 | .i64=>9223372036854775808 | .u8=>256 | .u16=>65536 | .u32=>4294967296 | .u64=>18446744073709551616
noncomputable def wrapE (k:IntKind) (z:Int):Int:=match z with
  | .ofNat n=>(match Nat.blt n (klim k) with | true=>.ofNat n | false=>k.wrap (.ofNat n))
  | .negSucc n=>k.wrap (.negSucc n)
noncomputable def ltE:Int→Int→Bool
  | .ofNat a,.ofNat b=>Nat.blt a b
  | .ofNat _,.negSucc _=>false
  | .negSucc _,.ofNat _=>true
  | .negSucc a,.negSucc b=>Nat.blt b a
noncomputable def ieq:Int→Int→Bool
  | .ofNat a,.ofNat b=>Nat.beq a b
  | .negSucc a,.negSucc b=>Nat.beq a b
  | _,_=>false
noncomputable def semM {α:Type} (P:Program):Sem α→Option α
  | .pure v=>some v
  | .program k=>semM P (k P)
  | .mark _ k=>semM P k
  | _=>none
noncomputable def strEq (a b:ByteArray):Bool:=go a.data.toList b.data.toList
where go:List UInt8→List UInt8→Bool
  | [],[]=>true
  | x::xs,y::ys=>match Nat.beq x.toNat y.toNat with | true=>go xs ys | false=>false
  | _,_=>false
noncomputable def strApp (a b:ByteArray):ByteArray:=⟨⟨lapp a.data.toList b.data.toList⟩⟩
noncomputable def strCut (s:ByteArray) (l h:Nat):ByteArray:=⟨⟨ltake (ldrop s.data.toList l) (h-l)⟩⟩
noncomputable def strLen (s:ByteArray):Nat:=llen s.data.toList
noncomputable def leafEq:List Value→List Value→Bool
  | [],[]=>true
  | .int k a::xs,.int k' b::ys=>(match Nat.beq (kcode k) (kcode k') with | true=>(match ieq a b with | true=>leafEq xs ys | false=>false) | false=>false)
  | .bool a::xs,.bool b::ys=>(match decide (a=b) with | true=>leafEq xs ys | false=>false)
  | .string a::xs,.string b::ys=>(match strEq a b with | true=>leafEq xs ys | false=>false)
  | _,_=>false
noncomputable def aggOk (P:Program) (t:TypeId):Bool:=decide (8≤10000)&&P.keyTypeAt 8 t&&P.tiled 8 t&&(match P.underlying t with | some (.array _ _) | some (.struct _)=>true | _=>false)
noncomputable def ptrNil (P:Program) (t:TypeId):Bool:=match P.underlying t with | some (.pointer _)=>true | _=>false
noncomputable def slcNil (P:Program) (t:TypeId):Bool:=match P.underlying t with | some (.slice _)=>true | _=>false
noncomputable def mapNil (P:Program) (t:TypeId):Bool:=match P.underlying t with | some (.map _ _)=>true | _=>false
noncomputable def semVE (P:Program) (s:Sem Value):Option RV:=(semE P s).bind fun v=>some (.v v)
noncomputable def guardE {α:Type} (b:Bool) (x:Option α):Option α:=match b with | true=>x | false=>none
noncomputable def genBin (P:Program) (op:BinOp) (t:TypeId) (x y:Operand) (a b:Value):Option RV:=semVE P (do eqGuard op t x y a b; binOp op t a b)
noncomputable def bv (b:Bool):Option RV:=some (.v (.bool b))
noncomputable def quoE (k:IntKind) (a b:Int):Option RV:=guardE (!ieq b 0) (some (.v (.int k (wrapE k (a.tdiv b)))))
noncomputable def remE (k:IntKind) (a b:Int):Option RV:=guardE (!ieq b 0) (some (.v (.int k (a.tmod b))))
noncomputable def shlE (k:IntKind) (a b:Int):Option RV:=guardE (!ltE b 0) (some (.v (.int k (wrapE k (a*Int.ofNat (Nat.pow 2 (min b.toNat k.bits)))))))
noncomputable def shrE (k:IntKind) (a b:Int):Option RV:=guardE (!ltE b 0) (some (.v (.int k (a.fdiv (Int.ofNat (Nat.pow 2 (min b.toNat k.bits)))))))
noncomputable def strBin (P:Program) (op:BinOp) (t:TypeId) (x y:Operand) (a b:ByteArray):Option RV:=match op with
  | .add=>guardE (Nat.ble (strLen a+strLen b) 9223372036854775807) (some (.v (.string (strApp a b))))
  | .eql=>bv (strEq a b)
  | .neq=>bv (!strEq a b)
  | op=>genBin P op t x y (.string a) (.string b)
noncomputable def nilBin (P:Program) (op:BinOp) (t:TypeId) (x y:Operand) (a b:Value) (ok n:Bool):Option RV:=match op with
  | .eql=>guardE ok (bv n)
  | .neq=>guardE ok (bv (!n))
  | op=>genBin P op t x y a b
noncomputable def aggBin (P:Program) (op:BinOp) (t:TypeId) (x y:Operand) (xs ys:List Value):Option RV:=match op with
  | .eql=>guardE (!P.eqGuardType P.depth t) (guardE (aggOk P t) (guardE (shaped P 8 t xs&&shaped P 8 t ys&&xs.all leafB) (bv (leafEq xs ys))))
  | .neq=>guardE (!P.eqGuardType P.depth t) (guardE (aggOk P t) (guardE (shaped P 8 t xs&&shaped P 8 t ys&&xs.all leafB) (bv (!leafEq xs ys))))
  | op=>genBin P op t x y (.agg ⟨xs⟩) (.agg ⟨ys⟩)
noncomputable def bitE (P:Program) (op:BinOp) (t:TypeId) (x y:Operand) (k:IntKind) (a b:Int) (f:Nat→Nat→Nat):Option RV:=match a,b with
  | .ofNat m,.ofNat n=>(match Nat.blt m (klim k)&&Nat.blt n (klim k) with
    | true=>some (.v (.int k (wrapE k (.ofNat (f m n)))))
    | false=>genBin P op t x y (.int k a) (.int k b))
  | a,b=>genBin P op t x y (.int k a) (.int k b)
noncomputable def intBin (P:Program) (op:BinOp) (t:TypeId) (x y:Operand) (k:IntKind) (a b:Int):Option RV:=match op with
  | .add=>some (.v (.int k (wrapE k (a+b))))
  | .sub=>some (.v (.int k (wrapE k (a-b))))
  | .mul=>some (.v (.int k (wrapE k (a*b))))
  | .eql=>bv (ieq a b)
  | .neq=>bv (!ieq a b)
  | .lss=>bv (ltE a b)
  | .leq=>bv (!ltE b a)
  | .gtr=>bv (ltE b a)
  | .geq=>bv (!ltE a b)
  | .quo=>quoE k a b
  | .rem=>remE k a b
  | .shl=>shlE k a b
  | .shr=>shrE k a b
  | .and=>bitE P .and t x y k a b Nat.land
  | .or=>bitE P .or t x y k a b Nat.lor
  | .xor=>bitE P .xor t x y k a b Nat.xor
  | op=>genBin P op t x y (.int k a) (.int k b)
noncomputable def intBin2 (op:BinOp) (k:IntKind) (a b:Int):Option RV:=match op with
  | .shl=>shlE k a b
  | .shr=>shrE k a b
  | _=>none
noncomputable def vBin (P:Program) (op:BinOp) (t:TypeId) (x y:Operand) (a b:Value):Option RV:=match a with
  | .int k n=>(match b with
    | .int k' m=>(match Nat.beq (kcode k) (kcode k') with
      | true=>intBin P op t x y k n m
      | false=>intBin2 op k n m)
    | b=>genBin P op t x y (.int k n) b)
  | .string s=>(match b with
    | .string u=>strBin P op t x y s u
    | b=>genBin P op t x y (.string s) b)
  | .pointer p=>(match b with
    | .pointer none=>nilBin P op t x y (.pointer p) (.pointer none) (ptrNil P t) p.isNone
    | b=>genBin P op t x y (.pointer p) b)
  | .map p=>(match b with
    | .map none=>nilBin P op t x y (.map p) (.map none) (mapNil P t) p.isNone
    | b=>genBin P op t x y (.map p) b)
  | .slice p n c=>(match b with
    | .slice none n' c'=>nilBin P op t x y (.slice p n c) (.slice none n' c') (slcNil P t) p.isNone
    | b=>genBin P op t x y (.slice p n c) b)
  | .agg ⟨xs⟩=>(match b with
    | .agg ⟨ys⟩=>aggBin P op t x y xs ys
    | b=>genBin P op t x y (.agg ⟨xs⟩) b)
  | a=>genBin P op t x y a b
noncomputable def refBin (op:BinOp) (ok:Bool):Option RV:=match op with
  | .eql=>guardE ok (bv false)
  | .neq=>guardE ok (bv true)
  | _=>none
noncomputable def refNil (P:Program) (op:BinOp) (t:TypeId) (a:RV) (b:Value):Option RV:=match a,b with
  | .p _ _,.pointer none=>refBin op (ptrNil P t)
  | .m _,.map none=>refBin op (mapNil P t)
  | .s _ _ _ _,.slice none _ _=>refBin op (slcNil P t)
  | _,_=>none
noncomputable def binE (P:Program) (op:BinOp) (t:TypeId) (x y:Operand) (a b:RV):Option RV:=match b with
  | .v b=>(match a with
    | .v a=>vBin P op t x y a b
    | a=>refNil P op t a b)
  | _=>none
noncomputable def intOpt (x:Option RV):Option (Option Nat):=match x with
  | none=>some none
  | some (.v (.int _ (.ofNat n)))=>some (some n)
  | _=>none
noncomputable def offC (c l off z:Nat):Nat:=match Nat.beq c l with | true=>off | false=>off+l*z
noncomputable def cutK (i off len c z:Nat) (lo hi:Option Nat):Option RV:=match lo with
  | none=>(match hi with
    | none=>some (.s i off len (.kn c))
    | some h=>guardE (Nat.ble h c) (some (.s i off h (.kn c))))
  | some l=>(match hi with
    | none=>guardE (Nat.ble l len&&Nat.ble len c) (some (.s i (offC c l off z) (len-l) (.kn (c-l))))
    | some h=>guardE (Nat.ble l h&&Nat.ble h c) (some (.s i (offC c l off z) (h-l) (.kn (c-l)))))
noncomputable def cutU (i off len k z:Nat) (lo hi:Option Nat):Option RV:=match lo with
  | none=>(match hi with
    | none=>some (.s i off len (.un k))
    | some h=>guardE (Nat.ble h len) (some (.s i off h (.un k))))
  | some l=>guardE (Nat.blt l len) (match hi with
    | none=>some (.s i (off+l*z) (len-l) (.un (k+l)))
    | some h=>guardE (Nat.ble l h&&Nat.ble h len) (some (.s i (off+l*z) (h-l) (.un (k+l)))))
noncomputable def cutM (i off c z:Nat) (lo:Option Nat) (h x:Nat):Option RV:=match lo with
  | none=>guardE (Nat.ble h x&&Nat.ble x c) (some (.s i off h (.kn x)))
  | some l=>guardE (Nat.ble l h&&Nat.ble h x&&Nat.ble x c) (some (.s i (offC x l off z) (h-l) (.kn (x-l))))
noncomputable def sliceE (P:Program) (t:TypeId) (x:RV) (lo hi mx:Option RV):Option RV:=(intOpt lo).bind fun lo=>(intOpt hi).bind fun hi=>(intOpt mx).bind fun mx=>match P.underlying t,x,mx with
  | some .string,.v (.string s),none=>guardE (Nat.ble (lo.getD 0) (hi.getD (strLen s))&&Nat.ble (hi.getD (strLen s)) (strLen s)) (some (.v (.string (strCut s (lo.getD 0) (hi.getD (strLen s))))))
  | some (.slice e),.s i off len cap,none=>(sizeE P e).bind fun z=>(match cap with
    | .kn c=>cutK i off len c z lo hi
    | .un k=>cutU i off len k z lo hi)
  | some (.slice e),.s i off len cap,some x=>(sizeE P e).bind fun z=>(match hi with
    | some h=>(match cap with
      | .kn c=>cutM i off c z lo h x
      | .un _=>cutM i off len z lo h x)
    | none=>none)
  | some (.slice e),.v (.slice none 0 0),none=>(sizeE P e).bind fun _=>guardE (Nat.beq (lo.getD 0) 0&&Nat.beq (hi.getD 0) 0) (some (.v (.slice none 0 0)))
  | some (.slice e),.v (.slice none 0 0),some 0=>(sizeE P e).bind fun _=>guardE (Nat.beq (lo.getD 0) 0&&(match hi with | some 0=>true | _=>false)) (some (.v (.slice none 0 0)))
  | some (.array n e),.p i off,none=>(sizeE P e).bind fun z=>cutK i off n n z lo hi
  | _,_,_=>none
/-! Building. -/
noncomputable def fillE (place:Nat→Option (Nat × Nat)) (n:Nat) (cells:List RV):List (Nat × RV)→Option (List RV)
  | []=>some cells
  | (i,v)::rest=>match place i with
    | none=>none
    | some (off,size)=>match Nat.beq (llen (cellsE v)) size&&(Nat.beq size 1||(aggE v).isSome)&&Nat.ble (off+size) n with
      | true=>fillE place n (spliceE cells off (cellsE v)) rest
      | false=>none
noncomputable def buildE (P:Program) (t:TypeId) (parts:List (Nat × RV)):Option RV:=match P.underlying t with
  | some (.struct fs)=>guardE (fs.all (fun f=>(P.info? f.type).isSome)) ((zeroE P t).bind fun z=>(fillE (places P fs) (llen z) (vals z) parts).bind fun cs=>some (mkAgg cs))
  | some (.array _ e)=>(sizeE P e).bind fun n=>(zeroE P t).bind fun z=>(fillE (fun i=>some (i*n,n)) (llen z) (vals z) parts).bind fun cs=>some (mkAgg cs)
  | _=>none
noncomputable def buildSE (P:Program) (t:TypeId) (len:Nat) (parts:List (Nat × RV)) (fr:Option Nat) (st:St):Option (RV × St):=match P.underlying t with
  | some (.slice e)=>(sizeE P e).bind fun n=>guardE (Nat.ble (len*n) (2 ^ 24)) ((zeroE P e).bind fun z=>
      (fillE (fun i=>some (i*n,n)) (len*n) (vals (zerosL z (len*n))) parts).bind fun cs=>(st.new fr (.cells e cs none)).bind fun st'=>some (.s (st.nx fr) 0 len (.kn len),st'))
  | _=>none
noncomputable def mthE (P:Program) (t:TypeId) (name:String):Option FuncId:=match P.info? t with
  | some i=>match i.methods.find? (·.name==name) with
    | some m=>match m.path.toList,m.func,P.underlying t with
      | [],some (f,true),some (.pointer _)=>some f
      | [],some (_,false),some (.pointer _)=>none
      | [],some (f,false),some _=>some f
      | _,_,_=>none
    | none=>none
  | none=>none
/-! Maps. -/
noncomputable def keyOk (P:Program) (kt:TypeId) (k:Value):Bool:=match k with
  | .int _ _ | .string _ | .bool _=>(match P.underlying kt,k with
    | some (.int q),.int q' _=>decide (q'=q)
    | some .string,.string _=>true
    | some .bool,.bool _=>true
    | _,_=>false)
  | .agg ⟨cs⟩=>aggOk P kt&&shaped P 8 kt cs&&cs.all leafB
  | _=>false
noncomputable def keyEq (a b:Value):Bool:=match a,b with
  | .agg ⟨xs⟩,.agg ⟨ys⟩=>leafEq xs ys
  | a,b=>leafEq [a] [b]
noncomputable def findK (k:Value):List (Value × RV × Nat)→Option (RV × Nat)
  | []=>none
  | (x,v)::l=>match keyEq k x with | true=>some v | false=>findK k l
noncomputable def putK (k:Value) (v:RV):List (Value × RV × Nat)→Option (List (Value × RV × Nat))
  | []=>none
  | (x,u,b)::l=>match keyEq k x with | true=>some ((k,v,b)::l) | false=>(putK k v l).bind fun r=>some ((x,u,b)::r)
noncomputable def putM (k:Value) (v:RV) (kt:TypeId) (l:List (Value × RV × Nat)) (c:Nat):SE:=match putK k v l with
  | some r=>.map kt r c
  | none=>.map kt (lapp l [(k,v,c)]) (Nat.succ c)
noncomputable def delK (k:Value):List (Value × RV × Nat)→List (Value × RV × Nat)
  | []=>[]
  | (x,u)::l=>match keyEq k x with | true=>l | false=>(x,u)::delK k l
noncomputable def stampK (b:Nat) (v:RV):List (Value × RV × Nat)→Option (List (Value × RV × Nat))
  | []=>none
  | (x,u,n)::l=>match Nat.beq n b with | true=>some ((x,v,n)::l) | false=>(stampK b v l).bind fun r=>some ((x,u,n)::r)
/-! Builtins. -/
noncomputable def elemsOf (P:Program) (t:TypeId):Option (TypeId × TypeInfo × List Value):=match P.underlying t with
  | some (.slice e)=>match P.info? e with
    | some i=>match i.zero with
      | some z=>guardE (Nat.beq (llen z.cells.toList) i.size&&!Nat.beq i.size 0) (some (e,i,z.cells.toList))
      | none=>none
    | none=>none
  | _=>none
noncomputable def showsE (st:St) (size:Nat) (x:RV):Option (Nat × List RV):=match x with
  | .v (.slice none 0 _)=>some (0,[])
  | .s i off len _=>match len with
    | 0=>some (0,[])
    | _+1=>(st.cellsAt i).bind fun cs=>(cutE cs off (len*size)).bind fun ys=>some (len,ys)
  | _=>none
noncomputable def appendE (P:Program) (ts:Array TypeId) (s x:RV) (fr:Option Nat) (st:St):Option (RV × St):=match ts.toList with
  | [t,tx]=>guardE (match P.underlying tx with | some (.slice _)=>true | _=>false) ((elemsOf P t).bind fun (e,i,_)=>(showsE st i.size x).bind fun (m,ys)=>guardE (lall oneE ys) (match s with
    | .v (.slice none 0 0)=>match m with
      | 0=>some (.v (.slice none 0 0),st)
      | _+1=>guardE (Nat.ble (m*i.bytes) 140737488355328&&Nat.ble m 9223372036854775807) ((st.new fr (.cells e ys (some i.size))).bind fun st'=>some (.s (st.nx fr) 0 m (.un 0),st'))
    | .s j off len (.kn c)=>match Nat.ble (len+m) c with
      | true=>guardE (Nat.beq t tx) (match st.h.get j with
        | some (.cells T cs none)=>guardE (Nat.ble (off+(len+m)*i.size) (llen cs)) (some (.s j off (len+m) (.kn c),st.upd j (.cells T (spliceE cs (off+len*i.size) ys) none)))
        | _=>none)
      | false=>(showsE st i.size s).bind fun (_,xs)=>guardE (Nat.ble ((len+m)*i.bytes) 140737488355328&&Nat.ble (len+m) 9223372036854775807) ((st.new fr (.cells e (lapp xs ys) (some i.size))).bind fun st'=>some (.s (st.nx fr) 0 (len+m) (.un 0),st'))
    | .s j off len (.un k)=>match st.h.get j with
      | some (.cells T cs (some z))=>guardE (decide (T=e)&&Nat.beq z i.size) (match Nat.beq off 0&&Nat.beq k 0&&Nat.beq (llen cs) (len*z) with
        | true=>guardE (Nat.ble ((len+m)*i.bytes) 140737488355328&&Nat.ble (len+m) 9223372036854775807) (((st.upd j .dead).new fr (.cells e (lapp cs ys) (some z))).bind fun st'=>some (.s (st.nx fr) 0 (len+m) (.un 0),st'))
        | false=>guardE (Nat.ble (off+(len+m)*z) (llen cs)&&Nat.beq t tx&&Nat.beq off (k*z)) (some (.s j off (len+m) (.un k),st.upd j (.cells T (spliceE cs (off+len*z) ys) (some z)))))
      | _=>none
    | _=>none))
  | _=>none
noncomputable def copyE (P:Program) (ts:Array TypeId) (d x:RV) (st:St):Option (RV × St):=match ts.toList with
  | [t,tx]=>guardE (Nat.beq t tx) ((elemsOf P t).bind fun (_,i,_)=>(showsE st i.size x).bind fun (m,ys)=>guardE (lall oneE ys) (match d with
    | .s j off n _=>match st.h.get j with
      | some (.cells T cs sp)=>guardE (Nat.ble (off+n*i.size) (llen cs)) (some (.v (.int .i64 (Nat.min m n:Nat)),st.upd j (.cells T (spliceE cs off (ltake ys (Nat.min m n*i.size))) sp)))
      | _=>none
    | _=>none))
  | _=>none
noncomputable def lenE (P:Program) (ts:Array TypeId) (x:RV) (st:St):Option RV:=match (ts[0]?).bind P.underlying,x with
  | some (.slice _),.v (.slice _ n _)=>some (.v (.int .i64 n))
  | some (.slice _),.s _ _ n _=>some (.v (.int .i64 n))
  | some .string,.v (.string s)=>some (.v (.int .i64 (strLen s)))
  | some (.map _ _),.v (.map none)=>some (.v (.int .i64 0))
  | some (.map _ _),.m i=>match st.h.get i with
    | some (.map _ l _)=>some (.v (.int .i64 (Int.ofNat (llen l))))
    | _=>none
  | _,_=>none
noncomputable def capE (P:Program) (ts:Array TypeId) (x:RV):Option RV:=match (ts[0]?).bind P.underlying,x with
  | some (.slice _),.v (.slice _ _ n)=>some (.v (.int .i64 n))
  | some (.slice _),.s _ _ _ (.kn c)=>some (.v (.int .i64 c))
  | _,_=>none
noncomputable def deleteE (P:Program) (ts:Array TypeId) (m k:RV) (st:St):Option (RV × St):=match ts.toList,k with
  | [mt,_],.v k=>match P.underlying mt with
    | some (.map kt _)=>guardE (keyOk P kt k) (match m with
      | .m i=>match st.h.get i with
        | some (.map kt' l c)=>guardE (Nat.beq kt kt') (some (.v (.tuple #[]),st.upd i (.map kt' (delK k l) c)))
        | _=>none
      | _=>none)
    | _=>none
  | _,_=>none
noncomputable def clearE (P:Program) (ts:Array TypeId) (x:RV) (st:St):Option (RV × St):=none
noncomputable def builtinE (P:Program) (b:Builtin) (ts:Array TypeId) (t:TypeId) (args:List RV) (fr:Option Nat) (st:St):Option (RV × St):=match b,args with
  | .len,[x]=>(lenE P ts x st).bind fun v=>some (v,st)
  | .cap,[x]=>(capE P ts x).bind fun v=>some (v,st)
  | .min,[.v (.int k a),.v (.int _ b)]=>some (.v (.int k (match ltE b a with | true=>b | false=>a)),st)
  | .max,[.v (.int k a),.v (.int _ b)]=>some (.v (.int k (match ltE a b with | true=>b | false=>a)),st)
  | .min,args=>(pureL args).bind fun vs=>(semVE P (Builtin.min_ ts t ⟨vs⟩)).bind fun v=>some (v,st)
  | .max,args=>(pureL args).bind fun vs=>(semVE P (Builtin.max_ ts t ⟨vs⟩)).bind fun v=>some (v,st)
  | .append,[s,x]=>appendE P ts s x fr st
  | .copy,[s,x]=>copyE P ts s x st
  | .delete,[m,k]=>deleteE P ts m k st
  | .clear,[x]=>clearE P ts x st
  | _,_=>none
/-! Operations. -/
section
variable (P:Program) (prv:List Nat) (call:FuncId→List RV→St→Option (RV × St)) (ρ:Operand→Option ES)
noncomputable def valE (x:Operand):Option RV:=match ρ x with | some (.val v)=>some v | _=>none
noncomputable def valsE:List Operand→Option (List RV)
  | []=>some []
  | x::xs=>(valE ρ x).bind fun v=>(valsE xs).bind fun vs=>some (v::vs)
noncomputable def optE (x:Option Operand):Option (Option RV):=match x with
  | none=>some none
  | some x=>(valE ρ x).bind fun v=>some (some v)
noncomputable def partsE:List (Nat × Operand)→Option (List (Nat × RV))
  | []=>some []
  | (i,x)::xs=>(valE ρ x).bind fun v=>(partsE xs).bind fun vs=>some ((i,v)::vs)
noncomputable def intE (x:RV):Option Int:=match x with | .v (.int _ n)=>some n | _=>none
abbrev OR:=Option (ES × EP × St)
noncomputable def okE (t:TypeId) (x:RV):Option ES:=guardE (elimE P t x) (some (.val x))
noncomputable def bytesE:List Value→Option (List UInt8)
  | []=>some []
  | .int .u8 n::l=>(bytesE l).bind fun r=>some (u8 n::r)
  | _=>none
noncomputable def exMove (x:Operand):Option ES:=(ρ x).bind fun s=>some (s)
noncomputable def exPick (c a b:Operand):Option ES:=(valE ρ c).bind fun v=>match v with
    | .v (.bool true)=>(ρ a).bind fun s=>some (s)
    | .v (.bool false)=>(ρ b).bind fun s=>some (s)
    | _=>none
noncomputable def exNilCheck (x:Operand):Option ES:=(ρ x).bind fun s=>match s with
    | .pr k g off=>some (.pr k g off)
    | .val (.p i off)=>some (.val (.p i off))
    | .val (.f g a b)=>some (.val (.f g a b))
    | _=>none
noncomputable def exFieldAddr (t:TypeId) (x:Operand) (f:Nat):Option ES:=(offE P t f).bind fun d=>(ρ x).bind fun s=>match s with
    | .pr k g off=>some (.pr k g (off+d))
    | .val (.p i off)=>some (.val (.p i (off+d)))
    | _=>none
noncomputable def exIndexAddr (t:TypeId) (x ix:Operand):Option ES:=(valE ρ ix).bind fun vi=>(intE vi).bind fun i=>(ρ x).bind fun s=>match P.underlying t,s with
    | some (.array n e),.pr k g off=>(idxE i n).bind fun j=>(sizeE P e).bind fun z=>some (.pr k g (off+j*z))
    | some (.array n e),.val (.p b off)=>(idxE i n).bind fun j=>(sizeE P e).bind fun z=>some (.val (.p b (off+j*z)))
    | some (.slice e),.val (.s b off n _)=>(idxE i n).bind fun j=>(sizeE P e).bind fun z=>some (.val (.p b (off+j*z)))
    | _,_=>none
noncomputable def exIndex (t:TypeId) (x ix:Operand):Option ES:=(valE ρ ix).bind fun vi=>(intE vi).bind fun i=>(valE ρ x).bind fun v=>match P.underlying t,v with
    | some .string,.v (.string s)=>(idxE i (strLen s)).bind fun j=>some (.val (.v (.int .u8 (((lget s.data.toList j).getD 0).toNat))))
    | some (.array n e),v=>(aggE v).bind fun cs=>match flat P e with
      | some true=>(idxE i n).bind fun j=>(sizeE P e).bind fun z=>(lget cs (j*z)).bind fun u=>okE P e u
      | _=>none
    | _,_=>none
noncomputable def exField (o:Oper) (t:TypeId) (x:Operand) (f:Nat):Option ES:=(offE P t f).bind fun d=>(valE ρ x).bind fun v=>(aggE v).bind fun cs=>match fldFlat P t f with
    | some true=>(lget cs d).bind fun u=>okE P o.type u
    | some false=>(sizeE P (fldT P t f)).bind fun z=>(cutE cs d z).bind fun u=>some (.val (mkAgg u))
    | none=>none
noncomputable def exSlice (t:TypeId) (x:Operand) (lo hi mx:Option Operand):Option ES:=(valE ρ x).bind fun v=>(optE ρ lo).bind fun lo=>(optE ρ hi).bind fun hi=>(optE ρ mx).bind fun mx=>(sliceE P t v lo hi mx).bind fun v=>some (.val v)
noncomputable def exLoad (t:TypeId) (x:Operand) (pv:EP) (st:St):Option ES:=(ρ x).bind fun s=>match flat P t,locX prv x,s with
    | some true,true,.pr k g off=>(pvGet pv k g).bind fun c=>(lget c.2 off).bind fun v=>okE P t v
    | some true,false,.val (.p i off)=>(st.cellsAt i).bind fun cs=>(lget cs off).bind fun v=>okE P t v
    | some false,true,.pr k g off=>(sizeE P t).bind fun z=>(pvGet pv k g).bind fun c=>(cutE c.2 off z).bind fun cs=>some (.val (mkAgg cs))
    | some false,false,.val (.p i off)=>(sizeE P t).bind fun z=>(st.cellsAt i).bind fun cs=>(cutE cs off z).bind fun cs=>some (.val (mkAgg cs))
    | _,_,_=>none
noncomputable def exStore (t:TypeId) (x v:Operand) (pv:EP) (st:St):OR:=(ρ x).bind fun s=>(valE ρ v).bind fun v=>match flat P t,locX prv x,s with
    | some true,true,.pr k g off=>(pvGet pv k g).bind fun c=>guardE (oneE v&&Nat.blt off (llen c.2)) (some (.val (.v undef),pvSet pv k g (c.1,lset v c.2 off),st))
    | some true,false,.val (.p i off)=>(match st.h.get i with
      | some (.cells T cs sp)=>guardE (oneE v&&Nat.blt off (llen cs)) (some (.val (.v undef),pv,st.upd i (.cells T (lset v cs off) sp)))
      | _=>none)
    | some false,true,.pr k g off=>(sizeE P t).bind fun z=>(aggE v).bind fun vs=>(pvGet pv k g).bind fun c=>
        guardE (Nat.beq (llen vs) z&&lall oneE vs&&Nat.ble (off+llen vs) (llen c.2)) (some (.val (.v undef),pvSet pv k g (c.1,spliceE c.2 off vs),st))
    | some false,false,.val (.p i off)=>(sizeE P t).bind fun z=>(aggE v).bind fun vs=>(match st.h.get i with
      | some (.cells T cs sp)=>guardE (Nat.beq (llen vs) z&&lall oneE vs&&Nat.ble (off+llen vs) (llen cs)) (some (.val (.v undef),pv,st.upd i (.cells T (spliceE cs off vs) sp)))
      | _=>none)
    | _,_,_=>none
noncomputable def exAlloc (fr:Option Nat) (o:Oper) (t:TypeId) (pv:EP) (st:St):OR:=(zeroE P t).bind fun z=>match o.dst with
    | some d=>match prv.contains d with
      | true=>(pvNew pv d (t,vals z)).bind fun r=>some (.pr d r.1 0,r.2,st)
      | false=>(st.new fr (.cells t (vals z) none)).bind fun st'=>some (.val (.p (st.nx fr) 0),pv,st')
    | none=>none
noncomputable def exBox (fr:Option Nat) (o:Oper) (t:TypeId) (x:Operand) (pv:EP) (st:St):OR:=(valE ρ x).bind fun v=>match o.dst with
    | some d=>match prv.contains d with
      | true=>(pvNew pv d (t,cellsE v)).bind fun r=>some (.pr d r.1 0,r.2,st)
      | false=>(st.new fr (.cells t (cellsE v) none)).bind fun st'=>some (.val (.p (st.nx fr) 0),pv,st')
    | none=>none
noncomputable def exBuild (t:TypeId) (parts:Array (Nat × Operand)):Option ES:=(partsE ρ parts.toList).bind fun vs=>(buildE P t vs).bind fun v=>some (.val v)
noncomputable def exBuildSlice (fr:Option Nat) (t:TypeId) (n:Nat) (parts:Array (Nat × Operand)) (pv:EP) (st:St):OR:=(partsE ρ parts.toList).bind fun vs=>(buildSE P t n vs fr st).bind fun r=>some (.val r.1,pv,r.2)
noncomputable def exMakeSlice (fr:Option Nat) (t:TypeId) (l c:Operand) (pv:EP) (st:St):OR:=(valE ρ l).bind fun l=>(valE ρ c).bind fun c=>match l,c with
    | .v (.int .i64 (.ofNat n)),.v (.int .i64 (.ofNat m))=>guardE (Nat.beq n m) ((elemsOf P t).bind fun (e,i,z)=>
        guardE (Nat.ble (i.bytes*n) 281474976710656&&Nat.ble n 9223372036854775807) ((st.new fr (.cells e (List.replicate n (vals z)).flatten none)).bind fun st'=>some (.val (.s (st.nx fr) 0 n (.kn n)),pv,st')))
    | _,_=>none
noncomputable def exMakeMap (fr:Option Nat) (t:TypeId) (pv:EP) (st:St):OR:=match P.underlying t with
  | some (.map kt _)=>(st.new fr (.map kt [] 0)).bind fun st'=>some (.val (.m (st.nx fr)),pv,st')
  | _=>none
noncomputable def exMapUpdate (t:TypeId) (m k x:Operand) (pv:EP) (st:St):OR:=(valE ρ m).bind fun m=>(valE ρ k).bind fun k=>(valE ρ x).bind fun x=>match P.underlying t,m,k with
    | some (.map kt _),.m i,.v k=>guardE (keyOk P kt k) (match st.h.get i with
      | some (.map kt' l c)=>guardE (Nat.beq kt kt') (some (.val (.v undef),pv,st.upd i (putM k x kt' l c)))
      | _=>none)
    | _,_,_=>none
noncomputable def zeroOf (t:TypeId):Option Value:=match P.info? t with
  | some i=>i.zero
  | none=>none
noncomputable def exMapEntry (t:TypeId) (m k:Operand) (pv:EP) (st:St):OR:=(valE ρ m).bind fun m=>(valE ρ k).bind fun k=>match P.underlying t,m,k with
    | some (.map kt et),.m i,.v k=>guardE (keyOk P kt k) (match st.h.get i with
      | some (.map kt' l c)=>guardE (Nat.beq kt kt') ((zeroOf P et).bind fun z=>match findK k l with
        | some (v,b)=>some (.val (mkTup [v,.v (.int .i64 b)]),pv,st)
        | none=>some (.val (mkTup [RV.v z,RV.v (.int .i64 c)]),pv,st.upd i (.map kt' (lapp l [(k,RV.v z,c)]) (Nat.succ c))))
      | _=>none)
    | _,_,_=>none
noncomputable def exEntryStore (m s x:Operand) (pv:EP) (st:St):OR:=(valE ρ m).bind fun m=>(valE ρ s).bind fun s=>(valE ρ x).bind fun x=>match m,s with
    | .m i,.v (.int _ (.ofNat b))=>(match st.h.get i with
      | some (.map kt' l c)=>(stampK b x l).bind fun l=>some (.val (.v undef),pv,st.upd i (.map kt' l c))
      | _=>none)
    | _,_=>none
noncomputable def atE (st:St) (kt:TypeId) (k:Value) (m:RV):Option (Option RV):=match m with
  | .m i=>(match st.h.get i with
    | some (.map kt' l _)=>guardE (Nat.beq kt kt') (some ((findK k l).bind fun r=>some r.1))
    | _=>none)
  | .v (.map none)=>some none
  | _=>none
noncomputable def exLookup (o:Oper) (t:TypeId) (m k:Operand) (ok:Bool) (pv:EP) (st:St):Option ES:=(valE ρ m).bind fun m=>(valE ρ k).bind fun k=>match P.underlying t,k with
    | some (.map kt et),.v k=>guardE (keyOk P kt k) ((atE st kt k m).bind fun r=>(zeroOf P et).bind fun z=>match ok with
        | true=>okE P o.type (mkTup [r.getD (.v z),.v (.bool r.isSome)])
        | false=>okE P o.type (r.getD (.v z)))
    | _,_=>none
noncomputable def exRange (fr:Option Nat) (t:TypeId) (x:Operand) (pv:EP) (st:St):OR:=(valE ρ x).bind fun v=>match P.underlying t,v with
    | some .string,.v (.string s)=>(st.new fr (.obj (.stringIter s 0))).bind fun st'=>some (.val (.p (st.nx fr) 0),pv,st')
    | _,_=>none
noncomputable def exNext (x:Operand) (pv:EP) (st:St):OR:=(valE ρ x).bind fun v=>match v with
    | .p i 0=>(match st.h.get i with
      | some (.obj (.stringIter s pos))=>match Nat.blt pos (strLen s) with
        | true=>some (.val (.v (.tuple #[.bool true,.int .i64 pos,.int .i32 (Utf8.decode s pos).1])),pv,st.upd i (.obj (.stringIter s (pos+(Utf8.decode s pos).2))))
        | false=>some (.val (.v (.tuple #[.bool false])),pv,st)
      | _=>none)
    | _=>none
noncomputable def exExtract (o:Oper) (x:Operand) (i:Nat):Option ES:=(valE ρ x).bind fun v=>(tupE v).bind fun vs=>(lget vs i).bind fun u=>okE P o.type u
noncomputable def exTypeAssert (o:Oper) (x:Operand) (xt at_:TypeId) (ok:Bool):Option ES:=(valE ρ x).bind fun v=>match v with
    | .v v=>(semVE P (Instr.typeAssert v xt at_ ok)).bind fun v=>okE P o.type v
    | _=>none
noncomputable def exConvert (fr:Option Nat) (s d:TypeId) (x:Operand) (pv:EP) (st:St):OR:=(valE ρ x).bind fun v=>match P.underlying s,P.underlying d with
    | some (.slice e),some .string=>(match v with
      | .s i off n _=>guardE (match P.underlying e with | some (.int .u8)=>true | _=>false) ((st.cellsAt i).bind fun cs=>(cutE cs off n).bind fun cs=>(pureL cs).bind fun vs=>(bytesE vs).bind fun bs=>some (.val (.v (.string ⟨⟨bs⟩⟩)),pv,st))
      | _=>none)
    | some .string,some (.slice e)=>(match v with
      | .v (.string s)=>guardE (match P.underlying e with | some (.int .u8)=>(match P.info? e with | some i=>Nat.beq i.size 1 | none=>false) | _=>false) ((st.new fr (.row (lmap (fun b=>.v (.int .u8 b.toNat)) s.data.toList))).bind fun st'=>some (.val (.s (st.nx fr) 0 (strLen s) (.un 0)),pv,st'))
      | _=>none)
    | _,_=>match v with
      | .v v=>(semVE P (convert s d v)).bind fun v=>some (.val v,pv,st)
      | _=>none
noncomputable def exUnOp (op:UnOp) (x:Operand):Option ES:=(valE ρ x).bind fun v=>match v with
    | .v v=>(semVE P (Op.unary op v)).bind fun v=>some (.val v)
    | _=>none
noncomputable def exBinOp (op:BinOp) (t:TypeId) (x y:Operand):Option ES:=(valE ρ x).bind fun a=>(valE ρ y).bind fun b=>(binE P op t x y a b).bind fun v=>some (.val v)
noncomputable def exMakeInterface (t:TypeId) (x:Operand):Option ES:=(valE ρ x).bind fun v=>match v with
    | .v v=>(semVE P (Instr.makeInterface t v)).bind fun v=>some (.val v)
    | v=>(semE P (Instr.makeInterface t undef)).bind fun _=>some (.val (.ifc t v))
noncomputable def exMakeFunc (g:FuncId) (first captured:Array Operand):Option ES:=(valsE ρ first.toList).bind fun a=>(valsE ρ captured.toList).bind fun b=>some (.val (.f g a b))
noncomputable def exCall (fr:Option Nat) (o:Oper) (c:Call) (pv:EP) (st:St):OR:=match c.callee with
    | .builtin b=>(valsE ρ c.args.toList).bind fun vs=>(builtinE P b c.argTypes o.type vs fr st).bind fun r=>some (.val r.1,pv,r.2)
    | .value f=>(valE ρ f).bind fun fv=>(valsE ρ c.args.toList).bind fun vs=>match fv with
      | .f g a b=>(call g (lapp a (lapp vs b)) st).bind fun r=>((okE P o.type r.1).bind fun v=>some (v,pv,r.2))
      | _=>none
    | .invoke r name=>(valE ρ r).bind fun v=>(valsE ρ c.args.toList).bind fun vs=>match v with
      | .ifc t x=>(mthE P t name).bind fun g=>(call g (x::vs) st).bind fun r=>((okE P o.type r.1).bind fun v=>some (v,pv,r.2))
      | _=>none
noncomputable def execE (fr:Option Nat) (o:Oper) (pv:EP) (st:St) {R:Type} (k:ES→EP→St→Option R):Option R:=match o.op with
  | .move x=>(exMove ρ x).bind fun s=>k s pv st
  | .assign x=>(exMove ρ x).bind fun s=>k s pv st
  | .pick c a b=>(exPick ρ c a b).bind fun s=>k s pv st
  | .nilCheck x=>(exNilCheck ρ x).bind fun s=>k s pv st
  | .fieldAddr t x f=>(exFieldAddr P ρ t x f).bind fun s=>k s pv st
  | .indexAddr t x ix=>(exIndexAddr P ρ t x ix).bind fun s=>k s pv st
  | .index t x ix=>(exIndex P ρ t x ix).bind fun s=>k s pv st
  | .field t x f=>(exField P ρ o t x f).bind fun s=>k s pv st
  | .slice t x lo hi mx=>(exSlice P ρ t x lo hi mx).bind fun s=>k s pv st
  | .load t x=>(exLoad P prv ρ t x pv st).bind fun s=>k s pv st
  | .store t x v=>(exStore P prv ρ t x v pv st).bind fun r=>k r.1 r.2.1 r.2.2
  | .alloc t=>(exAlloc P prv fr o t pv st).bind fun r=>k r.1 r.2.1 r.2.2
  | .box t x=>(exBox prv ρ fr o t x pv st).bind fun r=>k r.1 r.2.1 r.2.2
  | .build t parts=>(exBuild P ρ t parts).bind fun s=>k s pv st
  | .buildSlice t n parts=>(exBuildSlice P ρ fr t n parts pv st).bind fun r=>k r.1 r.2.1 r.2.2
  | .makeSlice t l c=>(exMakeSlice P ρ fr t l c pv st).bind fun r=>k r.1 r.2.1 r.2.2
  | .makeMap t none=>(exMakeMap P fr t pv st).bind fun r=>k r.1 r.2.1 r.2.2
  | .mapUpdate t m q x=>(exMapUpdate P ρ t m q x pv st).bind fun r=>k r.1 r.2.1 r.2.2
  | .insert t m q x=>(exMapUpdate P ρ t m q x pv st).bind fun r=>k r.1 r.2.1 r.2.2
  | .mapEntry t m q=>(exMapEntry P ρ t m q pv st).bind fun r=>k r.1 r.2.1 r.2.2
  | .entryStore _ m s x=>(exEntryStore ρ m s x pv st).bind fun r=>k r.1 r.2.1 r.2.2
  | .lookup t m q ok=>(exLookup P ρ o t m q ok pv st).bind fun s=>k s pv st
  | .range t x=>(exRange P ρ fr t x pv st).bind fun r=>k r.1 r.2.1 r.2.2
  | .next x true=>(exNext ρ x pv st).bind fun r=>k r.1 r.2.1 r.2.2
  | .extract x i=>(exExtract P ρ o x i).bind fun s=>k s pv st
  | .typeAssert x xt at_ ok=>(exTypeAssert P ρ o x xt at_ ok).bind fun s=>k s pv st
  | .convert s d x=>(exConvert P ρ fr s d x pv st).bind fun r=>k r.1 r.2.1 r.2.2
  | .unOp op _ x=>(exUnOp P ρ op x).bind fun s=>k s pv st
  | .binOp op t x y _=>(exBinOp P ρ op t x y).bind fun s=>k s pv st
  | .makeInterface t x=>(exMakeInterface P ρ t x).bind fun s=>k s pv st
  | .makeFunc (.func g) first captured=>(exMakeFunc ρ g first captured).bind fun s=>k s pv st
  | .call c=>(exCall P call ρ fr o c pv st).bind fun r=>k r.1 r.2.1 r.2.2
  | _=>none
end
/-! Are two states the same? -/
noncomputable def vEq:Nat→Value→Value→Bool
  | 0,_,_=>false
  | _+1,.int k a,.int k' b=>Nat.beq (kcode k) (kcode k')&&ieq a b
  | _+1,.bool a,.bool b=>decide (a=b)
  | _+1,.string a,.string b=>strEq a b
  | _+1,.pointer none,.pointer none=>true
  | _+1,.slice none n c,.slice none n' c'=>Nat.beq n n'&&Nat.beq c c'
  | _+1,.map none,.map none=>true
  | _+1,.nilIface,.nilIface=>true
  | _+1,.nilFunc,.nilFunc=>true
  | f+1,.iface t x,.iface t' y=>Nat.beq t t'&&vEq f x y
  | f+1,.agg ⟨xs⟩,.agg ⟨ys⟩=>lsEq (vEq f) xs ys
  | f+1,.tuple ⟨xs⟩,.tuple ⟨ys⟩=>lsEq (vEq f) xs ys
  | _,_,_=>false
where lsEq (e:Value→Value→Bool):List Value→List Value→Bool
  | [],[]=>true
  | x::xs,y::ys=>match e x y with | true=>lsEq e xs ys | false=>false
  | _,_=>false
noncomputable def cpEq:Cp→Cp→Bool
  | .kn a,.kn b=>Nat.beq a b
  | .un a,.un b=>Nat.beq a b
  | _,_=>false
noncomputable def rEq:Nat→RV→RV→Bool
  | 0,_,_=>false
  | _+1,.v x,.v y=>vEq 8 x y
  | _+1,.p i o,.p j o'=>Nat.beq i j&&Nat.beq o o'
  | _+1,.s i o l c,.s j o' l' c'=>Nat.beq i j&&Nat.beq o o'&&Nat.beq l l'&&cpEq c c'
  | _+1,.m i,.m j=>Nat.beq i j
  | f+1,.f g a b,.f g' a' b'=>Nat.beq g g'&&lsEq (rEq f) a a'&&lsEq (rEq f) b b'
  | f+1,.ifc t x,.ifc t' y=>Nat.beq t t'&&rEq f x y
  | f+1,.agg xs,.agg ys=>lsEq (rEq f) xs ys
  | f+1,.tup xs,.tup ys=>lsEq (rEq f) xs ys
  | _,_,_=>false
where lsEq (e:RV→RV→Bool):List RV→List RV→Bool
  | [],[]=>true
  | x::xs,y::ys=>match e x y with | true=>lsEq e xs ys | false=>false
  | _,_=>false
noncomputable def rsEq:List RV→List RV→Bool:=rEq.lsEq (rEq 8)
noncomputable def esEq:ES→ES→Bool
  | .val x,.val y=>rEq 8 x y
  | .pr k g o,.pr k' g' o'=>Nat.beq k k'&&Nat.beq g g'&&Nat.beq o o'
  | _,_=>false
noncomputable def kvEq:List (Value × RV × Nat)→List (Value × RV × Nat)→Bool
  | [],[]=>true
  | (k,v,b)::l,(k',v',b')::l'=>vEq 8 k k'&&rEq 8 v v'&&Nat.beq b b'&&kvEq l l'
  | _,_=>false
noncomputable def seEq:SE→SE→Bool
  | .cells T cs sp,.cells T' cs' sp'=>Nat.beq T T'&&rsEq cs cs'&&decide (sp=sp')
  | .map kt l c,.map kt' l' c'=>Nat.beq kt kt'&&kvEq l l'&&Nat.beq c c'
  | .obj (.stringIter s n),.obj (.stringIter s' n')=>strEq s s'&&Nat.beq n n'
  | .row cs,.row cs'=>rsEq cs cs'
  | .dead,.dead=>true
  | _,_=>false
noncomputable def opEq {α:Type} (e:α→α→Bool):Option α→Option α→Bool
  | none,none=>true
  | some x,some y=>e x y
  | _,_=>false
noncomputable def trEq {α:Type} (e:α→α→Bool):Tr α→Tr α→Bool
  | .nil,.nil=>true
  | .nd v l r,.nd v' l' r'=>opEq e v v'&&trEq e l l'&&trEq e r r'
  | _,_=>false
noncomputable def dstsOf (ops:Array Oper):List Tmp:=ops.toList.filterMap (·.dst)
noncomputable def newsOf (ops:Array Oper):List Tmp:=ops.toList.filterMap fun o=>match o.op with
  | .alloc _ | .box _ _=>o.dst
  | _=>none
noncomputable def sameR (ds:List Tmp) (r r':EE × EP × St):Bool:=(ds.all fun d=>opEq esEq (r.1.get d) (r'.1.get d)) &&
  trEq (fun x y=>Nat.beq x.1 y.1&&opEq (fun x y=>Nat.beq x.1 y.1&&rsEq x.2 y.2) x.2 y.2) r.2.1 r'.2.1&&Nat.beq r.2.2.n r'.2.2.n&&trEq seEq r.2.2.h r'.2.2.h
/-! Code. -/
section
variable (P:Program) (N:Nat) (prv:List Nat) (ct:List (Nat × List (Nat × Nat) × List (List Bool × Bool × List Nat))) (gl:Nat→Option Nat) (call:FuncId→List RV→St→Option (RV × St))
noncomputable def tmpE (env:EE) (pv:EP) (t:Tmp):Option ES:=match env.get t with
  | some (.pr k g o)=>(pvGet pv k g).bind fun _=>some (.pr k g o)
  | x=>x
noncomputable def opE (env:EE) (pv:EP):Operand→Option ES
  | .tmp t=>tmpE env pv t
  | .const v=>some (.val (.v v))
  | .global g=>(gl g).bind fun i=>some (.val (.p i 0))
  | .func f=>some (.val (.f f [] []))
noncomputable def gdE (ops:Array Oper) (env:EE) (o:Oper):Option Bool:=match o.guard with
  | none=>some true
  | some (j,want)=>match (ops[j]?).bind (·.dst) with
    | some d=>match env.get d with
      | some (.val (.v (.bool b)))=>some (b==want)
      | some (.val (.v (.tuple _)))=>some false
      | _=>none
    | none=>none
noncomputable def putE (env:EE) (d:Option Tmp) (s:ES):EE:=match d with
  | some d=>env.set d s
  | none=>env
noncomputable def doE {R:Type} (fr:Option Nat) (ops:Array Oper) (o:Oper) (env:EE) (pv:EP) (st:St) (k:EE→EP→St→Option R):Option R:=match gdE ops env o with
  | some true=>execE P prv call (opE gl env pv) fr o pv st fun s pv st=>k (putE env o.dst s) pv st
  | some false=>k (putE env o.dst (.val (.v undef))) pv st
  | none=>none
noncomputable def regL {R:Type} (ops:Array Oper) (k:EE→EP→St→Option R) (l:List Oper):EE→EP→St→Option R:=
  List.rec (motive:=fun _=>EE→EP→St→Option R) k (fun o _ ih env pv st=>doE P prv gl call none ops o env pv st ih) l
noncomputable def regE (b:Nat) (ops:Array Oper):List Nat→EE→EP→St→Option (EE × EP × St)
  | [],env,pv,st=>some (env,pv,st)
  | i::l,env,pv,st=>match ops[i]? with
    | some o=>doE P prv gl call (some (b+i)) ops o env pv st (regE b ops l)
    | none=>none
noncomputable def ordsOf:List (List Bool × Bool × List Nat)→List (List Nat)
  | []=>[]
  | (_,false,_)::c=>ordsOf c
  | (_,true,l)::c=>l::ordsOf c
noncomputable def regsE (ops:Array Oper) (ls:List (List Nat)) (env:EE) (pv:EP) (st:St):Option (EE × EP × St):=match ls with
  | []=>none
  | l::ls=>(regE P prv gl call st.n ops l env pv ⟨st.n+ops.size,st.h⟩).bind fun r=>guardE (ls.all fun l=>match regE P prv gl call st.n ops l env pv ⟨st.n+ops.size,st.h⟩ with
    | some r'=>sameR (dstsOf ops) r r'
    | none=>false) (some r)
noncomputable def okC:Code→Bool
  | .seq a b | .cond _ a b=>okC a&&okC b
  | .block _ a | .loop a=>okC a
  | .region id ops dr=>ops.all (dstOk N)&&(match dr with
    | false=>true
    | true=>match ct.lookup id with
      | some (cf,c)=>certOk P prv ops cf c
      | none=>certOk P prv ops [] [([],true,List.range ops.size)])
  | _=>true
section
variable {R:Type} (rc:Code→EE→EP→St→(Ex→EE→EP→St→Option R)→Option R)
noncomputable def evSeq (b:Code) (k:Ex→EE→EP→St→Option R) (x:Ex) (env:EE) (pv:EP) (st:St):Option R:=match x with
  | .normal=>rc b env pv st k
  | x=>k x env pv st
noncomputable def evCondT (t:Tmp) (a b:Code) (env:EE) (pv:EP) (st:St) (k:Ex→EE→EP→St→Option R):Option R:=match env.get t with
  | some (.val (.v (.bool true)))=>rc a env pv st k
  | some (.val (.v (.bool false)))=>rc b env pv st k
  | _=>none
noncomputable def evCond (o:Operand) (a b:Code) (env:EE) (pv:EP) (st:St) (k:Ex→EE→EP→St→Option R):Option R:=match o with
  | .tmp t=>evCondT rc t a b env pv st k
  | .const (.bool true)=>rc a env pv st k
  | .const (.bool false)=>rc b env pv st k
  | _=>none
noncomputable def evBlock (id:Nat) (k:Ex→EE→EP→St→Option R) (x:Ex) (env:EE) (pv:EP) (st:St):Option R:=match x with
  | .exit id'=>(match Nat.beq id' id with
    | true=>k .normal env pv st
    | false=>k (.exit id') env pv st)
  | x=>k x env pv st
noncomputable def evReg (id:Nat) (ops:Array Oper) (dr:Bool) (env:EE) (pv:EP) (st:St) (k:EE→EP→St→Option R):Option R:=match dr with
  | false=>regL P prv gl call ops k ops.toList env pv st
  | true=>match ct.lookup id with
    | none=>regL P prv gl call ops k ops.toList env pv st
    | some (_,c)=>(regsE P prv gl call ops (ordsOf c) env pv st).bind fun r=>k r.1 r.2.1 r.2.2
noncomputable def evStep (c:Code) (env:EE) (pv:EP) (st:St) (k:Ex→EE→EP→St→Option R):Option R:=match c with
  | .skip=>k .normal env pv st
  | .ret=>k .ret env pv st
  | .exit id=>k (.exit id) env pv st
  | .seq a b=>rc a env pv st (evSeq rc b k)
  | .cond o a b=>evCond rc o a b env pv st k
  | .block id a=>rc a env pv st (evBlock id k)
  | .region id ops dr=>evReg P prv ct gl call id ops dr env (pvDrop pv (newsOf ops)) st (k .normal)
  | .loop a=>rc a env pv st (evSeq rc (.loop a) k)
  | _=>none
end
noncomputable def evC {R:Type} (f:Nat):Code→EE→EP→St→(Ex→EE→EP→St→Option R)→Option R:=
  Nat.rec (motive:=fun _=>Code→EE→EP→St→(Ex→EE→EP→St→Option R)→Option R) (fun _ _ _ _ _=>none) (fun _ ih c env pv st k=>evStep P prv ct gl call ih c env pv st k) f
noncomputable def resE (env:EE) (pv:EP) (st:St):List ResultVar→Option (List RV)
  | []=>some []
  | .tmp t::rs=>match env.get t with
    | some (.val v)=>(resE env pv st rs).bind fun vs=>some (v::vs)
    | _=>none
  | .cell a t::rs=>match env.get a with
    | some (.pr k g off)=>(match flat P t with
      | some true=>(pvGet pv k g).bind fun c=>(lget c.2 off).bind fun v=>(resE env pv st rs).bind fun vs=>some (v::vs)
      | some false=>(sizeE P t).bind fun z=>(pvGet pv k g).bind fun c=>(cutE c.2 off z).bind fun cs=>(resE env pv st rs).bind fun vs=>some (mkAgg cs::vs)
      | none=>none)
    | some (.val (.p i off))=>(match flat P t with
      | some true=>(st.cellsAt i).bind fun cs=>(lget cs off).bind fun v=>(resE env pv st rs).bind fun vs=>some (v::vs)
      | some false=>(sizeE P t).bind fun z=>(st.cellsAt i).bind fun cs=>(cutE cs off z).bind fun cs=>(resE env pv st rs).bind fun vs=>some (mkAgg cs::vs)
      | none=>none)
    | _=>none
noncomputable def argTr:List RV→Nat→EE→EE
  | [],_,t=>t
  | v::l,i,t=>argTr l (i+1) (t.set i (.val v))
end
structure FT where
  fn:Func
  prv:List Nat
  ct:List (Nat × List (Nat × Nat) × List (List Bool × Bool × List Nat))
abbrev Tab:=Nat→Option FT
section
variable (P:Program) (tab:Tab) (gl:Nat→Option Nat) (orc:FuncId→List RV→St→Option (RV × St)) (call:FuncId→List RV→St→Option (RV × St))
noncomputable def evRes1 (vs:List RV) (st:St):Option (RV × St):=match vs with
  | [v]=>some (v,st)
  | vs=>some (mkTup vs,st)
noncomputable def evRes (rs:List ResultVar) (x:Ex) (env:EE) (pv:EP) (st:St):Option (RV × St):=match x with
  | .exit _=>none
  | _=>(resE P env pv st rs).bind fun vs=>evRes1 vs st
noncomputable def evBody (x:FT) (c:Code) (args:List RV) (st:St):Option (RV × St):=guardE (Nat.ble (llen args) x.fn.ntmps)
  (evC P x.prv x.ct gl call 1000000 c (argTr args 0 .nil) .nil st (evRes P x.fn.results.toList))
noncomputable def evExt (g:FuncId) (args:List RV) (st:St):Option (RV × St):=(pureL args).bind fun vs=>match semM P (callFunc g ⟨vs⟩) with
  | some (.value v)=>some (.v v,st)
  | _=>none
noncomputable def evFn (g:FuncId) (args:List RV) (st:St):Option (RV × St):=match tab g with
  | some x=>(match x.fn.body with
    | some c=>evBody P gl call x c args st
    | none=>evExt P g args st)
  | none=>none
noncomputable def evCall (g:FuncId) (args:List RV) (st:St):Option (RV × St):=match orc g args st with
  | some r=>some r
  | none=>evFn P tab gl call g args st
noncomputable def evF (f:Nat):FuncId→List RV→St→Option (RV × St):=
  Nat.rec (motive:=fun _=>FuncId→List RV→St→Option (RV × St)) (fun _ _ _=>none) (fun _ ih g args st=>evCall P tab gl orc ih g args st) f
end
end Go.HL
