/- The heaplet logic, part 3: one operation. -/
import Derived.Test.YtobechphfppffaaGreatDoorHlOps
set_option linter.unusedVariables false
set_option linter.unusedSimpArgs false
namespace Go.HL
open Go
def intAny (v:Value) (c:Int→Prop):Prop:=match v with | .int _ n=>c n | _=>False
def tupI (v:Value) (i:Nat) (c:Value→Prop):Prop:=match v with | .tuple ⟨vs⟩=>ldV vs[i]? c | _=>False
def pvCell (pv:PV) (k o:Nat):Option Value:=match pv k with | some (_,cs)=>cs[o]? | none=>none
def pvCellN (pv:PV) (k o n:Nat):Option (List Value):=match pv k with | some (_,cs)=>cellsN cs o n | none=>none
def cellsV (v:Value) (z:Nat) (c:List Value→Prop):Prop:=match v with
  | .agg ⟨cs⟩=>if cs.length=z then c cs else False
  | v=>if z=1 then c [v] else False
def fillF (place:Nat→Option (Nat × Nat)) (n:Nat) (cells:List Value):List (Nat × Value)→(List Value→Prop)→Prop
  | [],c=>c cells
  | (i,v)::rest,c=>match place i with
    | none=>False
    | some (off,size)=>cellsV v size fun vs=>if off+size≤n then fillF place n (splice cells off vs) rest c else False
def zeroT (P:Program) (t:TypeId) (c:List Value→Prop):Prop:=match P.info? t with
  | some i=>match i.zero with
    | some v=>c v.cells.toList
    | none=>False
  | none=>False
def places (P:Program) (fs:Array Field) (i:Nat):Option (Nat × Nat):=match fs[i]? with
  | some f=>match P.info? f.type with
    | some j=>some (f.offset,j.size)
    | none=>none
  | none=>none
def buildF (P:Program) (t:TypeId) (parts:List (Nat × Value)) (c:Value→Prop):Prop:=match P.underlying t with
  | some (.struct fs)=>if fs.all (fun f=>(P.info? f.type).isSome) then zeroT P t fun z=>fillF (places P fs) z.length z parts fun cs=>c (.agg ⟨cs⟩) else False
  | some (.array _ e)=>sizeT P e fun n=>zeroT P t fun z=>fillF (fun i=>some (i*n,n)) z.length z parts fun cs=>c (.agg ⟨cs⟩)
  | _=>False
def zerosL (z:List Value) (n:Nat):List Value:=(List.range n).map fun i=>z.getD (i % z.length) default
def buildSF (P:Program) (t:TypeId) (len:Nat) (parts:List (Nat × Value)) (hp:HP) (K:Value→HP→Prop):Prop:=match P.underlying t with
  | some (.slice e)=>sizeT P e fun n=>if len*n > 2 ^ 24 then False else zeroT P e fun z=>
      fillF (fun i=>some (i*n,n)) (len*n) (zerosL z (len*n)) parts fun cs=>∀ b,hp b=.none→K (.slice (some ⟨b,0,none⟩) len len) (hp.set b (.cells e cs 0))
  | _=>False
def mthF (P:Program) (t:TypeId) (name:String) (c:FuncId→Prop):Prop:=match P.info? t with
  | some i=>match i.methods.find? (·.name==name) with
    | some m=>match m.path.toList,m.func,P.underlying t with
      | [],some (f,true),some (.pointer _)=>c f
      | [],some (_,false),some (.pointer _)=>False
      | [],some (f,false),some _=>c f
      | _,_,_=>False
    | none=>False
  | none=>False
def bodied (P:Program) (f:FuncId):Bool:=match P.funcs[f]? with
  | some fn => fn.body.isSome && fn.name != "runtime.NumGoroutine"
  | none=>false
def fldFlat (P:Program) (t:TypeId) (f:Nat):Option Bool:=match P.underlying t with
  | some (.struct fs)=>match fs[f]? with
    | some fd=>flat P fd.type
    | none=>none
  | _=>none
def fldT (P:Program) (t:TypeId) (f:Nat):TypeId:=match P.underlying t with
  | some (.struct fs)=>match fs[f]? with
    | some fd=>fd.type
    | none=>0
  | _=>0
/-- A call: the callee's contract. -/
def CF (P:Program) (f:FuncId) (args:List Value) (hp:HP) (K:Value→HP→Prop):Prop:=(bodied P f=true∧AC P f args hp K) ∨
  ∀ F w0 w,Fits F w0 hp w→∃ v w' hp',(callFunc f ⟨args⟩).run P w=.ok (.value v) w'∧Fits F w0 hp' w'∧K v hp'
def sliceSF (P:Program) (t:TypeId) (x:Value) (lo hi mx:Option Value) (c:Value→Prop):Prop:=match P.underlying t,x,lo,hi,mx with
  | some .string,.string s,none,none,none=>c (.string (s.extract 0 s.size))
  | some .string,.string s,some (.int _ l),none,none=>0≤l∧l≤s.size∧c (.string (s.extract l.toNat s.size))
  | some .string,.string s,none,some (.int _ h),none=>0≤h∧h≤s.size∧c (.string (s.extract 0 h.toNat))
  | some .string,.string s,some (.int _ l),some (.int _ h),none=>0≤l∧l≤h∧h≤s.size∧c (.string (s.extract l.toNat h.toNat))
  | some (.slice e),.slice a n m,none,none,none=>sizeT P e fun _=>c (.slice a n m)
  | some (.slice e),.slice a n m,some (.int _ l),none,none=>0≤l∧l≤n∧n≤m∧sizeT P e fun z=>c (.slice (sub0 a m l.toNat z) (n-l.toNat) (m-l.toNat))
  | some (.slice e),.slice a _ m,none,some (.int _ h),none=>0≤h∧h≤m∧sizeT P e fun _=>c (.slice a h.toNat m)
  | some (.slice e),.slice a _ m,some (.int _ l),some (.int _ h),none=>0≤l∧l≤h∧h≤m∧sizeT P e fun z=>c (.slice (sub0 a m l.toNat z) (h.toNat-l.toNat) (m-l.toNat))
  | some (.slice e),.slice a _ m,none,some (.int _ h),some (.int _ x)=>0≤h∧h≤x∧x≤m∧sizeT P e fun _=>c (.slice a h.toNat x.toNat)
  | some (.slice e),.slice a _ m,some (.int _ l),some (.int _ h),some (.int _ x)=>0≤l∧l≤h∧h≤x∧x≤m∧sizeT P e fun z=>c (.slice (sub0 a x.toNat l.toNat z) (h.toNat-l.toNat) (x.toNat-l.toNat))
  | some (.array n e),.pointer a,none,none,none=>ptrN a fun b o=>sizeT P e fun _=>c (.slice (some ⟨b,o,none⟩) n n)
  | some (.array n e),.pointer a,none,some (.int _ h),none=>0≤h∧h≤n∧ptrN a fun b o=>sizeT P e fun _=>c (.slice (some ⟨b,o,none⟩) h.toNat n)
  | some (.array n e),.pointer a,some (.int _ l),none,none=>0≤l∧l≤n∧ptrN a fun b o=>sizeT P e fun z=>c (.slice (sub0 (some ⟨b,o,none⟩) n l.toNat z) (n-l.toNat) (n-l.toNat))
  | some (.array n e),.pointer a,some (.int _ l),some (.int _ h),none=>0≤l∧l≤h∧h≤n∧ptrN a fun b o=>sizeT P e fun z=>c (.slice (sub0 (some ⟨b,o,none⟩) n l.toNat z) (h.toNat-l.toNat) (n-l.toNat))
  | _,_,_,_,_=>False
def shapes:List Value→List Value→Bool
  | [],[]=>true
  | .int k _::xs,.int k' _::ys=>k==k'&&shapes xs ys
  | .bool _::xs,.bool _::ys=>shapes xs ys
  | .string _::xs,.string _::ys=>shapes xs ys
  | _,_=>false
/-- Equality of two structs or arrays. -/
def eqAgg (P:Program) (t:TypeId) (xs ys:List Value) (c:Bool→Prop):Prop:=rdS P (do Op.equal t (.agg ⟨xs⟩) (.agg ⟨ys⟩)) (fun _=>.none) c
def binF (P:Program) (op:BinOp) (t:TypeId) (x y:Operand) (a b:Value) (c:Value→Prop):Prop:=match op,a,b with
  | .add,.string a,.string b=>a.size+b.size≤9223372036854775807∧c (.string (a++b))
  | .eql,.string a,.string b=>c (.bool (a.toList==b.toList))
  | .neq,.string a,.string b=>c (.bool (!(a.toList==b.toList)))
  | .quo,.int k a,.int k' b=>if k=k' then b≠0∧c (.int k (k.wrap (a.tdiv b))) else False
  | .rem,.int k a,.int k' b=>if k=k' then b≠0∧c (.int k (a.tmod b)) else False
  | .shl,.int k a,.int _ b=>0≤b∧c (.int k (k.wrap (a*2 ^ (min b.toNat k.bits))))
  | .shr,.int k a,.int _ b=>0≤b∧c (.int k (a.fdiv (2 ^ (min b.toNat k.bits))))
  | .eql,.pointer a,.pointer none=>(match P.underlying t with | some (.pointer _)=>c (.bool a.isNone) | _=>False)
  | .neq,.pointer a,.pointer none=>(match P.underlying t with | some (.pointer _)=>c (.bool (!a.isNone)) | _=>False)
  | .eql,.map a,.map none=>(match P.underlying t with | some (.map _ _)=>c (.bool a.isNone) | _=>False)
  | .neq,.map a,.map none=>(match P.underlying t with | some (.map _ _)=>c (.bool (!a.isNone)) | _=>False)
  | .eql,.slice a _ _,.slice none _ _=>(match P.underlying t with | some (.slice _)=>c (.bool a.isNone) | _=>False)
  | .neq,.slice a _ _,.slice none _ _=>(match P.underlying t with | some (.slice _)=>c (.bool (!a.isNone)) | _=>False)
  | .eql,.agg ⟨xs⟩,.agg ⟨ys⟩=>if P.eqGuardType P.depth t then False else eqAgg P t xs ys fun r=>c (.bool r)
  | .neq,.agg ⟨xs⟩,.agg ⟨ys⟩=>if P.eqGuardType P.depth t then False else eqAgg P t xs ys fun r=>c (.bool (!r))
  | op,a,b=>semV P (do eqGuard op t x y a b; binOp op t a b) c
def lenF (P:Program) (ts:Array TypeId) (t:TypeId) (args:List Value) (hp:HP) (K:Value→Prop):Prop:=match (ts[0]?).bind P.underlying,args with
  | some (.slice _),[.slice _ n _]=>K (.int .i64 n)
  | some .string,[.string s]=>K (.int .i64 s.size)
  | some (.map _ _),[.map r]=>rdS P (Builtin.len_ ts t #[.map r]) hp fun v=>intV v .i64 fun n=>K (.int .i64 n)
  | _,_=>semV P (Builtin.len_ ts t ⟨args⟩) K
def capF (P:Program) (ts:Array TypeId) (t:TypeId) (args:List Value) (K:Value→Prop):Prop:=match (ts[0]?).bind P.underlying,args with
  | some (.slice _),[.slice _ _ m]=>K (.int .i64 m)
  | _,_=>semV P (Builtin.cap_ ts t ⟨args⟩) K
def builtinF (P:Program) (b:Builtin) (ts:Array TypeId) (t:TypeId) (args:List Value) (hp:HP) (K:Value→HP→Prop):Prop:=match b with
  | .len=>lenF P ts t args hp fun v=>K v hp
  | .cap=>capF P ts t args fun v=>K v hp
  | .min=>semV P (Builtin.min_ ts t ⟨args⟩) fun v=>K v hp
  | .max=>semV P (Builtin.max_ ts t ⟨args⟩) fun v=>K v hp
  | .append=>opS P (Builtin.append_ ts t ⟨args⟩) hp fun v hp=>slcV v fun a n m=>K (.slice a n m) hp
  | .copy=>opS P (Builtin.copy_ ts t ⟨args⟩) hp fun v hp=>intV v .i64 fun n=>K (.int .i64 n) hp
  | .clear=>opS P (Builtin.clear_ ts t ⟨args⟩) hp K
  | .delete=>opS P (Builtin.delete_ ts t ⟨args⟩) hp K
  | _=>False
/-- Does an operand name a private slot? -/
def locX (prv:List Nat) (x:Operand):Bool:=match x with | .tmp t=>prv.contains t | _=>false
def optV (ρ:Operand→Option SV) (x:Option Operand) (c:Option Value→Prop):Prop:=match x with
  | none=>c none
  | some x=>vv (ρ x) fun v=>c (some v)
def partsV (ρ:Operand→Option SV):List (Nat × Operand)→(List (Nat × Value)→Prop)→Prop
  | [],c=>c []
  | (i,x)::xs,c=>vv (ρ x) fun v=>partsV ρ xs fun vs=>c ((i,v)::vs)
def execF (P:Program) (prv:List Nat) (ρ:Operand→Option SV) (o:Oper) (pv:PV) (hp:HP) (K:SV→PV→HP→Prop):Prop:=
  match o.op with
  | .move x | .assign x=>sv (ρ x) fun s=>K s pv hp
  | .pick c a b=>vv (ρ c) fun v=>boolV v fun t=>ite2 t (sv (ρ a) fun s=>K s pv hp) (sv (ρ b) fun s=>K s pv hp)
  | .nilCheck x=>sv (ρ x) fun s=>match s with
    | .priv k off=>K (.priv k off) pv hp
    | .val (.pointer a)=>ptrN a fun b off=>K (.val (ptr b off)) pv hp
    | .val (.func (.func f) a b)=>K (.val (.func (.func f) a b)) pv hp
    | _=>False
  | .fieldAddr t x f=>fldOff P t f fun d=>sv (ρ x) fun s=>match s with
    | .priv k off=>K (.priv k (off+d)) pv hp
    | .val (.pointer a)=>ptrN a fun b off=>K (.val (ptr b (off+d))) pv hp
    | _=>False
  | .indexAddr t x ix=>vv (ρ ix) fun vi=>intAny vi fun i=>sv (ρ x) fun s=>match P.underlying t,s with
    | some (.array n e),.priv k off=>0≤i∧i<n∧sizeT P e fun z=>K (.priv k (off+i.toNat*z)) pv hp
    | some (.array n e),.val (.pointer a)=>0≤i∧i<n∧sizeT P e fun z=>ptrN a fun b off=>K (.val (ptr b (off+i.toNat*z))) pv hp
    | some (.slice e),.val (.slice a n _)=>0≤i∧i<n∧sizeT P e fun z=>ptrN a fun b off=>K (.val (ptr b (off+i.toNat*z))) pv hp
    | _,_=>False
  | .index t x ix=>vv (ρ ix) fun vi=>intAny vi fun i=>vv (ρ x) fun v=>match P.underlying t,v with
    | some .string,.string s=>0≤i∧i<s.size∧K (.val (.int .u8 (bt s i))) pv hp
    | some (.array n e),.agg ⟨cs⟩=>(match flat P e with
      | some true=>0≤i∧i<n∧sizeT P e fun z=>ldV cs[i.toNat*z]? fun u=>elim P e u fun u=>K (.val u) pv hp
      | _=>False)
    | _,_=>False
  | .field t x f=>fldOff P t f fun d=>vv (ρ x) fun v=>aggV v fun cs=>match fldFlat P t f with
    | some true=>ldV cs[d]? fun u=>elim P o.type u fun u=>K (.val u) pv hp
    | some false=>sizeT P (fldT P t f) fun z=>ldL (cellsN cs d z) fun u=>K (.val (.agg ⟨u⟩)) pv hp
    | none=>False
  | .slice t x lo hi mx=>vv (ρ x) fun v=>optV ρ lo fun lo=>optV ρ hi fun hi=>optV ρ mx fun mx=>sliceSF P t v lo hi mx fun v=>K (.val v) pv hp
  | .load t x=>sv (ρ x) fun s=>match flat P t,locX prv x,s with
    | some true,true,.priv k off=>ldV (pvCell pv k off) fun v=>elim P t v fun v=>K (.val v) pv hp
    | some true,false,.val (.pointer a)=>ptrN a fun b off=>ldV (hp.cell b off) fun v=>elim P t v fun v=>K (.val v) pv hp
    | some false,true,.priv k off=>sizeT P t fun z=>ldL (pvCellN pv k off z) fun cs=>K (.val (.agg ⟨cs⟩)) pv hp
    | some false,false,.val (.pointer a)=>ptrN a fun b off=>sizeT P t fun z=>ldL (hp.cellN b off z) fun cs=>K (.val (.agg ⟨cs⟩)) pv hp
    | _,_,_=>False
  | .store t x v=>sv (ρ x) fun s=>vv (ρ v) fun v=>match flat P t,locX prv x,s with
    | some true,true,.priv k off=>(match pv k with
      | some (e,cs)=>if one v=true then if off<cs.length then K (.val undef) (upd pv k (e,cs.set off v)) hp else False else False
      | none=>False)
    | some true,false,.val (.pointer a)=>if one v=true then ptrN a fun b off=>hp.st b off v fun hp=>K (.val undef) pv hp else False
    | some false,true,.priv k off=>sizeT P t fun z=>aggV v fun vs=>(match pv k with
      | some (e,cs)=>if vs.length=z then if vs.all one=true then if off+vs.length≤cs.length then K (.val undef) (upd pv k (e,splice cs off vs)) hp else False else False else False
      | none=>False)
    | some false,false,.val (.pointer a)=>sizeT P t fun z=>aggV v fun vs=>ptrN a fun b off=>vs.length=z∧hp.stN b off vs fun hp=>K (.val undef) pv hp
    | _,_,_=>False
  | .alloc t=>zeroT P t fun z=>match o.dst with
    | some d=>if prv.contains d then (match pv d with | none=>K (.priv d 0) (upd pv d (t,z)) hp | some _=>False) else ∀ b,hp b=.none→K (.val (ptr b 0)) pv (hp.set b (.cells t z 0))
    | none=>False
  | .box t x=>vv (ρ x) fun v=>match o.dst with
    | some d=>if prv.contains d then (match pv d with | none=>K (.priv d 0) (upd pv d (t,v.cells.toList)) hp | some _=>False) else ∀ b,hp b=.none→K (.val (ptr b 0)) pv (hp.set b (.cells t v.cells.toList 0))
    | none=>False
  | .build t parts=>partsV ρ parts.toList fun vs=>buildF P t vs fun v=>K (.val v) pv hp
  | .buildSlice t n parts=>partsV ρ parts.toList fun vs=>buildSF P t n vs hp fun v hp=>K (.val v) pv hp
  | .makeSlice t l c=>vv (ρ l) fun l=>vv (ρ c) fun c=>opS P (Instr.makeSlice t l c) hp fun v hp=>slcV v fun a n m=>K (.val (.slice a n m)) pv hp
  | .makeMap _ none=>∀ b,hp b=.none→K (.val (.map (some b))) pv (hp.set b (.obj (.map #[] 0)))
  | .mapUpdate t m k x | .insert t m k x=>vv (ρ m) fun m=>vv (ρ k) fun k=>vv (ρ x) fun x=>opS P (Instr.mapUpdate t m k x) hp fun _ hp=>K (.val undef) pv hp
  | .mapEntry t m k=>vv (ρ m) fun m=>vv (ρ k) fun k=>opS P (Instr.mapEntry t m k) hp fun v hp=>K (.val v) pv hp
  | .entryStore t m s x=>vv (ρ m) fun m=>vv (ρ s) fun s=>vv (ρ x) fun x=>opS P (Instr.entryStore t m s x) hp fun _ hp=>K (.val undef) pv hp
  | .lookup t m k ok=>vv (ρ m) fun m=>vv (ρ k) fun k=>rdS P (Instr.lookup t m k ok) hp fun v=>elim P o.type v fun v=>K (.val v) pv hp
  | .range t x=>vv (ρ x) fun v=>opS P (Instr.range t v) hp fun v hp=>K (.val v) pv hp
  | .next x s=>vv (ρ x) fun v=>opS P (Instr.next v s o.type) hp fun v hp=>K (.val v) pv hp
  | .entry x=>vv (ρ x) fun v=>rdS P (Instr.entry v) hp fun v=>K (.val v) pv hp
  | .extract x i=>vv (ρ x) fun v=>tupI v i fun u=>elim P o.type u fun u=>K (.val u) pv hp
  | .typeAssert x xt at_ ok=>vv (ρ x) fun v=>rdS P (Instr.typeAssert v xt at_ ok) hp fun v=>elim P o.type v fun v=>K (.val v) pv hp
  | .convert s d x=>vv (ρ x) fun v=>match P.underlying s,P.underlying d with
    | some (.slice _),some .string=>rdS P (convert s d v) hp fun v=>strV v fun s=>K (.val (.string s)) pv hp
    | some .string,some (.slice _)=>opS P (convert s d v) hp fun v hp=>slcV v fun a n m=>K (.val (.slice a n m)) pv hp
    | _,_=>semV P (convert s d v) fun v=>K (.val v) pv hp
  | .unOp op _ x=>vv (ρ x) fun v=>semV P (Op.unary op v) fun v=>K (.val v) pv hp
  | .binOp op t x y _=>vv (ρ x) fun a=>vv (ρ y) fun b=>binF P op t x y a b fun v=>K (.val v) pv hp
  | .makeInterface t x=>vv (ρ x) fun v=>semV P (Instr.makeInterface t v) fun v=>K (.val v) pv hp
  | .makeFunc fn first captured=>vvs (first.toList.map ρ) fun a=>vvs (captured.toList.map ρ) fun b=>K (.val (.func fn ⟨a⟩ ⟨b⟩)) pv hp
  | .call c=>match c.callee with
    | .builtin b=>vvs (c.args.toList.map ρ) fun vs=>builtinF P b c.argTypes o.type vs hp fun v hp=>K (.val v) pv hp
    | .value f=>vv (ρ f) fun fv=>vvs (c.args.toList.map ρ) fun vs=>fnV fv fun g a b=>CF P g (a++vs++b) hp fun v hp=>elim P o.type v fun v=>K (.val v) pv hp
    | .invoke r name=>vv (ρ r) fun v=>vvs (c.args.toList.map ρ) fun vs=>ifaceV v fun t x=>mthF P t name fun g=>CF P g (x::vs) hp fun v hp=>elim P o.type v fun v=>K (.val v) pv hp
  | _=>False
end Go.HL
