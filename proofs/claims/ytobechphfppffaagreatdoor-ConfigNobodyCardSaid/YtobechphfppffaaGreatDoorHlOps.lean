/- The heaplet logic, part 2: what one operation asks for, as a formula; the formula of a region. -/
import Derived.Test.YtobechphfppffaaGreatDoorHlCore
set_option linter.unusedVariables false
set_option linter.unusedSimpArgs false
namespace Go.HL
open Go
abbrev ptr (b o:Nat):Value:=.pointer (some ⟨b,o,none⟩)
def ite2 (b:Bool) (x y:Prop):Prop:=match b with | true=>x | false=>y
/-! Values of a known kind. -/
def intV (v:Value) (k:IntKind) (c:Int→Prop):Prop:=match v with | .int k' n=>if k'=k then c n else False | _=>False
def boolV (v:Value) (c:Bool→Prop):Prop:=match v with | .bool b=>c b | _=>False
def strV (v:Value) (c:ByteArray→Prop):Prop:=match v with | .string s=>c s | _=>False
def ptrV (v:Value) (c:Option Addr→Prop):Prop:=match v with | .pointer a=>c a | _=>False
def slcV (v:Value) (c:Option Addr→Nat→Nat→Prop):Prop:=match v with | .slice a n m=>c a n m | _=>False
def mapV (v:Value) (c:Option Nat→Prop):Prop:=match v with | .map r=>c r | _=>False
def aggV (v:Value) (c:List Value→Prop):Prop:=match v with | .agg ⟨cs⟩=>c cs | _=>False
def tup2V (v:Value) (c:Value→Value→Prop):Prop:=match v with | .tuple ⟨[a,b]⟩=>c a b | _=>False
def tup3V (v:Value) (c:Value→Value→Value→Prop):Prop:=match v with | .tuple ⟨[a,b,d]⟩=>c a b d | _=>False
def tup4V (v:Value) (c:Value→Value→Value→Value→Prop):Prop:=match v with | .tuple ⟨[a,b,d,e]⟩=>c a b d e | _=>False
def ifaceV (v:Value) (c:TypeId→Value→Prop):Prop:=match v with | .iface t x=>c t x | _=>False
def fnV (v:Value) (c:FuncId→List Value→List Value→Prop):Prop:=match v with | .func (.func f) ⟨a⟩ ⟨b⟩=>c f a b | _=>False
def ptrN (a:Option Addr) (c:Nat→Nat→Prop):Prop:=match a with | some ⟨b,o,none⟩=>c b o | _=>False
def ldV (v:Option Value) (c:Value→Prop):Prop:=match v with | some v=>c v | none=>False
def ldL (v:Option (List Value)) (c:List Value→Prop):Prop:=match v with | some v=>c v | none=>False
def elimD (d:TypeDesc) (v:Value) (c:Value→Prop):Prop:=match d with
  | .int k=>intV v k fun n=>c (.int k n)
  | .bool=>boolV v fun b=>c (.bool b)
  | .string=>strV v fun s=>c (.string s)
  | .pointer _=>ptrV v fun a=>c (.pointer a)
  | .slice _=>slcV v fun a n m=>c (.slice a n m)
  | .map _ _=>mapV v fun r=>c (.map r)
  | .struct _ | .array _ _=>aggV v fun cs=>c (.agg ⟨cs⟩)
  | _=>c v
def elim (P:Program) (t:TypeId) (v:Value) (c:Value→Prop):Prop:=match P.underlying t with
  | some (.tuple ⟨[t1,t2]⟩)=>tup2V v fun a b=>match P.underlying t1,P.underlying t2 with
    | some d1,some d2=>elimD d1 a fun a=>elimD d2 b fun b=>c (.tuple ⟨[a,b]⟩)
    | _,_=>False
  | some (.tuple ⟨[t1,t2,t3]⟩)=>tup3V v fun a b e=>match P.underlying t1,P.underlying t2,P.underlying t3 with
    | some d1,some d2,some d3=>elimD d1 a fun a=>elimD d2 b fun b=>elimD d3 e fun e=>c (.tuple ⟨[a,b,e]⟩)
    | _,_,_=>False
  | some (.tuple ⟨[t1,t2,t3,t4]⟩)=>tup4V v fun a b e f=>match P.underlying t1,P.underlying t2,P.underlying t3,P.underlying t4 with
    | some d1,some d2,some d3,some d4=>elimD d1 a fun a=>elimD d2 b fun b=>elimD d3 e fun e=>elimD d4 f fun f=>c (.tuple ⟨[a,b,e,f]⟩)
    | _,_,_,_=>False
  | some d=>elimD d v c
  | none=>c v
section
variable {v:Value}
theorem intV_elim {k c} (h:intV v k c):∃ n,v=.int k n∧c n:=by
  cases v <;> simp only [intV] at h <;> first | exact h.elim | skip
  split at h
  · rename_i e; subst e; exact ⟨_,rfl,h⟩
  · exact h.elim
theorem boolV_elim {c} (h:boolV v c):∃ n,v=.bool n∧c n:=by
  cases v <;> simp only [boolV] at h <;> first | exact h.elim | exact ⟨_,rfl,h⟩
theorem strV_elim {c} (h:strV v c):∃ n,v=.string n∧c n:=by
  cases v <;> simp only [strV] at h <;> first | exact h.elim | exact ⟨_,rfl,h⟩
theorem ptrV_elim {c} (h:ptrV v c):∃ n,v=.pointer n∧c n:=by
  cases v <;> simp only [ptrV] at h <;> first | exact h.elim | exact ⟨_,rfl,h⟩
theorem slcV_elim {c} (h:slcV v c):∃ a n m,v=.slice a n m∧c a n m:=by
  cases v <;> simp only [slcV] at h <;> first | exact h.elim | exact ⟨_,_,_,rfl,h⟩
theorem mapV_elim {c} (h:mapV v c):∃ n,v=.map n∧c n:=by
  cases v <;> simp only [mapV] at h <;> first | exact h.elim | exact ⟨_,rfl,h⟩
theorem aggV_elim {c} (h:aggV v c):∃ n,v=.agg ⟨n⟩∧c n:=by
  cases v <;> simp only [aggV] at h <;> first | exact h.elim | exact ⟨_,rfl,h⟩
theorem ifaceV_elim {c} (h:ifaceV v c):∃ t x,v=.iface t x∧c t x:=by
  cases v <;> simp only [ifaceV] at h <;> first | exact h.elim | exact ⟨_,_,rfl,h⟩
theorem tup2V_elim {c} (h:tup2V v c):∃ a b,v=.tuple ⟨[a,b]⟩∧c a b:=by
  unfold tup2V at h; split at h
  · exact ⟨_,_,rfl,h⟩
  · exact h.elim
theorem tup3V_elim {c} (h:tup3V v c):∃ a b d,v=.tuple ⟨[a,b,d]⟩∧c a b d:=by
  unfold tup3V at h; split at h
  · exact ⟨_,_,_,rfl,h⟩
  · exact h.elim
theorem tup4V_elim {c} (h:tup4V v c):∃ a b d e,v=.tuple ⟨[a,b,d,e]⟩∧c a b d e:=by
  unfold tup4V at h; split at h
  · exact ⟨_,_,_,_,rfl,h⟩
  · exact h.elim
theorem fnV_elim {c} (h:fnV v c):∃ f a b,v=.func (.func f) ⟨a⟩ ⟨b⟩∧c f a b:=by
  unfold fnV at h; split at h
  · exact ⟨_,_,_,rfl,h⟩
  · exact h.elim
theorem ptrN_elim {a c} (h:ptrN a c):∃ b o,a=some ⟨b,o,none⟩∧c b o:=by
  unfold ptrN at h; split at h
  · exact ⟨_,_,rfl,h⟩
  · exact h.elim
theorem ldV_elim {x c} (h:ldV x c):∃ v,x=some v∧c v:=by
  cases x with
  | none=>exact h.elim
  | some v=>exact ⟨v,rfl,h⟩
theorem ldL_elim {x c} (h:ldL x c):∃ v,x=some v∧c v:=by
  cases x with
  | none=>exact h.elim
  | some v=>exact ⟨v,rfl,h⟩
theorem elimD_elim {d c} (h:elimD d v c):c v:=by
  cases d <;> simp only [elimD] at h <;> first
    | exact h
    | (obtain ⟨_,e,k⟩:=intV_elim h; rw [e]; exact k)
    | (obtain ⟨_,e,k⟩:=boolV_elim h; rw [e]; exact k)
    | (obtain ⟨_,e,k⟩:=strV_elim h; rw [e]; exact k)
    | (obtain ⟨_,e,k⟩:=ptrV_elim h; rw [e]; exact k)
    | (obtain ⟨_,_,_,e,k⟩:=slcV_elim h; rw [e]; exact k)
    | (obtain ⟨_,e,k⟩:=mapV_elim h; rw [e]; exact k)
    | (obtain ⟨_,e,k⟩:=aggV_elim h; rw [e]; exact k)
theorem elim_elim {P t c} (h:elim P t v c):c v:=by
  unfold elim at h
  split at h
  · obtain ⟨a,b,rfl,h⟩:=tup2V_elim h
    split at h
    · exact elimD_elim (c:=fun b=>c (.tuple ⟨[a,b]⟩)) (elimD_elim (c:=fun a=>elimD _ b fun b=>c (.tuple ⟨[a,b]⟩)) h)
    · exact h.elim
  · obtain ⟨a,b,e,rfl,h⟩:=tup3V_elim h
    split at h
    · exact elimD_elim (c:=fun e=>c (.tuple ⟨[a,b,e]⟩)) (elimD_elim (c:=fun b=>elimD _ e fun e=>c (.tuple ⟨[a,b,e]⟩)) (elimD_elim (c:=fun a=>elimD _ b fun b=>elimD _ e fun e=>c (.tuple ⟨[a,b,e]⟩)) h))
    · exact h.elim
  · obtain ⟨a,b,e,f,rfl,h⟩:=tup4V_elim h
    split at h
    · have h1:=elimD_elim (c:=fun a=>elimD _ b fun b=>elimD _ e fun e=>elimD _ f fun f=>c (.tuple ⟨[a,b,e,f]⟩)) h
      have h2:=elimD_elim (c:=fun b=>elimD _ e fun e=>elimD _ f fun f=>c (.tuple ⟨[a,b,e,f]⟩)) h1
      have h3:=elimD_elim (c:=fun e=>elimD _ f fun f=>c (.tuple ⟨[a,b,e,f]⟩)) h2
      exact elimD_elim (c:=fun f=>c (.tuple ⟨[a,b,e,f]⟩)) h3
    · exact h.elim
  · exact elimD_elim h
  · exact h
end
/-! Cells. -/
def HP.cell (hp:HP) (b o:Nat):Option Value:=match hp b with | .cells _ cs _=>cs[o]? | .obj (.cells c _ _)=>c.toList[o]? | _=>none
def cellsN (cs:List Value) (o n:Nat):Option (List Value):=if o+n≤cs.length then some ((cs.drop o).take n) else none
def HP.cellN (hp:HP) (b o n:Nat):Option (List Value):=match hp b with | .cells _ cs _=>cellsN cs o n | .obj (.cells c _ _)=>cellsN c.toList o n | _=>none
def splice (cs:List Value) (o:Nat):List Value→List Value
  | []=>cs
  | v::vs=>splice (cs.set o v) (o+1) vs
def one (v:Value):Bool:=match v with | .agg _ | .tuple _=>false | _=>true
def HP.st (hp:HP) (b o:Nat) (v:Value) (c:HP→Prop):Prop:=match hp b with
  | .cells e cs sp=>o<cs.length∧c (hp.set b (.cells e (cs.set o v) sp))
  | _=>False
def HP.stN (hp:HP) (b o:Nat) (vs:List Value) (c:HP→Prop):Prop:=match hp b with
  | .cells e cs sp=>o+vs.length≤cs.length∧vs.all one=true∧c (hp.set b (.cells e (splice cs o vs) sp))
  | _=>False
/-! What the model's own text does, where it is not opened. -/
def semV (P:Program):Sem Value→(Value→Prop)→Prop
  | .pure v,c=>c v
  | .program k,c=>semV P (k P) c
  | _,_=>False
theorem semV_run {P:Program} {w:World}:∀ {s:Sem Value} {c:Value→Prop},semV P s c→∃ v,s.run P w=.ok v w∧c v
  | .pure v,c,h=>⟨v,rfl,h⟩
  | .program k,c,h=>semV_run (s:=k P) h
def opS {α:Type} (P:Program) (s:Sem α) (hp:HP) (K:α→HP→Prop):Prop:=
  ∀ F w0 w,Fits F w0 hp w→∃ v w' hp',s.run P w=.ok v w'∧Fits F w0 hp' w'∧K v hp'
def rdS {α:Type} (P:Program) (s:Sem α) (hp:HP) (c:α→Prop):Prop:=
  ∃ v,(∀ F w0 w,Fits F w0 hp w→s.run P w=.ok v w)∧c v
def sv (x:Option SV) (c:SV→Prop):Prop:=match x with | some s=>c s | none=>False
def vv (x:Option SV) (c:Value→Prop):Prop:=match x with | some (.val v)=>c v | _=>False
theorem sv_elim {x c} (h:sv x c):∃ s,x=some s∧c s:=by
  cases x with
  | none=>exact h.elim
  | some s=>exact ⟨s,rfl,h⟩
theorem vv_elim {x c} (h:vv x c):∃ v,x=some (.val v)∧c v:=by
  unfold vv at h; split at h
  · exact ⟨_,rfl,h⟩
  · exact h.elim
def vvs:List (Option SV)→(List Value→Prop)→Prop
  | [],c=>c []
  | x::xs,c=>vv x fun v=>vvs xs fun vs=>c (v::vs)
theorem vvs_elim {xs:List (Option SV)} {c:List Value→Prop} (h:vvs xs c):∃ vs,xs=vs.map (fun v=>some (.val v))∧c vs:=by
  induction xs generalizing c with
  | nil=>exact ⟨[],rfl,h⟩
  | cons x xs ih=>
    obtain ⟨v,e1,h1⟩:=vv_elim h
    obtain ⟨vs,e2,h2⟩:=ih h1
    exact ⟨v::vs,by rw [e1,e2]; rfl,h2⟩
def opnd (env:Env):Operand→Option SV
  | .tmp t=>env t
  | .const v=>some (.val v)
  | .global g=>some (.val (ptr g 0))
  | .func f=>some (.val (.func (.func f) #[] #[]))
def fldOff (P:Program) (s:TypeId) (f:Nat) (c:Nat→Prop):Prop:=match P.underlying s with
  | some (.struct fs)=>match fs[f]? with
    | some fd=>match P.info? fd.type with
      | some i=>if i.size=0 then False else c fd.offset
      | none=>False
    | none=>False
  | _=>False
def sizeT (P:Program) (t:TypeId) (c:Nat→Prop):Prop:=match P.info? t with | some i=>c i.size | none=>False
def flat (P:Program) (t:TypeId):Option Bool:=match P.underlying t with
  | some (.struct _) | some (.array _ _)=>some false
  | some _=>if (P.info? t).map (·.size)=some 1 then some true else none
  | none=>none
def bt (s:ByteArray) (i:Int):Int:=((s.data.toList[i.toNat]?).getD 0).toNat
def sub0 (a:Option Addr) (m l size:Nat):Option Addr:=if m=l then a else a.map (·.add (l*size))
end Go.HL
