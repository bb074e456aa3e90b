/- The heaplet logic, part 13: what an operation looks at and what it turns. -/
import Derived.Test.YtobechphfppffaaGreatDoorHlMono
set_option linter.unusedVariables false
set_option linter.unusedSimpArgs false
namespace Go.HL
open Go
def clsO (P:Program) (prv:List Nat) (o:Oper):Nat:=match o.op with
  | .move _ | .assign _ | .pick .. | .nilCheck _ | .fieldAddr .. | .indexAddr .. | .index .. | .field .. | .slice .. | .build .. | .extract .. | .unOp .. | .binOp .. | .makeInterface .. | .makeFunc ..=>0
  | .convert s d _=>match P.underlying s,P.underlying d with
    | some (.slice _),some .string=>3
    | some .string,some (.slice _)=>4
    | _,_=>0
  | .load _ x=>if locX prv x=true then 1 else 3
  | .store _ x _=>if locX prv x=true then 2 else 4
  | .alloc _ | .box ..=>match o.dst with
    | some d=>if prv.contains d=true then 2 else 4
    | none=>4
  | .lookup .. | .entry _ | .typeAssert ..=>3
  | .call c=>match c.callee with
    | .builtin .len=>match (c.argTypes[0]?).bind P.underlying with
      | some (.slice _)=>0
      | some .string=>0
      | _=>4
    | .builtin .cap=>0
    | .builtin .min=>0
    | .builtin .max=>0
    | _=>4
  | _=>4
def Det {α:Type} (T:(α→Prop)→Prop):Prop:=∀ k,T k→∃ s,∀ k',T k'↔k' s
section
variable {α β:Type}
theorem Det.pure (s:α):Det fun k=>k s:=fun _ _=>⟨s,fun _=>Iff.rfl⟩
theorem Det.false:Det (α:=α) fun _=>False:=fun _ h=>h.elim
theorem Det.bind {T:(α→Prop)→Prop} {U:α→(β→Prop)→Prop} (hT:Det T) (hU:∀ a,Det (U a)):Det fun k=>T fun a=>U a k:=fun k h=>by
  obtain ⟨a,ha⟩:=hT _ h
  obtain ⟨b,hb⟩:=hU a _ ((ha _).1 h)
  exact ⟨b,fun k'=>(ha _).trans (hb _)⟩
theorem Det.and {p:Prop} {T:(α→Prop)→Prop} (hT:Det T):Det fun k=>p∧T k:=fun k h=>by
  obtain ⟨a,ha⟩:=hT _ h.2
  exact ⟨a,fun k'=>⟨fun x=>(ha _).1 x.2,fun x=>⟨h.1,(ha _).2 x⟩⟩⟩
theorem Det.ite {p:Prop} [Decidable p] {T U:(α→Prop)→Prop} (hT:Det T) (hU:Det U):Det fun k=>if p then T k else U k:=by
  by_cases h:p
  · simp only [if_pos h]; exact hT
  · simp only [if_neg h]; exact hU
theorem Det.ite2 (b:Bool) {T U:(α→Prop)→Prop} (hT:Det T) (hU:Det U):Det fun k=>ite2 b (T k) (U k):=by
  cases b
  · exact hU
  · exact hT
theorem Det.map {T:(β→Prop)→Prop} (f:β→α) (hT:Det T):Det fun k=>T fun a=>k (f a):=hT.bind (U:=fun a k=>k (f a)) fun a=>Det.pure (f a)
theorem Det.sv (x:Option SV):Det (sv x):=by cases x with | none=>exact Det.false | some s=>exact Det.pure s
theorem Det.vv (x:Option SV):Det (vv x):=by
  cases x with
  | none=>exact Det.false
  | some s=>cases s with
    | val v=>exact Det.pure v
    | priv k o=>exact Det.false
theorem Det.intV (v:Value) (k:IntKind):Det (intV v k):=by
  cases v <;> first | exact Det.false | skip
  exact Det.ite (Det.pure _) Det.false
theorem Det.intAny (v:Value):Det (intAny v):=by cases v <;> first | exact Det.false | exact Det.pure _
theorem Det.boolV (v:Value):Det (boolV v):=by cases v <;> first | exact Det.false | exact Det.pure _
theorem Det.strV (v:Value):Det (strV v):=by cases v <;> first | exact Det.false | exact Det.pure _
theorem Det.ptrV (v:Value):Det (ptrV v):=by cases v <;> first | exact Det.false | exact Det.pure _
theorem Det.mapV (v:Value):Det (mapV v):=by cases v <;> first | exact Det.false | exact Det.pure _
theorem Det.aggV (v:Value):Det (aggV v):=by cases v <;> first | exact Det.false | exact Det.pure _
theorem Det.ldV (x:Option Value):Det (ldV x):=by cases x with | none=>exact Det.false | some s=>exact Det.pure s
theorem Det.ldL (x:Option (List Value)):Det (ldL x):=by cases x with | none=>exact Det.false | some s=>exact Det.pure s
theorem Det.ptrN (a:Option Addr) (f:Nat→Nat→(α→Prop)→Prop) (hf:∀ b o,Det (f b o)):Det fun k=>ptrN a fun b o=>f b o k:=fun k h=>by
  obtain ⟨b,o,e,h⟩:=ptrN_elim h
  subst e
  exact hf b o k h
theorem Det.slcV (v:Value) (f:Option Addr→Nat→Nat→(α→Prop)→Prop) (hf:∀ a n m,Det (f a n m)):Det fun k=>slcV v fun a n m=>f a n m k:=fun k h=>by
  obtain ⟨a,n,m,e,h⟩:=slcV_elim h
  subst e
  exact hf a n m k h
theorem Det.tup2V (v:Value) (f:Value→Value→(α→Prop)→Prop) (hf:∀ a b,Det (f a b)):Det fun k=>tup2V v fun a b=>f a b k:=fun k h=>by
  obtain ⟨a,b,e,h⟩:=tup2V_elim h
  subst e
  exact hf a b k h
theorem Det.tup3V (v:Value) (f:Value→Value→Value→(α→Prop)→Prop) (hf:∀ a b d,Det (f a b d)):Det fun k=>tup3V v fun a b d=>f a b d k:=fun k h=>by
  obtain ⟨a,b,d,e,h⟩:=tup3V_elim h
  subst e
  exact hf a b d k h
theorem Det.tup4V (v:Value) (f:Value→Value→Value→Value→(α→Prop)→Prop) (hf:∀ a b d e,Det (f a b d e)):Det fun k=>tup4V v fun a b d e=>f a b d e k:=fun k h=>by
  obtain ⟨a,b,d,e,e',h⟩:=tup4V_elim h
  subst e'
  exact hf a b d e k h
theorem Det.elimD (d:TypeDesc) (v:Value):Det (elimD d v):=by
  cases d <;> first
    | exact Det.pure v
    | exact (Det.intV v _).map _
    | exact (Det.boolV v).map _
    | exact (Det.strV v).map _
    | exact (Det.ptrV v).map _
    | exact Det.slcV v _ fun a n m=>Det.pure (α:=Value) (.slice a n m)
    | exact (Det.mapV v).map _
    | exact (Det.aggV v).map _
theorem Det.elim (P:Program) (t:TypeId) (v:Value):Det (elim P t v):=by
  unfold HL.elim
  split
  · refine Det.tup2V v _ fun a b=>?_
    split
    · exact (Det.elimD _ a).bind fun a=>(Det.elimD _ b).map _
    · exact Det.false
  · refine Det.tup3V v _ fun a b e=>?_
    split
    · exact (Det.elimD _ a).bind fun a=>(Det.elimD _ b).bind fun b=>(Det.elimD _ e).map _
    · exact Det.false
  · refine Det.tup4V v _ fun a b e f=>?_
    split
    · exact (Det.elimD _ a).bind fun a=>(Det.elimD _ b).bind fun b=>(Det.elimD _ e).bind fun e=>(Det.elimD _ f).map _
    · exact Det.false
  · exact Det.elimD _ v
  · exact Det.pure v
theorem Det.tupI (v:Value) (i:Nat):Det (tupI v i):=by
  unfold HL.tupI
  split
  · exact Det.ldV _
  · exact Det.false
theorem Det.semV (P:Program):∀ s:Sem Value,Det (semV P s)
  | .pure v=>Det.pure v
  | .program k=>Det.semV P (k P)
  | .load _ _ _ | .store _ _ _ _ | .new _ _ | .shape _ _ | .freeze _ _ _ | .frozen _ _ | .getObj _ _ | .setObj _ _ _ | .choose _ _ | .sys _ _ | .mark _ _ | .halt _=>Det.false
theorem Det.fldOff (P:Program) (t:TypeId) (f:Nat):Det (fldOff P t f):=by
  unfold HL.fldOff
  split
  · split
    · split
      · exact Det.ite Det.false (Det.pure _)
      · exact Det.false
    · exact Det.false
  · exact Det.false
theorem Det.sizeT (P:Program) (t:TypeId):Det (sizeT P t):=by
  unfold HL.sizeT; split
  · exact Det.pure _
  · exact Det.false
theorem Det.zeroT (P:Program) (t:TypeId):Det (zeroT P t):=by
  unfold HL.zeroT; split
  · split
    · exact Det.pure _
    · exact Det.false
  · exact Det.false
theorem Det.vvs:∀ xs:List (Option SV),Det (vvs xs)
  | []=>Det.pure []
  | x::xs=>(Det.vv x).bind fun v=>(Det.vvs xs).map (v::·)
theorem Det.optV (ρ:Operand→Option SV) (x:Option Operand):Det (optV ρ x):=by
  cases x with
  | none=>exact Det.pure none
  | some x=>exact (Det.vv _).map some
theorem Det.partsV (ρ:Operand→Option SV):∀ xs:List (Nat × Operand),Det (partsV ρ xs)
  | []=>Det.pure []
  | (i,x)::xs=>(Det.vv _).bind fun v=>(Det.partsV ρ xs).map ((i,v)::·)
theorem Det.cellsV (v:Value) (z:Nat):Det (cellsV v z):=by
  unfold HL.cellsV
  split
  · exact Det.ite (Det.pure _) Det.false
  · exact Det.ite (Det.pure _) Det.false
theorem Det.fillF (place:Nat→Option (Nat × Nat)) (n:Nat):∀ (parts:List (Nat × Value)) (cells:List Value),Det (fillF place n cells parts)
  | [],cells=>Det.pure cells
  | (i,v)::rest,cells=>by
    intro k h
    cases hp:place i with
    | none=>simp only [HL.fillF,hp] at h
    | some x=>
      obtain ⟨off,size⟩:=x
      obtain ⟨s,hs⟩:=((Det.cellsV v size).bind fun vs=>Det.ite (p:=off+size≤n) (Det.fillF place n rest (splice cells off vs)) Det.false) k (by simpa only [HL.fillF,hp] using h)
      exact ⟨s,fun k'=>by simp only [HL.fillF,hp]; exact hs k'⟩
theorem Det.buildF (P:Program) (t:TypeId) (parts:List (Nat × Value)):Det (buildF P t parts):=by
  unfold HL.buildF
  split
  · exact Det.ite ((Det.zeroT P t).bind fun z=>(Det.fillF _ _ parts z).map _) Det.false
  · exact (Det.sizeT P _).bind fun n=>(Det.zeroT P t).bind fun z=>(Det.fillF _ _ parts z).map _
  · exact Det.false
theorem Det.sliceSF (P:Program) (t:TypeId) (x:Value) (lo hi mx:Option Value):Det (sliceSF P t x lo hi mx):=by
  unfold HL.sliceSF
  split <;> first
    | exact Det.false
    | exact Det.pure _
    | exact (Det.pure _).and.and
    | exact (Det.pure _).and.and.and
    | exact (Det.sizeT P _).map _
    | exact ((Det.sizeT P _).map _).and.and
    | exact ((Det.sizeT P _).map _).and.and.and
    | exact ((Det.sizeT P _).map _).and.and.and.and
    | exact Det.ptrN _ _ fun b o=>(Det.sizeT P _).map fun _=>_
    | exact (Det.ptrN _ _ fun b o=>(Det.sizeT P _).map _).and.and
    | exact (Det.ptrN _ _ fun b o=>(Det.sizeT P _).map _).and.and.and
theorem fits_empty (w:World):Fits (fun _=>False) w (fun _=>.none) w:=⟨fun _=>trivial,fun _ h=>h.elim,rfl,rfl,rfl,Nat.le_refl _⟩
def Sat (hp:HP):Prop:=∃ F w0 w,Fits F w0 hp w
theorem Det.rdS {γ:Type} (P:Program) (s:Sem γ) {hp:HP} (hs:Sat hp):Det (rdS P s hp):=fun k h=>by
  obtain ⟨F,w0,w,hf⟩:=hs
  obtain ⟨v,hv,_⟩:=h
  refine ⟨v,fun k'=>⟨fun ⟨u,hu,hk⟩=>?_,fun hk=>⟨v,hv,hk⟩⟩⟩
  have:=(hu F w0 w hf).symm.trans (hv F w0 w hf)
  cases this; exact hk
theorem Det.eqAgg (P:Program) (t:TypeId) (xs ys:List Value):Det (eqAgg P t xs ys):=Det.rdS P _ ⟨_,_,_,fits_empty default⟩
theorem Det.binF (P:Program) (op:BinOp) (t:TypeId) (x y:Operand) (a b:Value):Det (binF P op t x y a b):=by
  unfold HL.binF
  split <;> first
    | exact Det.semV P _
    | exact Det.pure _
    | exact (Det.pure _).and
    | exact Det.ite (Det.pure _).and Det.false
    | exact Det.ite Det.false ((Det.eqAgg P t _ _).map _)
    | (split <;> first | exact Det.pure _ | exact Det.false)
end
end Go.HL
