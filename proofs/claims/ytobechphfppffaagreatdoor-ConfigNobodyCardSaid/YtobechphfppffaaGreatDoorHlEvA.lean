/- The heaplet logic, part 34: what the evaluator's things stand for. -/
import Derived.Test.YtobechphfppffaaGreatDoorHlEv
set_option linter.unusedVariables false
set_option linter.unusedSimpArgs false
namespace Go.HL
open Go
set_option linter.unusedVariables false
set_option linter.unusedSectionVars false
/-! Numbered things. -/
section
variable {α:Type}
theorem Tr.get_nil (n:Nat):(Tr.nil:Tr α).get n=none:=rfl
theorem Tr.get_zero (v:Option α) (l r:Tr α):(Tr.nd v l r).get 0=v:=rfl
theorem Tr.get_succ (v:Option α) (l r:Tr α) (k:Nat):(Tr.nd v l r).get (k+1)=if k % 2=0 then l.get (k / 2) else r.get (k / 2):=by
  show (Nat.rec (motive:=fun _=>Option α) (l.get (k / 2)) (fun _ _=>r.get (k / 2)) (k % 2):Option α)=_
  rcases Nat.mod_two_eq_zero_or_one k with h | h <;> rw [h] <;> rfl
theorem Tr.put_zero_nil (x:Option α) (f:Nat):Tr.put x (f+1) 0 .nil=.nd x .nil .nil:=rfl
theorem Tr.put_zero (x:Option α) (f:Nat) (v:Option α) (l r:Tr α):Tr.put x (f+1) 0 (.nd v l r)=.nd x l r:=rfl
theorem Tr.put_succ_nil (x:Option α) (f k:Nat):Tr.put x (f+1) (k+1) .nil=if k % 2=0 then .nd none (Tr.put x f (k / 2) .nil) .nil else .nd none .nil (Tr.put x f (k / 2) .nil):=by
  show (Nat.rec (motive:=fun _=>Tr α) (.nd none (Tr.put x f (k / 2) .nil) .nil) (fun _ _=>.nd none .nil (Tr.put x f (k / 2) .nil)) (k % 2):Tr α)=_
  rcases Nat.mod_two_eq_zero_or_one k with h | h <;> rw [h] <;> rfl
theorem Tr.put_succ (x:Option α) (f k:Nat) (v:Option α) (l r:Tr α):Tr.put x (f+1) (k+1) (.nd v l r)=if k % 2=0 then .nd v (Tr.put x f (k / 2) l) r else .nd v l (Tr.put x f (k / 2) r):=by
  show (Nat.rec (motive:=fun _=>Tr α) (.nd v (Tr.put x f (k / 2) l) r) (fun _ _=>.nd v l (Tr.put x f (k / 2) r)) (k % 2):Tr α)=_
  rcases Nat.mod_two_eq_zero_or_one k with h | h <;> rw [h] <;> rfl
theorem Tr.get_put (x:Option α):∀ (f n:Nat) (t:Tr α) (j:Nat),n<f→(Tr.put x f n t).get j=if j=n then x else t.get j
  | 0,n,t,j,h=>absurd h (Nat.not_lt_zero _)
  | f+1,0,.nil,j,_=>by
    rw [Tr.put_zero_nil]
    cases j with
    | zero=>rfl
    | succ j=>simp [Tr.get_succ,Tr.get_nil]
  | f+1,0,.nd v l r,j,_=>by
    rw [Tr.put_zero]
    cases j with
    | zero=>rfl
    | succ j=>simp [Tr.get_succ]
  | f+1,k+1,.nil,j,h=>by
    rw [Tr.put_succ_nil]
    have ih:=fun i=>Tr.get_put x f (k / 2) (.nil:Tr α) i (by omega)
    cases j with
    | zero=>split <;> simp [Tr.get_zero,Tr.get_nil]
    | succ j=>
      rcases Nat.mod_two_eq_zero_or_one k with hk | hk <;> rcases Nat.mod_two_eq_zero_or_one j with hj | hj
      · have e:(j / 2=k / 2)↔j=k:=by omega
        simp [hk,hj,Tr.get_succ,ih,Tr.get_nil,e]
      · have e:j≠k:=by omega
        simp [hk,hj,Tr.get_succ,Tr.get_nil,e]
      · have e:j≠k:=by omega
        simp [hk,hj,Tr.get_succ,Tr.get_nil,e]
      · have e:(j / 2=k / 2)↔j=k:=by omega
        simp [hk,hj,Tr.get_succ,ih,Tr.get_nil,e]
  | f+1,k+1,.nd v l r,j,h=>by
    rw [Tr.put_succ]
    have ih:=fun (t:Tr α) i=>Tr.get_put x f (k / 2) t i (by omega)
    cases j with
    | zero=>split <;> simp [Tr.get_zero]
    | succ j=>
      rcases Nat.mod_two_eq_zero_or_one k with hk | hk <;> rcases Nat.mod_two_eq_zero_or_one j with hj | hj
      · have e:(j / 2=k / 2)↔j=k:=by omega
        simp [hk,hj,Tr.get_succ,ih,e]
      · have e:j≠k:=by omega
        simp [hk,hj,Tr.get_succ,e]
      · have e:j≠k:=by omega
        simp [hk,hj,Tr.get_succ,e]
      · have e:(j / 2=k / 2)↔j=k:=by omega
        simp [hk,hj,Tr.get_succ,ih,e]
theorem Tr.get_set (t:Tr α) (n j:Nat) (x:α):(t.set n x).get j=if j=n then some x else t.get j:=Tr.get_put (some x) (n+1) n t j (by omega)
end
/-! Lists. -/
section
variable {α β:Type}
theorem lget_eq:∀ (l:List α) (n:Nat),lget l n=l[n]?
  | [],_=>by simp [lget]
  | x::l,0=>rfl
  | x::l,n+1=>by rw [List.getElem?_cons_succ,← lget_eq l n]; rfl
theorem llen_eq:∀ l:List α,llen l=l.length
  | []=>rfl
  | x::l=>by rw [List.length_cons,← llen_eq l]; rfl
theorem lset_eq (v:α):∀ (l:List α) (n:Nat),lset v l n=l.set n v
  | [],_=>rfl
  | x::l,0=>rfl
  | x::l,n+1=>by rw [List.set_cons_succ,← lset_eq v l n]; rfl
theorem ltake_eq:∀ (l:List α) (n:Nat),ltake l n=l.take n
  | [],_=>by simp [ltake]
  | x::l,0=>rfl
  | x::l,n+1=>by rw [List.take_succ_cons,← ltake_eq l n]; rfl
theorem ldrop_eq:∀ (l:List α) (n:Nat),ldrop l n=l.drop n
  | [],_=>by simp [ldrop]
  | x::l,0=>rfl
  | x::l,n+1=>by rw [List.drop_succ_cons,← ldrop_eq l n]; rfl
theorem lapp_eq (b:List α):∀ a:List α,lapp a b=a++b
  | []=>rfl
  | x::a=>by rw [List.cons_append,← lapp_eq b a]; rfl
theorem lmap_eq (f:α→β):∀ l:List α,lmap f l=l.map f
  | []=>rfl
  | x::l=>by rw [List.map_cons,← lmap_eq f l]; rfl
theorem lall_eq (f:α→Bool):∀ l:List α,lall f l=l.all f
  | []=>rfl
  | x::l=>by
    show (Bool.rec (motive:=fun _=>Bool) false (lall f l) (f x):Bool)=_
    rw [List.all_cons,← lall_eq f l]
    cases f x <;> rfl
end
theorem guardE_some {α:Type} {b:Bool} {x:Option α} {r:α}:guardE b x=some r↔b=true∧x=some r:=by
  cases b <;> simp [guardE]
/-! Values. -/
abbrev Nm:=Nat→Option (Nat × Nat)
def Nm.le (m m':Nm):Prop:=∀ i x,m i=some x→m' i=some x
theorem Nm.le_refl (m:Nm):m.le m:=fun _ _ h=>h
theorem Nm.le_trans {a b c:Nm} (h:a.le b) (k:b.le c):a.le c:=fun i x e=>k i x (h i x e)
def capOf (c:Nat):Cp→Nat
  | .kn n=>n
  | .un k=>c-k
mutual
def conc (m:Nm):RV→Option Value
  | .v x=>some x
  | .p i off=>(m i).bind fun b=>some (.pointer (some ⟨b.1,off,none⟩))
  | .s i off len cap=>(m i).bind fun b=>if len≤capOf b.2 cap then some (.slice (some ⟨b.1,off,none⟩) len (capOf b.2 cap)) else none
  | .m i=>(m i).bind fun b=>some (.map (some b.1))
  | .f g a b=>(concs m a).bind fun a=>(concs m b).bind fun b=>some (.func (.func g) ⟨a⟩ ⟨b⟩)
  | .ifc t x=>(conc m x).bind fun v=>some (.iface t v)
  | .agg cs=>(concs m cs).bind fun l=>some (.agg ⟨l⟩)
  | .tup xs=>(concs m xs).bind fun l=>some (.tuple ⟨l⟩)
def concs (m:Nm):List RV→Option (List Value)
  | []=>some []
  | x::l=>(conc m x).bind fun v=>(concs m l).bind fun vs=>some (v::vs)
end
def VR (m:Nm) (x:RV) (v:Value):Prop:=conc m x=some v
def VL (m:Nm) (l:List RV) (vs:List Value):Prop:=concs m l=some vs
inductive F2 {α β:Type} (R:α→β→Prop):List α→List β→Prop where
  | nil:F2 R [] []
  | cons {x y l l'} (h:R x y) (t:F2 R l l'):F2 R (x::l) (y::l')
mutual
theorem conc_mono {m m':Nm} (h:m.le m'):∀ (x:RV) (v:Value),conc m x=some v→conc m' x=some v
  | .v _,_,e=>e
  | .p i off,v,e=>by
    simp only [conc,Option.bind_eq_some_iff] at e ⊢
    obtain ⟨b,e1,e2⟩:=e
    exact ⟨b,h _ _ e1,e2⟩
  | .s i off len cap,v,e=>by
    simp only [conc,Option.bind_eq_some_iff] at e ⊢
    obtain ⟨b,e1,e2⟩:=e
    exact ⟨b,h _ _ e1,e2⟩
  | .m i,v,e=>by
    simp only [conc,Option.bind_eq_some_iff] at e ⊢
    obtain ⟨b,e1,e2⟩:=e
    exact ⟨b,h _ _ e1,e2⟩
  | .f g a b,v,e=>by
    simp only [conc,Option.bind_eq_some_iff] at e ⊢
    obtain ⟨x,e1,y,e2,e3⟩:=e
    exact ⟨x,concs_mono h a x e1,y,concs_mono h b y e2,e3⟩
  | .ifc t x,v,e=>by
    simp only [conc,Option.bind_eq_some_iff] at e ⊢
    obtain ⟨b,e1,e2⟩:=e
    exact ⟨b,conc_mono h x b e1,e2⟩
  | .agg cs,v,e=>by
    simp only [conc,Option.bind_eq_some_iff] at e ⊢
    obtain ⟨b,e1,e2⟩:=e
    exact ⟨b,concs_mono h cs b e1,e2⟩
  | .tup cs,v,e=>by
    simp only [conc,Option.bind_eq_some_iff] at e ⊢
    obtain ⟨b,e1,e2⟩:=e
    exact ⟨b,concs_mono h cs b e1,e2⟩
theorem concs_mono {m m':Nm} (h:m.le m'):∀ (l:List RV) (vs:List Value),concs m l=some vs→concs m' l=some vs
  | [],_,e=>e
  | x::l,vs,e=>by
    simp only [concs,Option.bind_eq_some_iff] at e ⊢
    obtain ⟨a,e1,b,e2,e3⟩:=e
    exact ⟨a,conc_mono h x a e1,b,concs_mono h l b e2,e3⟩
end
theorem VL_iff {m:Nm}:∀ {l:List RV} {vs:List Value},VL m l vs↔F2 (VR m) l vs
  | [],vs=>by
    constructor
    · intro h; simp only [VL,concs,Option.some.injEq] at h; subst h; exact .nil
    · intro h; cases h; rfl
  | x::l,vs=>by
    constructor
    · intro h
      simp only [VL,concs,Option.bind_eq_some_iff] at h
      obtain ⟨a,e1,b,e2,e3⟩:=h
      cases e3
      exact .cons e1 (VL_iff.1 e2)
    · intro h
      cases h with
      | cons h1 h2=>
        simp only [VL,concs,Option.bind_eq_some_iff]
        exact ⟨_,h1,_,VL_iff.2 h2,rfl⟩
section
variable {m:Nm}
theorem VL.len {l:List RV} {vs:List Value} (h:VL m l vs):l.length=vs.length:=by
  have:=VL_iff.1 h
  induction this with
  | nil=>rfl
  | cons _ _ ih=>simp [ih (VL_iff.2 (by assumption))]
theorem f2_get {α β:Type} {R:α→β→Prop}:∀ {l:List α} {vs:List β},F2 R l vs→∀ {i:Nat} {x:α},l[i]?=some x→∃ v,vs[i]?=some v∧R x v
  | _,_,.cons h1 h2,0,x,e=>by simp at e; subst e; exact ⟨_,by simp,h1⟩
  | _,_,.cons h1 h2,i+1,x,e=>by simpa using f2_get h2 (i:=i) (by simpa using e)
theorem f2_take {α β:Type} {R:α→β→Prop}:∀ {l:List α} {vs:List β},F2 R l vs→∀ n,F2 R (l.take n) (vs.take n)
  | _,_,.nil,n=>by simp only [List.take_nil]; exact .nil
  | _,_,.cons h1 h2,0=>.nil
  | _,_,.cons h1 h2,n+1=>.cons h1 (f2_take h2 n)
theorem f2_drop {α β:Type} {R:α→β→Prop}:∀ {l:List α} {vs:List β},F2 R l vs→∀ n,F2 R (l.drop n) (vs.drop n)
  | _,_,.nil,n=>by simp only [List.drop_nil]; exact .nil
  | _,_,.cons h1 h2,0=>.cons h1 h2
  | _,_,.cons h1 h2,n+1=>f2_drop h2 n
theorem f2_app {α β:Type} {R:α→β→Prop}:∀ {l:List α} {vs:List β},F2 R l vs→∀ {l' vs'},F2 R l' vs'→F2 R (l++l') (vs++vs')
  | _,_,.nil,_,_,h=>h
  | _,_,.cons h1 h2,_,_,h=>.cons h1 (f2_app h2 h)
theorem f2_set {α β:Type} {R:α→β→Prop} {x:α} {v:β} (hx:R x v):∀ {l:List α} {vs:List β},F2 R l vs→∀ n,F2 R (l.set n x) (vs.set n v)
  | _,_,.nil,n=>.nil
  | _,_,.cons h1 h2,0=>.cons hx h2
  | _,_,.cons h1 h2,n+1=>.cons h1 (f2_set hx h2 n)
theorem VL.get {l:List RV} {vs:List Value} (h:VL m l vs) {i:Nat} {x:RV} (e:l[i]?=some x):∃ v,vs[i]?=some v∧VR m x v:=f2_get (VL_iff.1 h) e
theorem VL.take {l:List RV} {vs:List Value} (h:VL m l vs) (n:Nat):VL m (l.take n) (vs.take n):=VL_iff.2 (f2_take (VL_iff.1 h) n)
theorem VL.drop {l:List RV} {vs:List Value} (h:VL m l vs) (n:Nat):VL m (l.drop n) (vs.drop n):=VL_iff.2 (f2_drop (VL_iff.1 h) n)
theorem VL.app {l l':List RV} {vs vs':List Value} (h:VL m l vs) (h':VL m l' vs'):VL m (l++l') (vs++vs'):=VL_iff.2 (f2_app (VL_iff.1 h) (VL_iff.1 h'))
theorem VL.set {l:List RV} {vs:List Value} (h:VL m l vs) {x:RV} {v:Value} (hx:VR m x v) (n:Nat):VL m (l.set n x) (vs.set n v):=VL_iff.2 (f2_set hx (VL_iff.1 h) n)
theorem VL.vals:∀ l:List Value,VL m (HL.vals l) l
  | []=>rfl
  | x::l=>by
    have:=VL.vals l
    simp only [HL.vals,lmap_eq,VL,concs,List.map_cons,conc,Option.bind_some] at this ⊢
    rw [this]; rfl
theorem pureL_VL:∀ {l:List RV} {vs:List Value},pureL l=some vs→VL m l vs
  | [],vs,h=>by cases h; rfl
  | .v x::l,vs,h=>by
    simp only [pureL,Option.bind_eq_some_iff] at h
    obtain ⟨r,h1,h2⟩:=h
    cases h2
    have:=pureL_VL h1
    simp only [VL,concs,conc,Option.bind_some] at this ⊢
    rw [this]; rfl
  | .p _ _::_,_,h=>by cases h
  | .s _ _ _ _::_,_,h=>by cases h
  | .m _::_,_,h=>by cases h
  | .f _ _ _::_,_,h=>by cases h
  | .ifc _ _::_,_,h=>by cases h
  | .agg _::_,_,h=>by cases h
  | .tup _::_,_,h=>by cases h
theorem mkAgg_VR {l:List RV} {vs:List Value} (h:VL m l vs):VR m (mkAgg l) (.agg ⟨vs⟩):=by
  unfold mkAgg
  split
  · rename_i us hu
    have:VL m l us:=pureL_VL hu
    have e:us=vs:=Option.some.inj (Eq.trans (Eq.symm this) h)
    subst e; rfl
  · simp only [VR,conc,Option.bind_eq_some_iff]; exact ⟨_,h,rfl⟩
theorem mkTup_VR {l:List RV} {vs:List Value} (h:VL m l vs):VR m (mkTup l) (.tuple ⟨vs⟩):=by
  unfold mkTup
  split
  · rename_i us hu
    have:VL m l us:=pureL_VL hu
    have e:us=vs:=Option.some.inj (Eq.trans (Eq.symm this) h)
    subst e; rfl
  · simp only [VR,conc,Option.bind_eq_some_iff]; exact ⟨_,h,rfl⟩
theorem aggE_VR {x:RV} {l:List RV} {v:Value} (h:aggE x=some l) (hv:VR m x v):∃ vs,v=.agg ⟨vs⟩∧VL m l vs:=by
  unfold aggE at h
  split at h
  · cases h
    have e:v=_:=(Option.some.inj hv).symm
    exact ⟨_,e,VL.vals _⟩
  · cases h
    simp only [VR,conc,Option.bind_eq_some_iff] at hv
    obtain ⟨vs,h1,h2⟩:=hv
    cases h2; exact ⟨vs,rfl,h1⟩
  · cases h
theorem tupE_VR {x:RV} {l:List RV} {v:Value} (h:tupE x=some l) (hv:VR m x v):∃ vs,v=.tuple ⟨vs⟩∧VL m l vs:=by
  unfold tupE at h
  split at h
  · cases h
    have e:v=_:=(Option.some.inj hv).symm
    exact ⟨_,e,VL.vals _⟩
  · cases h
    simp only [VR,conc,Option.bind_eq_some_iff] at hv
    obtain ⟨vs,h1,h2⟩:=hv
    cases h2; exact ⟨vs,rfl,h1⟩
  · cases h
theorem VR.p {i off:Nat} {v:Value} (h:VR m (.p i off) v):∃ b,m i=some b∧v=.pointer (some ⟨b.1,off,none⟩):=by
  simp only [VR,conc,Option.bind_eq_some_iff] at h
  obtain ⟨b,h1,h2⟩:=h
  cases h2; exact ⟨b,h1,rfl⟩
theorem VR.s {i off len:Nat} {c:Cp} {v:Value} (h:VR m (.s i off len c) v):∃ b,m i=some b∧len≤capOf b.2 c∧v=.slice (some ⟨b.1,off,none⟩) len (capOf b.2 c):=by
  simp only [VR,conc,Option.bind_eq_some_iff] at h
  obtain ⟨b,h1,h2⟩:=h
  split at h2
  · rename_i hl
    cases h2; exact ⟨b,h1,hl,rfl⟩
  · cases h2
theorem VR.mm {i:Nat} {v:Value} (h:VR m (.m i) v):∃ b,m i=some b∧v=.map (some b.1):=by
  simp only [VR,conc,Option.bind_eq_some_iff] at h
  obtain ⟨b,h1,h2⟩:=h
  cases h2; exact ⟨b,h1,rfl⟩
theorem VR.f {g:FuncId} {a b:List RV} {v:Value} (h:VR m (.f g a b) v):∃ x y,VL m a x∧VL m b y∧v=.func (.func g) ⟨x⟩ ⟨y⟩:=by
  simp only [VR,conc,Option.bind_eq_some_iff] at h
  obtain ⟨x,h1,y,h2,h3⟩:=h
  cases h3; exact ⟨x,y,h1,h2,rfl⟩
theorem VR.ifc {t:TypeId} {x:RV} {v:Value} (h:VR m (.ifc t x) v):∃ u,VR m x u∧v=.iface t u:=by
  simp only [VR,conc,Option.bind_eq_some_iff] at h
  obtain ⟨b,h1,h2⟩:=h
  cases h2; exact ⟨b,h1,rfl⟩
theorem VR.agg {l:List RV} {v:Value} (h:VR m (.agg l) v):∃ vs,VL m l vs∧v=.agg ⟨vs⟩:=by
  simp only [VR,conc,Option.bind_eq_some_iff] at h
  obtain ⟨b,h1,h2⟩:=h
  cases h2; exact ⟨b,h1,rfl⟩
theorem VR.tup {l:List RV} {v:Value} (h:VR m (.tup l) v):∃ vs,VL m l vs∧v=.tuple ⟨vs⟩:=by
  simp only [VR,conc,Option.bind_eq_some_iff] at h
  obtain ⟨b,h1,h2⟩:=h
  cases h2; exact ⟨b,h1,rfl⟩
theorem VR.vv {x v:Value} (h:VR m (.v x) v):v=x:=(Option.some.inj h).symm
theorem VR.mk_p {i off:Nat} {b:Nat × Nat} (h:m i=some b):VR m (.p i off) (.pointer (some ⟨b.1,off,none⟩)):=by simp [VR,conc,h]
theorem VR.mk_s {i off len:Nat} {c:Cp} {b:Nat × Nat} (h:m i=some b) (hl:len≤capOf b.2 c):VR m (.s i off len c) (.slice (some ⟨b.1,off,none⟩) len (capOf b.2 c)):=by simp [VR,conc,h,hl]
theorem VR.mk_m {i:Nat} {b:Nat × Nat} (h:m i=some b):VR m (.m i) (.map (some b.1)):=by simp [VR,conc,h]
theorem oneE_one {x:RV} {v:Value} (h:oneE x=true) (hv:VR m x v):one v=true:=by
  cases x with
  | v x=>rw [hv.vv]; cases x <;> first | rfl | cases h
  | p i o=>obtain ⟨b,_,rfl⟩:=hv.p; rfl
  | s i o l c=>obtain ⟨b,_,_,rfl⟩:=hv.s; rfl
  | m i=>obtain ⟨b,_,rfl⟩:=hv.mm; rfl
  | f g a b=>obtain ⟨x,y,_,_,rfl⟩:=hv.f; rfl
  | ifc t x=>obtain ⟨u,_,rfl⟩:=hv.ifc; rfl
  | agg l=>cases h
  | tup l=>cases h
theorem all_one {l:List RV} {vs:List Value} (h:lall oneE l=true) (hv:VL m l vs):vs.all one=true:=by
  rw [lall_eq] at h
  have:=VL_iff.1 hv
  clear hv
  induction this with
  | nil=>rfl
  | cons h1 _ ih=>
    rw [List.all_cons,Bool.and_eq_true] at h ⊢
    exact ⟨oneE_one h.1 h1,ih h.2⟩
theorem cellsE_VL {x:RV} {v:Value} (hv:VR m x v):VL m (cellsE x) v.cells.toList:=by
  have single:∀ {x:RV} {v:Value},VR m x v→VL m [x] [v]:=fun h=>by simp only [VR,VL,concs] at h ⊢; rw [h]; rfl
  cases x with
  | v x=>
    rw [hv.vv]
    cases x with
    | agg cs=>exact VL.vals _
    | _=>rfl
  | p i o=>obtain ⟨b,_,rfl⟩:=id hv.p; exact single hv
  | s i o l c=>obtain ⟨b,_,_,rfl⟩:=id hv.s; exact single hv
  | m i=>obtain ⟨b,_,rfl⟩:=id hv.mm; exact single hv
  | f g a b=>obtain ⟨x,y,_,_,rfl⟩:=id hv.f; exact single hv
  | ifc t x=>obtain ⟨u,_,rfl⟩:=id hv.ifc; exact single hv
  | agg l=>obtain ⟨vs,h,rfl⟩:=hv.agg; exact h
  | tup l=>obtain ⟨vs,h,rfl⟩:=id hv.tup; exact single hv
theorem cutE_VL {cs:List RV} {vs:List Value} {o n:Nat} {r:List RV} (h:cutE cs o n=some r) (hv:VL m cs vs):∃ us,cellsN vs o n=some us∧VL m r us:=by
  unfold cutE at h
  rw [llen_eq,ltake_eq,ldrop_eq] at h
  split at h
  · rename_i hb
    cases h
    refine ⟨_,cellsN_of ?_,(hv.drop o).take n⟩
    rw [← hv.len]; exact Nat.le_of_ble_eq_true hb
  · cases h
theorem spliceE_VL {cs:List RV} {vs:List Value} {o:Nat} {r:List RV} {us:List Value} (hv:VL m cs vs) (hr:VL m r us) (hl:o+llen r≤llen cs):VL m (spliceE cs o r) (splice vs o us):=by
  rw [llen_eq,llen_eq] at hl
  unfold spliceE
  rw [splice_eq _ _ _ (by rw [← hv.len,← hr.len]; exact hl),lapp_eq,lapp_eq,ltake_eq,ldrop_eq,llen_eq,List.append_assoc,← hr.len]
  exact (hv.take o).app (hr.app (hv.drop _))
end
end Go.HL
