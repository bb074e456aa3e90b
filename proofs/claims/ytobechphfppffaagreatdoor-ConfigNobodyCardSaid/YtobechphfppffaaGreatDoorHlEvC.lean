/- The heaplet logic, part 36: operations that only look, by the evaluator. -/
import Derived.Test.YtobechphfppffaaGreatDoorHlEvB
set_option linter.unusedVariables false
set_option linter.unusedSimpArgs false
namespace Go.HL
open Go
set_option linter.unusedVariables false
set_option linter.unusedSectionVars false
theorem vv_in {x:Option SV} {v:Value} {c:Value→Prop} (e:x=some (.val v)) (h:c v):vv x c:=by rw [e]; exact h
theorem sv_in {x:Option SV} {v:SV} {c:SV→Prop} (e:x=some v) (h:c v):sv x c:=by rw [e]; exact h
theorem vvs_in:∀ {xs:List (Option SV)} {vs:List Value} {c:List Value→Prop},xs=vs.map (fun v=>some (.val v))→c vs→vvs xs c
  | _,[],c,e,h=>by rw [e]; exact h
  | _,v::vs,c,e,h=>by
    rw [e]
    exact vvs_in (vs:=vs) (c:=fun vs=>c (v::vs)) rfl h
theorem sizeT_in {P:Program} {t:TypeId} {z:Nat} {c:Nat→Prop} (e:sizeE P t=some z) (h:c z):sizeT P t c:=by
  unfold sizeE at e
  unfold sizeT
  split at e
  · rename_i i hi; cases e; rw [hi]; exact h
  · cases e
theorem zeroT_in {P:Program} {t:TypeId} {z:List Value} {c:List Value→Prop} (e:zeroE P t=some z) (h:c z):zeroT P t c:=by
  unfold zeroE at e
  unfold zeroT
  split at e
  · rename_i i hi
    split at e
    · rename_i v hv; cases e; rw [hi]; simp only [hv]; exact h
    · cases e
  · cases e
theorem fldOff_in {P:Program} {t:TypeId} {f d:Nat} {c:Nat→Prop} (e:offE P t f=some d) (h:c d):fldOff P t f c:=by
  unfold offE at e
  unfold fldOff
  split at e
  · rename_i fs hu
    rw [hu]
    split at e
    · rename_i fd hf
      simp only [hf]
      split at e
      · rename_i i hi
        simp only [hi]
        split at e
        · cases e
        · rename_i n hn
          cases e
          rw [if_neg (by omega)]; exact h
      · cases e
    · cases e
  · cases e
theorem idxE_some {i:Int} {n k:Nat} (h:idxE i n=some k):0≤i∧i<n∧i.toNat=k:=by
  unfold idxE at h
  split at h
  · rename_i j
    split at h
    · rename_i hb
      cases h
      have:k<n:=by
        have h1:Nat.ble (k+1) n=true:=hb
        exact Nat.le_of_ble_eq_true h1
      exact ⟨Int.natCast_nonneg _,by simp only [Int.ofNat_eq_natCast]; omega,rfl⟩
    · cases h
  · cases h
theorem blt_lt {a b:Nat} (h:Nat.blt a b=true):a<b:=Nat.le_of_ble_eq_true (show Nat.ble (a+1) b=true from h)
theorem kcode_inj {k k':IntKind} (h:kcode k=kcode k'):k=k':=by cases k <;> cases k' <;> first | rfl | cases h
section
variable {P:Program} {m:Nm} {x:RV} {v:Value}
theorem kindE_sound {d:TypeDesc} (h:kindE d x=true) (hv:VR m x v) {c:Value→Prop} (hc:c v):elimD d v c:=by
  cases d <;> simp only [kindE,elimD] at h ⊢ <;> try exact hc
  case int k=>
    unfold isInt at h
    split at h
    · rename_i k' n
      have hk:=kcode_inj (Nat.eq_of_beq_eq_true h)
      have:=hv.vv
      subst this; subst hk
      rw [intV_int]; exact hc
    · cases h
  case bool=>
    unfold isBool at h
    split at h
    · have:=hv.vv
      subst this; exact hc
    · cases h
  case string=>
    unfold isStr at h
    split at h
    · have:=hv.vv
      subst this; exact hc
    · cases h
  case pointer e=>
    unfold isPtr at h
    split at h
    · have:=hv.vv
      subst this; exact hc
    · obtain ⟨b,_,rfl⟩:=hv.p; exact hc
    · cases h
  case slice e=>
    unfold isSlc at h
    split at h
    · have:=hv.vv
      subst this; exact hc
    · obtain ⟨b,_,_,rfl⟩:=hv.s; exact hc
    · cases h
  case map k e=>
    unfold isMap at h
    split at h
    · have:=hv.vv
      subst this; exact hc
    · obtain ⟨b,_,rfl⟩:=hv.mm; exact hc
    · cases h
  all_goals
    unfold isAgg at h
    split at h
    · rename_i cs
      have:=hv.vv
      subst this
      exact hc
    · obtain ⟨vs,_,rfl⟩:=hv.agg; exact hc
    · cases h
theorem kindT_some {t:TypeId} (h:kindT P t x=true):∃ d,P.underlying t=some d∧kindE d x=true:=by
  unfold kindT at h
  split at h
  · rename_i d hd; exact ⟨d,hd,h⟩
  · cases h
theorem VL.cons_iff {x:RV} {l:List RV} {vs:List Value} (h:VL m (x::l) vs):∃ u us,vs=u::us∧VR m x u∧VL m l us:=by
  simp only [VL,concs,Option.bind_eq_some_iff] at h
  obtain ⟨a,e1,b,e2,e3⟩:=h
  cases e3
  exact ⟨a,b,rfl,e1,e2⟩
theorem VL.nil_iff {vs:List Value} (h:VL m [] vs):vs=[]:=by
  simp only [VL,concs,Option.some.injEq] at h; exact h.symm
theorem elimE_sound {t:TypeId} (h:elimE P t x=true) (hv:VR m x v) {c:Value→Prop} (hc:c v):elim P t v c:=by
  unfold elimE at h
  split at h
  · rename_i ts hu
    obtain ⟨ts⟩:=ts
    unfold elim
    rw [hu]
    rcases ts with _ | ⟨t1,_ | ⟨t2,_ | ⟨t3,_ | ⟨t4,_ | ⟨t5,ts⟩⟩⟩⟩⟩
    · exact hc
    · exact hc
    · simp only [elimTup] at h
      split at h
      · rename_i l hl
        obtain ⟨vs,rfl,hvs⟩:=tupE_VR hl hv
        match l with
        | [a,b]=>
          obtain ⟨a',r1,rfl,ha,hr1⟩:=hvs.cons_iff
          obtain ⟨b',r2,rfl,hb,hr2⟩:=hr1.cons_iff
          have:=hr2.nil_iff; subst this
          simp only [kindL,Bool.and_eq_true] at h
          obtain ⟨d1,u1,k1⟩:=kindT_some h.1
          obtain ⟨d2,u2,k2⟩:=kindT_some h.2.1
          simp only [tup2V_mk,u1,u2]
          exact kindE_sound k1 ha (kindE_sound k2 hb hc)
        | [] | [_] | _::_::_::_=>simp [kindL] at h
      · cases h
    · simp only [elimTup] at h
      split at h
      · rename_i l hl
        obtain ⟨vs,rfl,hvs⟩:=tupE_VR hl hv
        match l with
        | [a,b,e]=>
          obtain ⟨a',r1,rfl,ha,hr1⟩:=hvs.cons_iff
          obtain ⟨b',r2,rfl,hb,hr2⟩:=hr1.cons_iff
          obtain ⟨e',r3,rfl,he,hr3⟩:=hr2.cons_iff
          have:=hr3.nil_iff; subst this
          simp only [kindL,Bool.and_eq_true] at h
          obtain ⟨d1,u1,k1⟩:=kindT_some h.1
          obtain ⟨d2,u2,k2⟩:=kindT_some h.2.1
          obtain ⟨d3,u3,k3⟩:=kindT_some h.2.2.1
          simp only [tup3V_mk,u1,u2,u3]
          exact kindE_sound k1 ha (kindE_sound k2 hb (kindE_sound k3 he hc))
        | [] | [_] | [_,_] | _::_::_::_::_=>simp [kindL] at h
      · cases h
    · simp only [elimTup] at h
      split at h
      · rename_i l hl
        obtain ⟨vs,rfl,hvs⟩:=tupE_VR hl hv
        match l with
        | [a,b,e,f]=>
          obtain ⟨a',r1,rfl,ha,hr1⟩:=hvs.cons_iff
          obtain ⟨b',r2,rfl,hb,hr2⟩:=hr1.cons_iff
          obtain ⟨e',r3,rfl,he,hr3⟩:=hr2.cons_iff
          obtain ⟨f',r4,rfl,hf,hr4⟩:=hr3.cons_iff
          have:=hr4.nil_iff; subst this
          simp only [kindL,Bool.and_eq_true] at h
          obtain ⟨d1,u1,k1⟩:=kindT_some h.1
          obtain ⟨d2,u2,k2⟩:=kindT_some h.2.1
          obtain ⟨d3,u3,k3⟩:=kindT_some h.2.2.1
          obtain ⟨d4,u4,k4⟩:=kindT_some h.2.2.2.1
          simp only [tup4V_mk,u1,u2,u3,u4]
          exact kindE_sound k1 ha (kindE_sound k2 hb (kindE_sound k3 he (kindE_sound k4 hf hc)))
        | [] | [_] | [_,_] | [_,_,_] | _::_::_::_::_::_=>simp [kindL] at h
      · cases h
    · exact hc
  · rename_i d hn hu
    unfold elim
    rw [hu]
    cases d <;> first | exact absurd rfl (hn _) | exact kindE_sound h hv hc
  · rename_i hu
    unfold elim
    rw [hu]; exact hc
theorem okE_some {t:TypeId} {es:ES} (h:okE P t x=some es):es=.val x∧elimE P t x=true:=by
  unfold okE at h
  rw [guardE_some] at h
  exact ⟨(Option.some.inj h.2).symm,h.1⟩
end
section
variable {P:Program} {prv:List Nat} {m:Nm} {pv:EP} {pvc:PV} {st:St} {hp:HP} {ρ:Operand→Option ES} {ρc:Operand→Option SV} {o:Oper} {K:SV→PV→HP→Prop} {es:ES}
theorem valE_sound (hr:RR m pv ρ ρc) {x:Operand} {v:RV} (h:valE ρ x=some v):∃ w,ρc x=some (.val w)∧VR m v w:=by
  unfold valE at h
  split at h
  · rename_i v' hx
    cases h
    obtain ⟨s,h1,h2⟩:=hr x _ hx
    cases s with
    | val w=>exact ⟨w,h1,h2⟩
    | priv _ _=>exact h2.elim
  · cases h
theorem valsE_sound (hr:RR m pv ρ ρc):∀ {xs:List Operand} {vs:List RV},valsE ρ xs=some vs→∃ ws,xs.map ρc=ws.map (fun v=>some (.val v))∧VL m vs ws
  | [],vs,h=>by cases h; exact ⟨[],rfl,rfl⟩
  | x::xs,vs,h=>by
    simp only [valsE,Option.bind_eq_some_iff] at h
    obtain ⟨v,h1,us,h2,h3⟩:=h
    cases h3
    obtain ⟨w,e1,hw⟩:=valE_sound hr h1
    obtain ⟨ws,e2,hws⟩:=valsE_sound hr h2
    refine ⟨w::ws,by rw [List.map_cons,e1,e2]; rfl,?_⟩
    rw [VL_iff] at hws ⊢
    exact .cons hw hws
def PaR (m:Nm) (x:Nat × RV) (y:Nat × Value):Prop:=x.1=y.1∧VR m x.2 y.2
theorem partsE_sound (hr:RR m pv ρ ρc):∀ {xs:List (Nat × Operand)} {vs:List (Nat × RV)},partsE ρ xs=some vs→∃ ws,F2 (PaR m) vs ws∧∀ c:List (Nat × Value)→Prop,c ws→partsV ρc xs c
  | [],vs,h=>by cases h; exact ⟨[],.nil,fun c h=>h⟩
  | (i,x)::xs,vs,h=>by
    simp only [partsE,Option.bind_eq_some_iff] at h
    obtain ⟨v,h1,us,h2,h3⟩:=h
    cases h3
    obtain ⟨w,e1,hw⟩:=valE_sound hr h1
    obtain ⟨ws,hws,hk⟩:=partsE_sound hr h2
    exact ⟨(i,w)::ws,.cons ⟨rfl,hw⟩ hws,fun c hc=>vv_in e1 (hk _ hc)⟩
def OVR (m:Nm):Option RV→Option Value→Prop
  | none,none=>True
  | some x,some v=>VR m x v
  | _,_=>False
theorem optE_sound (hr:RR m pv ρ ρc) {x:Option Operand} {v:Option RV} (h:optE ρ x=some v):∃ w,OVR m v w∧∀ c:Option Value→Prop,c w→optV ρc x c:=by
  cases x with
  | none=>cases h; exact ⟨none,trivial,fun c h=>h⟩
  | some x=>
    simp only [optE,Option.bind_eq_some_iff] at h
    obtain ⟨v,h1,h2⟩:=h
    cases h2
    obtain ⟨w,e1,hw⟩:=valE_sound hr h1
    exact ⟨some w,hw,fun c h=>vv_in e1 h⟩
theorem intE_sound {x:RV} {i:Int} (h:intE x=some i) {v:Value} (hv:VR m x v) {c:Int→Prop} (hc:c i):intAny v c:=by
  unfold intE at h
  split at h
  · cases h
    have:=hv.vv
    subst this; exact hc
  · cases h
theorem exMove_some {x:Operand} (h:exMove ρ x=some es):ρ x=some es:=by
  simp only [exMove,Option.bind_eq_some_iff] at h
  obtain ⟨s,h1,h2⟩:=h
  cases h2; exact h1
theorem sxMove (hr:RR m pv ρ ρc) {x:Operand} (ho:o.op=.move x) (h:exMove ρ x=some es) (hK:∀ s,ESR m pv es s→K s pvc hp):execF P prv ρc o pvc hp K:=by
  simp only [execF,ho]
  obtain ⟨s,h1,h2⟩:=hr x es (exMove_some h)
  exact sv_in h1 (hK s h2)
theorem sxAssign (hr:RR m pv ρ ρc) {x:Operand} (ho:o.op=.assign x) (h:exMove ρ x=some es) (hK:∀ s,ESR m pv es s→K s pvc hp):execF P prv ρc o pvc hp K:=by
  simp only [execF,ho]
  obtain ⟨s,h1,h2⟩:=hr x es (exMove_some h)
  exact sv_in h1 (hK s h2)
theorem sxPick (hr:RR m pv ρ ρc) {c a b:Operand} (ho:o.op=.pick c a b) (h:exPick ρ c a b=some es) (hK:∀ s,ESR m pv es s→K s pvc hp):execF P prv ρc o pvc hp K:=by
  simp only [execF,ho]
  simp only [exPick,Option.bind_eq_some_iff] at h
  obtain ⟨v,h1,h⟩:=h
  obtain ⟨w,e1,hw⟩:=valE_sound hr h1
  refine vv_in e1 ?_
  split at h
  · have:=hw.vv
    subst this
    simp only [Option.bind_eq_some_iff] at h
    obtain ⟨s,h2,h3⟩:=h
    cases h3
    obtain ⟨s,h1,h2⟩:=hr a es h2
    exact sv_in h1 (hK s h2)
  · have:=hw.vv
    subst this
    simp only [Option.bind_eq_some_iff] at h
    obtain ⟨s,h2,h3⟩:=h
    cases h3
    obtain ⟨s,h1,h2⟩:=hr b es h2
    exact sv_in h1 (hK s h2)
  · cases h
theorem sxNilCheck (hr:RR m pv ρ ρc) {x:Operand} (ho:o.op=.nilCheck x) (h:exNilCheck ρ x=some es) (hK:∀ s,ESR m pv es s→K s pvc hp):execF P prv ρc o pvc hp K:=by
  simp only [execF,ho]
  simp only [exNilCheck,Option.bind_eq_some_iff] at h
  obtain ⟨v,h1,h⟩:=h
  obtain ⟨s,e1,hs⟩:=hr x v h1
  refine sv_in e1 ?_
  split at h
  · cases h
    cases s with
    | val _=>exact hs.elim
    | priv k off=>exact hK _ hs
  · cases h
    cases s with
    | priv _ _=>exact hs.elim
    | val w=>
      obtain ⟨b,hb,rfl⟩:=VR.p hs
      exact hK _ hs
  · cases h
    cases s with
    | priv _ _=>exact hs.elim
    | val w=>
      obtain ⟨x,y,_,_,rfl⟩:=VR.f hs
      exact hK _ hs
  · cases h
theorem sxFieldAddr (hr:RR m pv ρ ρc) {t:TypeId} {x:Operand} {f:Nat} (ho:o.op=.fieldAddr t x f) (h:exFieldAddr P ρ t x f=some es) (hK:∀ s,ESR m pv es s→K s pvc hp):execF P prv ρc o pvc hp K:=by
  simp only [execF,ho]
  simp only [exFieldAddr,Option.bind_eq_some_iff] at h
  obtain ⟨d,hd,v,h1,h⟩:=h
  obtain ⟨s,e1,hs⟩:=hr x v h1
  refine fldOff_in hd (sv_in e1 ?_)
  split at h
  · cases h
    cases s with
    | val _=>exact hs.elim
    | priv k off=>
      obtain ⟨rfl,rfl,c,hc⟩:=hs
      exact hK _ ⟨rfl,rfl,c,hc⟩
  · cases h
    cases s with
    | priv _ _=>exact hs.elim
    | val w=>
      obtain ⟨b,hb,rfl⟩:=VR.p hs
      exact hK _ (VR.mk_p hb)
  · cases h
theorem sxIndexAddr (hr:RR m pv ρ ρc) {t:TypeId} {x ix:Operand} (ho:o.op=.indexAddr t x ix) (h:exIndexAddr P ρ t x ix=some es) (hK:∀ s,ESR m pv es s→K s pvc hp):execF P prv ρc o pvc hp K:=by
  simp only [execF,ho]
  simp only [exIndexAddr,Option.bind_eq_some_iff] at h
  obtain ⟨vi,hvi,i,hi,v,h1,h⟩:=h
  obtain ⟨w,e1,hw⟩:=valE_sound hr hvi
  obtain ⟨s,e2,hs⟩:=hr x v h1
  refine vv_in e1 (intE_sound hi hw (sv_in e2 ?_))
  split at h
  · rename_i n e k g off hu
    simp only [Option.bind_eq_some_iff] at h
    obtain ⟨j,hj,z,hz,h⟩:=h
    cases h
    obtain ⟨i1,i2,rfl⟩:=idxE_some hj
    cases s with
    | val _=>exact hs.elim
    | priv k off=>
      obtain ⟨rfl,rfl,c,hc⟩:=hs
      rw [hu]
      exact ⟨i1,i2,sizeT_in hz (hK _ ⟨rfl,rfl,c,hc⟩)⟩
  · rename_i n e b off hu
    simp only [Option.bind_eq_some_iff] at h
    obtain ⟨j,hj,z,hz,h⟩:=h
    cases h
    obtain ⟨i1,i2,rfl⟩:=idxE_some hj
    cases s with
    | priv _ _=>exact hs.elim
    | val w=>
      obtain ⟨b,hb,rfl⟩:=VR.p hs
      rw [hu]
      exact ⟨i1,i2,sizeT_in hz (hK _ (VR.mk_p hb))⟩
  · rename_i e b off n cp hu
    simp only [Option.bind_eq_some_iff] at h
    obtain ⟨j,hj,z,hz,h⟩:=h
    cases h
    obtain ⟨i1,i2,rfl⟩:=idxE_some hj
    cases s with
    | priv _ _=>exact hs.elim
    | val w=>
      obtain ⟨b,hb,_,rfl⟩:=VR.s hs
      rw [hu]
      exact ⟨i1,i2,sizeT_in hz (hK _ (VR.mk_p hb))⟩
  · cases h
theorem strLen_eq (s:ByteArray):strLen s=s.size:=by
  unfold strLen
  rw [llen_eq,Array.length_toList]
  cases s; rfl
theorem sxIndex (hr:RR m pv ρ ρc) {t:TypeId} {x ix:Operand} (ho:o.op=.index t x ix) (h:exIndex P ρ t x ix=some es) (hK:∀ s,ESR m pv es s→K s pvc hp):execF P prv ρc o pvc hp K:=by
  simp only [execF,ho]
  simp only [exIndex,Option.bind_eq_some_iff] at h
  obtain ⟨vi,hvi,i,hi,v,h1,h⟩:=h
  obtain ⟨w,e1,hw⟩:=valE_sound hr hvi
  obtain ⟨u,e2,hu'⟩:=valE_sound hr h1
  refine vv_in e1 (intE_sound hi hw (vv_in e2 ?_))
  split at h
  · rename_i s hu
    simp only [Option.bind_eq_some_iff] at h
    obtain ⟨j,hj,h⟩:=h
    cases h
    obtain ⟨i1,i2,rfl⟩:=idxE_some hj
    have:=hu'.vv
    subst this
    rw [hu]
    rw [strLen_eq] at i2
    refine ⟨i1,i2,hK _ ?_⟩
    show VR m _ _
    rw [lget_eq]; rfl
  · rename_i n e v' hu
    simp only [Option.bind_eq_some_iff] at h
    obtain ⟨cs,hcs,h⟩:=h
    obtain ⟨vs,rfl,hvs⟩:=aggE_VR hcs hu'
    rw [hu]
    simp only
    split at h
    · rename_i hf
      simp only [Option.bind_eq_some_iff] at h
      obtain ⟨j,hj,z,hz,y,hy,h⟩:=h
      obtain ⟨i1,i2,rfl⟩:=idxE_some hj
      obtain ⟨rfl,hel⟩:=okE_some h
      rw [lget_eq] at hy
      obtain ⟨y',hy',hyr⟩:=hvs.get hy
      rw [hf]
      refine ⟨i1,i2,sizeT_in hz ?_⟩
      rw [hy']
      exact elimE_sound (c:=fun u=>K (.val u) pvc hp) hel hyr (hK (.val _) hyr)
    · cases h
  · cases h
theorem sxField (hr:RR m pv ρ ρc) {t:TypeId} {x:Operand} {f:Nat} (ho:o.op=.field t x f) (h:exField P ρ o t x f=some es) (hK:∀ s,ESR m pv es s→K s pvc hp):execF P prv ρc o pvc hp K:=by
  simp only [execF,ho]
  simp only [exField,Option.bind_eq_some_iff] at h
  obtain ⟨d,hd,v,h1,cs,hcs,h⟩:=h
  obtain ⟨u,e2,hu'⟩:=valE_sound hr h1
  obtain ⟨vs,rfl,hvs⟩:=aggE_VR hcs hu'
  refine fldOff_in hd (vv_in e2 ?_)
  rw [aggV_agg]
  split at h
  · rename_i hf
    simp only [Option.bind_eq_some_iff] at h
    obtain ⟨y,hy,h⟩:=h
    obtain ⟨rfl,hel⟩:=okE_some h
    rw [lget_eq] at hy
    obtain ⟨y',hy',hyr⟩:=hvs.get hy
    rw [hf,hy']
    exact elimE_sound (c:=fun u=>K (.val u) pvc hp) hel hyr (hK (.val _) hyr)
  · rename_i hf
    simp only [Option.bind_eq_some_iff] at h
    obtain ⟨z,hz,y,hy,h⟩:=h
    cases h
    obtain ⟨us,hus,hur⟩:=cutE_VL hy hvs
    rw [hf]
    refine sizeT_in hz ?_
    rw [hus]
    exact hK _ (mkAgg_VR hur)
  · cases h
theorem pvCell_of (hp':PR m pv pvc) {k g off:Nat} {c:TypeId × List RV} (hg:pv.get k=some (g,some c)) {x:RV} (hx:c.2[off]?=some x):∃ v,pvCell pvc k off=some v∧VR m x v:=by
  obtain ⟨T,cs⟩:=c
  obtain ⟨vs,h1,h2⟩:=hp'.get hg
  obtain ⟨v,h3,h4⟩:=h2.get hx
  exact ⟨v,by unfold pvCell; rw [h1]; exact h3,h4⟩
theorem sxLoad (hr:RR m pv ρ ρc) (hpv:PR m pv pvc) (hs:SR P m st hp) {t:TypeId} {x:Operand} (ho:o.op=.load t x) (h:exLoad P prv ρ t x pv st=some es) (hK:∀ s,ESR m pv es s→K s pvc hp):execF P prv ρc o pvc hp K:=by
  simp only [execF,ho]
  simp only [exLoad,Option.bind_eq_some_iff] at h
  obtain ⟨v,h1,h⟩:=h
  obtain ⟨s,e1,hsr⟩:=hr x v h1
  refine sv_in e1 ?_
  split at h
  · rename_i k g off hf hx
    simp only [Option.bind_eq_some_iff] at h
    obtain ⟨c,hc,y,hy,h⟩:=h
    obtain ⟨rfl,hel⟩:=okE_some h
    rw [pvGet_some] at hc
    rw [lget_eq] at hy
    obtain ⟨y',hy',hyr⟩:=pvCell_of hpv hc hy
    cases s with
    | val _=>exact hsr.elim
    | priv k' off'=>
      obtain ⟨rfl,rfl,_⟩:=hsr
      rw [hf,hx]
      show ldV _ _
      rw [hy']
      exact elimE_sound (c:=fun u=>K (.val u) pvc hp) hel hyr (hK (.val _) hyr)
  · rename_i i off hf hx
    simp only [Option.bind_eq_some_iff] at h
    obtain ⟨cs,hc,y,hy,h⟩:=h
    obtain ⟨rfl,hel⟩:=okE_some h
    rw [lget_eq] at hy
    cases s with
    | priv _ _=>exact hsr.elim
    | val w=>
      obtain ⟨b,hb,rfl⟩:=VR.p hsr
      obtain ⟨vs,hvs,a1,a2⟩:=hs.cells hc hb
      obtain ⟨y',hy',hyr⟩:=hvs.get hy
      rw [hf,hx]
      show ldV _ _
      rw [a1 _ _ hy']
      exact elimE_sound (c:=fun u=>K (.val u) pvc hp) hel hyr (hK (.val _) hyr)
  · rename_i k g off hf hx
    simp only [Option.bind_eq_some_iff] at h
    obtain ⟨z,hz,c,hc,y,hy,h⟩:=h
    cases h
    rw [pvGet_some] at hc
    obtain ⟨T,cs⟩:=c
    obtain ⟨vs,h1,h2⟩:=hpv.get hc
    obtain ⟨us,hus,hur⟩:=cutE_VL hy h2
    cases s with
    | val _=>exact hsr.elim
    | priv k' off'=>
      obtain ⟨rfl,rfl,_⟩:=hsr
      rw [hf,hx]
      refine sizeT_in hz ?_
      have:pvCellN pvc k off z=some us:=by unfold pvCellN; rw [h1]; exact hus
      rw [this]
      exact hK _ (mkAgg_VR hur)
  · rename_i i off hf hx
    simp only [Option.bind_eq_some_iff] at h
    obtain ⟨z,hz,cs,hc,y,hy,h⟩:=h
    cases h
    cases s with
    | priv _ _=>exact hsr.elim
    | val w=>
      obtain ⟨b,hb,rfl⟩:=VR.p hsr
      obtain ⟨vs,hvs,a1,a2⟩:=hs.cells hc hb
      obtain ⟨us,hus,hur⟩:=cutE_VL hy hvs
      rw [hf,hx]
      simp only [ptrN_some]
      refine sizeT_in hz ?_
      rw [a2 _ _ _ hus]
      exact hK _ (mkAgg_VR hur)
  · cases h
theorem sxExtract (hr:RR m pv ρ ρc) {x:Operand} {i:Nat} (ho:o.op=.extract x i) (h:exExtract P ρ o x i=some es) (hK:∀ s,ESR m pv es s→K s pvc hp):execF P prv ρc o pvc hp K:=by
  simp only [execF,ho]
  simp only [exExtract,Option.bind_eq_some_iff] at h
  obtain ⟨v,h1,cs,hcs,y,hy,h⟩:=h
  obtain ⟨rfl,hel⟩:=okE_some h
  obtain ⟨u,e2,hu'⟩:=valE_sound hr h1
  obtain ⟨vs,rfl,hvs⟩:=tupE_VR hcs hu'
  rw [lget_eq] at hy
  obtain ⟨y',hy',hyr⟩:=hvs.get hy
  refine vv_in e2 ?_
  show ldV _ _
  rw [hy']
  exact elimE_sound (c:=fun u=>K (.val u) pvc hp) hel hyr (hK (.val _) hyr)
theorem semE_semV:∀ {s:Sem Value} {v:Value} {c:Value→Prop},semE P s=some v→c v→semV P s c
  | .pure v,u,c,h,hc=>by
    have:v=u:=Option.some.inj h
    subst this; exact hc
  | .program k,u,c,h,hc=>semE_semV (s:=k P) h hc
  | .load ..,_,_,h,_=>by cases h
  | .store ..,_,_,h,_=>by cases h
  | .new ..,_,_,h,_=>by cases h
  | .shape ..,_,_,h,_=>by cases h
  | .freeze ..,_,_,h,_=>by cases h
  | .frozen ..,_,_,h,_=>by cases h
  | .getObj ..,_,_,h,_=>by cases h
  | .setObj ..,_,_,h,_=>by cases h
  | .choose ..,_,_,h,_=>by cases h
  | .sys ..,_,_,h,_=>by cases h
  | .mark ..,_,_,h,_=>by cases h
  | .halt ..,_,_,h,_=>by cases h
theorem semVE_some {s:Sem Value} {x:RV} (h:semVE P s=some x):∃ v,x=.v v∧semE P s=some v:=by
  unfold semVE at h
  rw [Option.bind_eq_some_iff] at h
  obtain ⟨v,h1,h2⟩:=h
  exact ⟨v,(Option.some.inj h2).symm,h1⟩
theorem VR.rfl' (v:Value):VR m (.v v) v:=rfl
theorem sxUnOp (hr:RR m pv ρ ρc) {op:UnOp} {t:TypeId} {x:Operand} (ho:o.op=.unOp op t x) (h:exUnOp P ρ op x=some es) (hK:∀ s,ESR m pv es s→K s pvc hp):execF P prv ρc o pvc hp K:=by
  simp only [execF,ho]
  simp only [exUnOp,Option.bind_eq_some_iff] at h
  obtain ⟨v,h1,h⟩:=h
  obtain ⟨u,e2,hu⟩:=valE_sound hr h1
  refine vv_in e2 ?_
  split at h
  · have:=hu.vv
    subst this
    simp only [Option.bind_eq_some_iff] at h
    obtain ⟨y,hy,h⟩:=h
    cases h
    obtain ⟨w,rfl,hw⟩:=semVE_some hy
    exact semE_semV hw (hK _ (VR.rfl' _))
  · cases h
theorem sxTypeAssert (hr:RR m pv ρ ρc) {x:Operand} {xt t:TypeId} {ok:Bool} (ho:o.op=.typeAssert x xt t ok) (h:exTypeAssert P ρ o x xt t ok=some es) (hK:∀ s,ESR m pv es s→K s pvc hp):execF P prv ρc o pvc hp K:=by
  simp only [execF,ho]
  simp only [exTypeAssert,Option.bind_eq_some_iff] at h
  obtain ⟨v,h1,h⟩:=h
  obtain ⟨u,e2,hu⟩:=valE_sound hr h1
  refine vv_in e2 ?_
  split at h
  · have:=hu.vv
    subst this
    simp only [Option.bind_eq_some_iff] at h
    obtain ⟨y,hy,h⟩:=h
    obtain ⟨w,rfl,hw⟩:=semVE_some hy
    obtain ⟨rfl,hel⟩:=okE_some h
    refine ⟨w,fun F w0 ww hf=>?_,elimE_sound (m:=m) hel (VR.rfl' _) (hK _ (VR.rfl' _))⟩
    obtain ⟨w',hr',hc⟩:=semV_run (P:=P) (w:=ww) (semE_semV (c:=fun y=>y=w) hw rfl)
    rw [hr',hc]
  · cases h
theorem mkIfE {t:TypeId} {a:Value}:semE P (Instr.makeInterface t a)=(match P.underlying t with | some (.interface _)=>none | some _=>some (.iface t a) | none=>none):=by
  simp only [Instr.makeInterface,underlying,program,Bind.bind,Sem.bind,semE]
  cases P.underlying t with
  | none=>rfl
  | some d=>cases d <;> rfl
theorem mkIfV {t:TypeId} {a:Value} {c:Value→Prop}:semV P (Instr.makeInterface t a) c=(match P.underlying t with | some (.interface _)=>False | some _=>c (.iface t a) | none=>False):=by
  simp only [Instr.makeInterface,underlying,program,Bind.bind,Sem.bind,semV]
  cases P.underlying t with
  | none=>rfl
  | some d=>cases d <;> rfl
theorem sxMakeInterface (hr:RR m pv ρ ρc) {t:TypeId} {x:Operand} (ho:o.op=.makeInterface t x) (h:exMakeInterface P ρ t x=some es) (hK:∀ s,ESR m pv es s→K s pvc hp):execF P prv ρc o pvc hp K:=by
  simp only [execF,ho]
  simp only [exMakeInterface,Option.bind_eq_some_iff] at h
  obtain ⟨v,h1,h⟩:=h
  obtain ⟨u,e2,hu⟩:=valE_sound hr h1
  refine vv_in e2 ?_
  split at h
  · have:=hu.vv
    subst this
    simp only [Option.bind_eq_some_iff] at h
    obtain ⟨y,hy,h⟩:=h
    cases h
    obtain ⟨w,rfl,hw⟩:=semVE_some hy
    exact semE_semV hw (hK _ (VR.rfl' _))
  · simp only [Option.bind_eq_some_iff] at h
    obtain ⟨y,hy,h⟩:=h
    cases h
    have hk:K (.val (.iface t u)) pvc hp:=hK _ (by show VR m _ _; simp only [VR,conc,Option.bind_eq_some_iff]; exact ⟨u,hu,rfl⟩)
    rw [mkIfE] at hy
    rw [mkIfV]
    split at hy
    · cases hy
    · exact hk
    · cases hy
theorem sxMakeFunc (hr:RR m pv ρ ρc) {g:FuncId} {first captured:Array Operand} (ho:o.op=.makeFunc (.func g) first captured) (h:exMakeFunc ρ g first captured=some es) (hK:∀ s,ESR m pv es s→K s pvc hp):execF P prv ρc o pvc hp K:=by
  simp only [execF,ho]
  simp only [exMakeFunc,Option.bind_eq_some_iff] at h
  obtain ⟨a,h1,b,h2,h⟩:=h
  cases h
  obtain ⟨ws,e1,hws⟩:=valsE_sound hr h1
  obtain ⟨us,e2,hus⟩:=valsE_sound hr h2
  refine vvs_in e1 (vvs_in e2 (hK _ ?_))
  show VR m _ _
  simp only [VR,conc,Option.bind_eq_some_iff]
  exact ⟨ws,hws,us,hus,rfl⟩
end
end Go.HL
