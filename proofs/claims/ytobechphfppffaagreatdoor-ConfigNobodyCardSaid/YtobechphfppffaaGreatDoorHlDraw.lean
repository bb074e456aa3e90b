/- The heaplet logic, part 17: a region that draws its order. -/
import Derived.Test.YtobechphfppffaaGreatDoorHlCls4
set_option linter.unusedVariables false
set_option linter.unusedSimpArgs false
namespace Go.HL
open Go
theorem partsV_congr {ρ ρ':Operand→Option SV} {c:List (Nat × Value)→Prop}:∀ {xs:List (Nat × Operand)},(∀ p∈xs,ρ p.2=ρ' p.2)→(partsV ρ xs c=partsV ρ' xs c)
  | [],_=>rfl
  | (i,x)::xs,h=>by
    unfold partsV
    rw [h (i,x) (by simp)]
    refine congrArg _ (funext fun v=>?_)
    exact partsV_congr (fun p hp=>h p (by simp [hp]))
theorem optV_congr {ρ ρ':Operand→Option SV} {c:Option Value→Prop} {x:Option Operand} (h:∀ y,x=some y→ρ y=ρ' y):optV ρ x c=optV ρ' x c:=by
  cases x with
  | none=>rfl
  | some x=>show vv (ρ x) _=vv (ρ' x) _; rw [h x rfl]
theorem vvs_congr {ρ ρ':Operand→Option SV} {xs:Array Operand} (h:∀ x∈xs,ρ x=ρ' x):xs.toList.map ρ=xs.toList.map ρ':=
  List.map_congr_left fun x hx=>h x (by simpa using hx)
theorem execF_congr {P:Program} {prv:List Nat} {ρ ρ':Operand→Option SV} {o:Oper} (h:∀ x∈o.op.operands.toList,ρ x=ρ' x) (pv:PV) (hp:HP) (K:SV→PV→HP→Prop) :
    execF P prv ρ o pv hp K=execF P prv ρ' o pv hp K:=by
  cases hop:o.op <;> rw [hop] at h <;> simp only [execF,hop] <;> simp only [Op.operands] at h
  case slice t x lo hi mx=>
    have hx:ρ x=ρ' x:=h x (by simp)
    have h1:∀ y,lo=some y→ρ y=ρ' y:=fun y e=>h y (by simp [e])
    have h2:∀ y,hi=some y→ρ y=ρ' y:=fun y e=>h y (by simp [e])
    have h3:∀ y,mx=some y→ρ y=ρ' y:=fun y e=>h y (by simp [e])
    rw [hx]
    refine congrArg _ (funext fun v=>?_)
    rw [optV_congr h1]
    refine congrArg _ (funext fun lo=>?_)
    rw [optV_congr h2]
    refine congrArg _ (funext fun hi=>?_)
    rw [optV_congr h3]
  case build t parts=>
    exact partsV_congr fun p hp=>h p.2 (by simp; exact ⟨p.1,by simpa using hp⟩)
  case buildSlice t n parts=>
    exact partsV_congr fun p hp=>h p.2 (by simp; exact ⟨p.1,by simpa using hp⟩)
  case makeFunc fn a b=>
    rw [vvs_congr (xs:=a) fun x hx=>h x (by simp [hx]),vvs_congr (xs:=b) fun x hx=>h x (by simp [hx])]
  case call c=>
    obtain ⟨callee,args,ts⟩:=c
    have ha:args.toList.map ρ=args.toList.map ρ':=vvs_congr fun x hx=>h x (by simp [Call.operands,hx])
    cases callee with
    | builtin b=>simp only; rw [ha]
    | value f=>
      have hf:ρ f=ρ' f:=h f (by simp [Call.operands])
      simp only; rw [hf,ha]
    | invoke r n=>
      have hf:ρ r=ρ' r:=h r (by simp [Call.operands])
      simp only; rw [hf,ha]
  case makeMap t r=>cases r <;> rfl
  all_goals (simp at h; simp [h])
def slotsO (o:Oper):List Nat:=o.op.operands.toList.filterMap fun x=>match x with | .tmp t=>some t | _=>none
def slotsG (ops:Array Oper) (o:Oper):List Nat:=match o.guard with
  | some (j,_)=>match dstOf ops j with
    | some d=>[d]
    | none=>[]
  | none=>[]
def freeOf (ops:Array Oper) (d:Option Tmp) (o:Oper):Bool:=match d with
  | none=>true
  | some d=>!(slotsO o).contains d&&!(slotsG ops o).contains d
def diff (a b:Option Tmp):Bool:=match a,b with
  | some a,some b=>a != b
  | _,_=>true
def clsOk (a b:Nat):Bool:=a==0||b==0||(a≤1&&b≤1)||(a≤2&&3≤b)||(3≤a&&b≤2)||(a==3&&b==3)
def comm (P:Program) (prv:List Nat) (ops:Array Oper) (i j:Nat):Bool:=match ops[i]?,ops[j]? with
  | some a,some b=>freeOf ops a.dst b&&freeOf ops b.dst a&&diff a.dst b.dst&&clsOk (clsO P prv a) (clsO P prv b)
  | _,_=>false
section
variable {P:Program} {F:Nat→Prop} {w0:World} {N:Nat} {prv:List Nat} {ops:Array Oper} {Q:Exit→Act→World→Prop}
theorem opnd_free {env:Env} {d:Option Tmp} {s:SV} {o:Oper} (h:freeOf ops d o=true):∀ x∈o.op.operands.toList,opnd (putD env d s) x=opnd env x:=by
  intro x hx
  cases d with
  | none=>rfl
  | some d=>
    simp only [freeOf,Bool.and_eq_true,Bool.not_eq_true'] at h
    cases x with
    | tmp t=>
      have:t∈slotsO o:=List.mem_filterMap.2 ⟨.tmp t,hx,rfl⟩
      have hne:t≠d:=fun e=>by
        have h1:=h.1
        rw [← e] at h1
        simp [this] at h1
      simp only [opnd,putD,upd_ne _ _ hne]
    | const v=>rfl
    | global g=>rfl
    | func f=>rfl
theorem gd_free {env:Env} {d:Option Tmp} {s:SV} {o:Oper} (h:freeOf ops d o=true):gd ops (putD env d s) o=gd ops env o:=by
  cases d with
  | none=>rfl
  | some d=>
    simp only [freeOf,Bool.and_eq_true,Bool.not_eq_true'] at h
    unfold gd
    cases hg:o.guard with
    | none=>rfl
    | some g=>
      obtain ⟨j,want⟩:=g
      simp only
      cases hd:(ops[j]?).bind (·.dst) with
      | none=>rfl
      | some e=>
        have hs:e∈slotsG ops o:=by simp [slotsG,hg,dstOf,hd]
        have hne:e≠d:=fun e'=>by
          have h1:=h.2
          rw [← e'] at h1
          simp [hs] at h1
        simp only [putD,upd_ne _ _ hne]
def st1 (P:Program) (N:Nat) (prv:List Nat) (ops:Array Oper) (o:Oper) (env:Env) (pv:PV) (hp:HP) (K:SV→PV→HP→Prop):Prop:=
  dstOk N o=true∧match gd ops env o with
    | some true=>execF P prv (opnd env) o pv hp K
    | some false=>K (.val undef) pv hp
    | none=>False
theorem stepF_iff {i:Nat} {o:Oper} (ho:ops[i]?=some o) {env:Env} {pv:PV} {hp:HP} {K:SV→PV→HP→Prop}:stepF P N prv ops i env pv hp K↔st1 P N prv ops o env pv hp K:=by
  unfold stepF st1
  simp only [ho]
  have e:(fun s pv hp=>splitG (isGuard ops i) s fun s=>K s pv hp)=K:=by
    funext s pv hp; exact propext splitG_iff
  by_cases hd:dstOk N o=true
  · rw [if_pos hd,e]
    exact ⟨fun h=>⟨hd,h⟩,fun h=>h.2⟩
  · rw [if_neg hd]
    exact ⟨fun h=>h.elim,fun h=>hd h.1⟩
theorem st1_free {env:Env} {d:Option Tmp} {s:SV} {o:Oper} (h:freeOf ops d o=true) (pv:PV) (hp:HP) (K:SV→PV→HP→Prop) :
    st1 P N prv ops o (putD env d s) pv hp K=st1 P N prv ops o env pv hp K:=by
  unfold st1
  rw [gd_free h]
  cases gd ops env o with
  | none=>rfl
  | some b=>
    cases b with
    | false=>rfl
    | true=>simp only; rw [execF_congr (opnd_free h)]
theorem st1_loc {o:Oper} {env:Env} {pv:PV} {hp:HP} {K:SV→PV→HP→Prop} (hc:clsO P prv o≤2) (h:st1 P N prv ops o env pv hp K) :
    ∃ s pv',(∀ hp2 (K2:SV→PV→HP→Prop),st1 P N prv ops o env pv hp2 K2↔K2 s pv' hp2)∧(clsO P prv o≤1→pv'=pv) ∧
      (clsO P prv o=0→∀ pv2 hp2 (K2:SV→PV→HP→Prop),st1 P N prv ops o env pv2 hp2 K2↔K2 s pv2 hp2):=by
  obtain ⟨hd,h⟩:=h
  unfold st1
  simp only [hd,true_and]
  cases hg:gd ops env o with
  | none=>rw [hg] at h; exact h.elim
  | some b=>
    rw [hg] at h
    cases b with
    | false=>exact ⟨.val undef,pv,fun _ _=>Iff.rfl,fun _=>rfl,fun _ _ _ _=>Iff.rfl⟩
    | true=>exact loc_inv hc h
theorem st1_hp {o:Oper} {env:Env} {pv pv2:PV} {hp:HP} {K K2:SV→PV→HP→Prop} (hc:3≤clsO P prv o) (h:st1 P N prv ops o env pv hp K) (hk:∀ s hp',K s pv hp'→K2 s pv2 hp') :
    st1 P N prv ops o env pv2 hp K2:=by
  refine ⟨h.1,?_⟩
  have h:=h.2
  split at h
  · rename_i hg; exact hp_mono hc h hk
  · rename_i hg; exact hk _ _ h
  · exact h.elim
theorem st1_sat {o:Oper} {env:Env} {pv:PV} {hp:HP} {K:SV→PV→HP→Prop} (hc:3≤clsO P prv o) (h:st1 P N prv ops o env pv hp K) (hs:Sat hp):∃ s hp',K s pv hp'∧Sat hp':=by
  have h:=h.2
  split at h
  · exact hp_sat hc h hs
  · exact ⟨_,_,h,hs⟩
  · exact h.elim
theorem st1_read {o:Oper} {env:Env} {pv:PV} {hp:HP} {K:SV→PV→HP→Prop} (hc:clsO P prv o=3) (h:st1 P N prv ops o env pv hp K) (hs:Sat hp) :
    ∃ s,∀ pv2 (K2:SV→PV→HP→Prop),st1 P N prv ops o env pv2 hp K2↔K2 s pv2 hp:=by
  obtain ⟨hd,h⟩:=h
  unfold st1
  simp only [hd,true_and]
  cases hg:gd ops env o with
  | none=>rw [hg] at h; exact h.elim
  | some b=>
    rw [hg] at h
    cases b with
    | false=>exact ⟨.val undef,fun _ _=>Iff.rfl⟩
    | true=>exact read_inv hc h hs
theorem st1_swap {a b:Oper} {env:Env} {pv:PV} {hp:HP} {R:SV→SV→PV→HP→Prop} (hc:clsOk (clsO P prv a) (clsO P prv b)=true) (hs:Sat hp)
    (h:st1 P N prv ops a env pv hp fun s pv hp=>Sat hp→st1 P N prv ops b env pv hp fun t pv hp=>Sat hp→R s t pv hp) :
    st1 P N prv ops b env pv hp fun t pv hp=>Sat hp→st1 P N prv ops a env pv hp fun s pv hp=>Sat hp→R s t pv hp:=by
  by_cases ha:clsO P prv a≤2
  · obtain ⟨s,pv',h1,h2,h3⟩:=st1_loc ha h
    have hb:=(h1 _ _).1 h hs
    by_cases hb2:clsO P prv b≤2
    · obtain ⟨t,pv'',k1,k2,k3⟩:=st1_loc hb2 hb
      have hr:=(k1 _ _).1 hb
      by_cases a0:clsO P prv a=0
      · have e:pv'=pv:=h2 (by omega)
        subst e
        exact (k1 _ _).2 fun _=>(h3 a0 _ _ _).2 hr
      · by_cases b0:clsO P prv b=0
        · have e:pv''=pv':=k2 (by omega)
          subst e
          exact (k3 b0 _ _ _).2 fun _=>(h1 _ _).2 hr
        · have:clsO P prv a≤1∧clsO P prv b≤1:=by
            simp only [clsOk,Bool.or_eq_true,Bool.and_eq_true,beq_iff_eq,decide_eq_true_eq] at hc
            omega
          have e:=h2 this.1
          subst e
          have e:=k2 this.2
          subst e
          exact (k1 _ _).2 fun _=>(h1 _ _).2 hr
    · exact st1_hp (by omega) hb fun t hp' hr hs'=>(h1 _ _).2 fun hs''=>hr hs''
  · by_cases hb2:clsO P prv b≤2
    · obtain ⟨s,hp1,k,hs1⟩:=st1_sat (by omega) h hs
      obtain ⟨t,pv',k1,k2,k3⟩:=st1_loc hb2 (k hs1)
      refine (k1 _ _).2 fun _=>st1_hp (by omega) h fun s hp' hk hs'=>?_
      exact (k1 _ _).1 (hk hs') hs'
    · have:clsO P prv a=3∧clsO P prv b=3:=by
        simp only [clsOk,Bool.or_eq_true,Bool.and_eq_true,beq_iff_eq,decide_eq_true_eq] at hc
        omega
      obtain ⟨s,h1⟩:=st1_read this.1 h hs
      have hb:=(h1 _ _).1 h hs
      obtain ⟨t,k1⟩:=st1_read this.2 hb hs
      exact (k1 _ _).2 fun _=>(h1 _ _).2 fun hs'=>(k1 _ _).1 hb hs'
def RG (P:Program) (N:Nat) (prv:List Nat) (ops:Array Oper):List Nat→Env→PV→HP→(Env→PV→HP→Prop)→Prop
  | [],env,pv,hp,K=>K env pv hp
  | i::l,env,pv,hp,K=>stepF P N prv ops i env pv hp fun s pv hp=>Sat hp→RG P N prv ops l (putD env (dstOf ops i) s) pv hp K
theorem st1_mono {o:Oper} {env:Env} {pv:PV} {hp:HP} {K K2:SV→PV→HP→Prop} (h:st1 P N prv ops o env pv hp K) (hk:∀ s pv hp,K s pv hp→K2 s pv hp):st1 P N prv ops o env pv hp K2:=by
  by_cases hc:clsO P prv o≤2
  · obtain ⟨s,pv',h1,_,_⟩:=st1_loc hc h
    exact (h1 _ _).2 (hk _ _ _ ((h1 _ _).1 h))
  · exact st1_hp (by omega) h fun s hp'=>hk _ _ _
theorem stepF_some {i:Nat} {env:Env} {pv:PV} {hp:HP} {K:SV→PV→HP→Prop} (h:stepF P N prv ops i env pv hp K):∃ o,ops[i]?=some o:=by
  unfold stepF at h
  cases ho:ops[i]? with
  | none=>rw [ho] at h; exact h.elim
  | some o=>exact ⟨o,rfl⟩
theorem stepF_mono {i:Nat} {env:Env} {pv:PV} {hp:HP} {K K2:SV→PV→HP→Prop} (h:stepF P N prv ops i env pv hp K) (hk:∀ s pv hp,K s pv hp→K2 s pv hp):stepF P N prv ops i env pv hp K2:=by
  obtain ⟨o,ho⟩:=stepF_some h
  exact (stepF_iff ho).2 (st1_mono ((stepF_iff ho).1 h) hk)
theorem RG_of_RW:∀ {l:List Nat} {env pv hp} {K:Env→PV→HP→Prop},RW P N prv ops l env pv hp K→RG P N prv ops l env pv hp K
  | [],_,_,_,_,h=>h
  | _::_,_,_,_,_,h=>stepF_mono h fun _ _ _ h _=>RG_of_RW h
theorem putD_comm {env:Env} {a b:Option Tmp} {s t:SV} (h:diff a b=true):putD (putD env a s) b t=putD (putD env b t) a s:=by
  cases a with
  | none=>rfl
  | some a=>
    cases b with
    | none=>rfl
    | some b=>exact upd_comm _ _ _ (by simpa [diff] using h)
theorem RG_swap {i j:Nat} {l:List Nat} {env pv hp} {K:Env→PV→HP→Prop} (hc:comm P prv ops i j=true) (hs:Sat hp) (h:RG P N prv ops (i::j::l) env pv hp K):RG P N prv ops (j::i::l) env pv hp K:=by
  unfold comm at hc
  split at hc
  · rename_i a b ha hb
    simp only [Bool.and_eq_true] at hc
    obtain ⟨⟨⟨f1,f2⟩,f3⟩,f4⟩:=hc
    have di:dstOf ops i=a.dst:=by simp [dstOf,ha]
    have dj:dstOf ops j=b.dst:=by simp [dstOf,hb]
    simp only [RG,di,dj] at h ⊢
    rw [stepF_iff ha] at h
    rw [stepF_iff hb]
    have h':=st1_mono h (K2:=fun s pv hp=>Sat hp→st1 P N prv ops b env pv hp fun t pv hp=>Sat hp→RG P N prv ops l (putD (putD env a.dst s) b.dst t) pv hp K) fun s pv hp hk hs=>by
      have:=(stepF_iff hb).1 (hk hs)
      rwa [st1_free f1] at this
    refine st1_mono (st1_swap f4 hs h') fun t pv hp hk hs=>?_
    rw [stepF_iff ha,st1_free f2]
    refine st1_mono (hk hs) fun s pv hp hk hs=>?_
    rw [← putD_comm f3]
    exact hk hs
  · cases hc
theorem RG_front {y:Nat} {post:List Nat}:∀ {pre:List Nat} {env pv hp} {K:Env→PV→HP→Prop},(∀ x∈pre,comm P prv ops x y=true)→Sat hp →
    RG P N prv ops (pre++y::post) env pv hp K→RG P N prv ops (y::(pre++post)) env pv hp K
  | [],_,_,_,_,_,_,h=>h
  | x::pre,env,pv,hp,K,hx,hs,h=>by
    refine RG_swap (hx x (by simp)) hs ?_
    exact stepF_mono h fun s pv hp hk hs=>RG_front (fun z hz=>hx z (by simp [hz])) hs (hk hs)
theorem RG_perm:∀ {l l0:List Nat} {env pv hp} {K:Env→PV→HP→Prop},l0.Nodup→(∀ x,x∈l0↔x∈l)→l.Nodup →
    (∀ x y,[x,y].Sublist l0→[y,x].Sublist l→comm P prv ops x y=true)→Sat hp→RG P N prv ops l0 env pv hp K→RG P N prv ops l env pv hp K
  | [],l0,env,pv,hp,K,_,hm,_,_,_,h=>by
    cases l0 with
    | nil=>exact h
    | cons x xs=>exact absurd ((hm x).1 (by simp)) (by simp)
  | y::l,l0,env,pv,hp,K,hn0,hm,hn,hc,hs,h=>by
    obtain ⟨pre,post,rfl⟩:=List.append_of_mem ((hm y).2 (by simp))
    have hny:y ∉ pre∧y ∉ post∧(pre++post).Nodup:=by
      rw [List.nodup_append] at hn0
      obtain ⟨n1,n2,n3⟩:=hn0
      rw [List.nodup_cons] at n2
      refine ⟨fun hy=>n3 y hy y (by simp) rfl,n2.1,?_⟩
      rw [List.nodup_append]
      exact ⟨n1,n2.2,fun a ha b hb=>n3 a ha b (by simp [hb])⟩
    rw [List.nodup_cons] at hn
    have hmem:∀ x,x∈pre++post↔x∈l:=by
      intro x
      constructor
      · intro hx
        have hx':x∈pre++y::post:=by simp at hx ⊢; rcases hx with h | h <;> simp [h]
        have:=(hm x).1 hx'
        rcases List.mem_cons.1 this with e | e
        · subst e; exact absurd hx (by simp [hny.1,hny.2.1])
        · exact e
      · intro hx
        have:=(hm x).2 (by simp [hx])
        simp at this ⊢
        rcases this with h | h | h
        · exact .inl h
        · subst h; exact absurd hx hn.1
        · exact .inr h
    have h:=RG_front (fun x hx=>hc x y (by
        have:[x,y]=[x]++[y]:=rfl
        rw [this]
        exact List.Sublist.append (List.singleton_sublist.2 hx) (List.singleton_sublist.2 (by simp))) (by
        have:x∈l:=(hmem x).1 (by simp [hx])
        exact List.Sublist.cons_cons _ (List.singleton_sublist.2 this))) hs h
    exact stepF_mono h fun s pv hp hk hs=>RG_perm hny.2.2 hmem hn.2 (fun a b hab hba=>hc a b (hab.trans (by
        refine List.Sublist.append_left ?_ _
        exact List.sublist_cons_self _ _)) (hba.trans (List.sublist_cons_self _ _))) hs (hk hs)
theorem RG_sound:∀ (l:List Nat) {env pv hp nm tmps w} {K:Env→PV→HP→Prop},RG P N prv ops l env pv hp K→Sim F w0 N env pv hp nm tmps w→RefOk env pv →
    (∀ env pv hp nm tmps w,K env pv hp→Sim F w0 N env pv hp nm tmps w→RefOk env pv→Q .normal { tmps,defers:=[] } w)→wpOps P ops Q l { tmps,defers:=[] } w
  | [],env,pv,hp,nm,tmps,w,K,h,hs,hr,hQ=>hQ _ _ _ _ _ _ h hs hr
  | i::l,env,pv,hp,nm,tmps,w,K,h,hs,hr,hQ=>by
    unfold RG stepF at h
    unfold wpOps
    cases ho:ops[i]? with
    | none=>rw [ho] at h; exact h.elim
    | some o=>
      simp only [ho] at h
      dsimp only
      split at h
      · rename_i hd
        have hdo:dstOf ops i=o.dst:=by simp [dstOf,ho]
        rw [hdo] at h
        split at h
        · rename_i hg
          rw [gd_wanted hs hg,if_pos rfl]
          refine .inl (execF_sound h hs hr ?_)
          intro s pv' hp' nm' w' hk hs' hr' hsr
          have hk:=splitG_iff.1 hk
          rw [put_act]
          exact RG_sound l (hk ⟨_,_,_,hs'.fits⟩) (hs'.putD hd s) (hr'.putD _ hsr) hQ
        · rename_i hg
          rw [gd_wanted hs hg]
          simp only [Bool.false_eq_true,if_false]
          rw [put_act]
          exact RG_sound l (h ⟨_,_,_,hs.fits⟩) (hs.putD hd (.val undef)) (hr.putD _ (SRef.val _ _)) hQ
        · exact h.elim
      · exact h.elim
end
end Go.HL
