/- The heaplet logic, part 15: the classes of operations: what is unique, what is kept, what comes. -/
import Derived.Test.YtobechphfppffaaGreatDoorHlCls2
set_option linter.unusedVariables false
set_option linter.unusedSimpArgs false
namespace Go.HL
open Go
section
variable {P:Program} {prv:List Nat} {ρ:Operand→Option SV} {o:Oper}
theorem pure_det (hc:clsO P prv o=0):Det (pureF P prv ρ o):=by
  unfold pureF
  cases hop:o.op <;> simp only [execF,hop] <;> simp only [clsO,hop] at hc
  case move x=>exact Det.sv _
  case assign x=>exact Det.sv _
  case pick c a b=>exact (Det.vv _).bind fun v=>(Det.boolV v).bind fun t=>Det.ite2 t (Det.sv _) (Det.sv _)
  case nilCheck x=>
    refine (Det.sv _).bind fun s=>?_
    split
    · exact Det.pure _
    · exact Det.ptrN _ _ fun b o=>Det.pure (α:=SV) (.val (ptr b o))
    · exact Det.pure _
    · exact Det.false
  case fieldAddr t x f=>
    refine (Det.fldOff P t f).bind fun d=>(Det.sv _).bind fun s=>?_
    split
    · exact Det.pure _
    · exact Det.ptrN _ _ fun b o=>Det.pure (α:=SV) (.val (ptr b (o+d)))
    · exact Det.false
  case indexAddr t x ix=>
    refine (Det.vv _).bind fun v=>(Det.intAny v).bind fun i=>(Det.sv _).bind fun s=>?_
    split
    · exact ((Det.sizeT P _).map _).and.and
    · exact ((Det.sizeT P _).bind fun z=>Det.ptrN _ _ fun b o=>Det.pure (α:=SV) (.val (ptr b (o+i.toNat*z)))).and.and
    · exact ((Det.sizeT P _).bind fun z=>Det.ptrN _ _ fun b o=>Det.pure (α:=SV) (.val (ptr b (o+i.toNat*z)))).and.and
    · exact Det.false
  case index t x ix=>
    refine (Det.vv _).bind fun v=>(Det.intAny v).bind fun i=>(Det.vv _).bind fun s=>?_
    split
    · exact (Det.pure _).and.and
    · split
      · exact ((Det.sizeT P _).bind fun z=>(Det.ldV _).bind fun u=>(Det.elim P _ u).map _).and.and
      · exact Det.false
    · exact Det.false
  case field t x f=>
    refine (Det.fldOff P t f).bind fun d=>(Det.vv _).bind fun v=>(Det.aggV v).bind fun cs=>?_
    split
    · exact (Det.ldV _).bind fun u=>(Det.elim P _ u).map _
    · exact (Det.sizeT P _).bind fun z=>(Det.ldL _).map _
    · exact Det.false
  case slice t x lo hi mx=>exact (Det.vv _).bind fun v=>(Det.optV ρ lo).bind fun lo=>(Det.optV ρ hi).bind fun hi=>(Det.optV ρ mx).bind fun mx=>(Det.sliceSF P t v lo hi mx).map _
  case build t parts=>exact (Det.partsV ρ _).bind fun vs=>(Det.buildF P t vs).map _
  case extract x i=>exact (Det.vv _).bind fun v=>(Det.tupI v i).bind fun u=>(Det.elim P _ u).map _
  case unOp op t x=>exact (Det.vv _).bind fun v=>(Det.semV P _).map _
  case binOp op t x y t'=>exact (Det.vv _).bind fun a=>(Det.vv _).bind fun b=>(Det.binF P op t x y a b).map _
  case makeInterface t x=>exact (Det.vv _).bind fun v=>(Det.semV P _).map _
  case makeFunc fn a b=>exact (Det.vvs _).bind fun a=>(Det.vvs _).map _
  case convert s d x=>
    split at hc
    · simp at hc
    · simp at hc
    · rename_i h1 h2
      refine (Det.vv _).bind fun v=>?_
      split
      · rename_i a b; exact absurd b (h1 _ a)
      · rename_i a b; exact absurd b (h2 _ a)
      · exact (Det.semV P _).map _
  case load t x=>split at hc <;> simp at hc
  case store t x v=>split at hc <;> simp at hc
  case alloc t=>
    split at hc
    · split at hc <;> simp at hc
    · simp at hc
  case box t x=>
    split at hc
    · split at hc <;> simp at hc
    · simp at hc
  case call c=>
    obtain ⟨callee,args,ts⟩:=c
    cases callee with
    | value f=>simp at hc
    | invoke r n=>simp at hc
    | builtin b=>
      cases b <;> simp only at hc ⊢ <;> first | (simp at hc; done) | skip
      case len=>
        refine (Det.vvs _).bind fun vs=>?_
        simp only [builtinF]
        unfold lenF
        split
        · exact Det.pure _
        · exact Det.pure _
        · rename_i hu; rw [hu] at hc; simp at hc
        · exact (Det.semV P _).map _
      case cap=>
        refine (Det.vvs _).bind fun vs=>?_
        simp only [builtinF]
        unfold capF
        split
        · exact Det.pure _
        · exact (Det.semV P _).map _
      case min=>exact (Det.vvs _).bind fun vs=>(Det.semV P _).map _
      case max=>exact (Det.vvs _).bind fun vs=>(Det.semV P _).map _
  all_goals (exact absurd hc (by decide))
theorem load_loc {t:TypeId} {x:Operand} {pv:PV} {hp:HP} {K:SV→PV→HP→Prop} (hop:o.op=.load t x) (hl:locX prv x=true) (h:execF P prv ρ o pv hp K) :
    ∃ s,∀ hp2 (K2:SV→PV→HP→Prop),execF P prv ρ o pv hp2 K2↔K2 s pv hp2:=by
  simp only [execF,hop] at h
  obtain ⟨s,hx,h⟩:=sv_elim h
  rw [hl] at h
  split at h
  · rename_i k off hf _
    obtain ⟨v,hv,h⟩:=ldV_elim h
    obtain ⟨u,hu⟩:=Det.elim P t v _ h
    refine ⟨.val u,fun hp2 K2=>?_⟩
    simp only [execF,hop,hx,sv,hl,hf,hv,ldV]
    exact hu fun v=>K2 (.val v) pv hp2
  · rename_i hh; exact absurd hh (by decide)
  · rename_i k off hf _
    obtain ⟨z,hz,h⟩:=sizeT_elim h
    obtain ⟨cs,hv,h⟩:=ldL_elim h
    have hsz:∀ c:Nat→Prop,sizeT P t c↔c z:=fun c=>by
      unfold sizeT
      cases hi:P.info? t with
      | none=>rw [hi] at hz; cases hz
      | some i=>rw [hi] at hz; simp at hz; simp [hz]
    refine ⟨.val (.agg ⟨cs⟩),fun hp2 K2=>?_⟩
    simp only [execF,hop,hx,sv,hl,hf,hsz,hv,ldL]
  · rename_i hh; exact absurd hh (by decide)
  · exact h.elim
theorem store_loc {t:TypeId} {x v:Operand} {pv:PV} {hp:HP} {K:SV→PV→HP→Prop} (hop:o.op=.store t x v) (hl:locX prv x=true) (h:execF P prv ρ o pv hp K) :
    ∃ s pv',∀ hp2 (K2:SV→PV→HP→Prop),execF P prv ρ o pv hp2 K2↔K2 s pv' hp2:=by
  have iff:∀ (hp:HP) (K:SV→PV→HP→Prop),execF P prv ρ o pv hp K↔(sv (ρ x) fun s=>vv (ρ v) fun v=>match flat P t,s with
      | some true,.priv k off=>(match pv k with
        | some (e,cs)=>if one v=true then if off<cs.length then K (.val undef) (upd pv k (e,cs.set off v)) hp else False else False
        | none=>False)
      | some false,.priv k off=>sizeT P t fun z=>aggV v fun vs=>(match pv k with
        | some (e,cs)=>if vs.length=z then if vs.all one=true then if off+vs.length≤cs.length then K (.val undef) (upd pv k (e,splice cs off vs)) hp else False else False else False
        | none=>False)
      | _,_=>False):=by
    intro hp K
    simp only [execF,hop]
    refine iff_of_eq (congrArg _ (funext fun s=>congrArg _ (funext fun u=>?_)))
    rw [hl]
    cases flat P t with
    | none=>rfl
    | some b=>cases b <;> (cases s with | val u=>(cases u <;> rfl) | priv k' off=>rfl)
  have D:Det fun (k:SV × PV→Prop)=>sv (ρ x) fun s=>vv (ρ v) fun v=>match flat P t,s with
      | some true,.priv k' off=>(match pv k' with
        | some (e,cs)=>if one v=true then if off<cs.length then k (.val undef,upd pv k' (e,cs.set off v)) else False else False
        | none=>False)
      | some false,.priv k' off=>sizeT P t fun z=>aggV v fun vs=>(match pv k' with
        | some (e,cs)=>if vs.length=z then if vs.all one=true then if off+vs.length≤cs.length then k (.val undef,upd pv k' (e,splice cs off vs)) else False else False else False
        | none=>False)
      | _,_=>False:=by
    refine (Det.sv _).bind fun s=>(Det.vv _).bind fun u=>?_
    split
    · split
      · exact Det.ite (Det.ite (Det.pure _) Det.false) Det.false
      · exact Det.false
    · refine (Det.sizeT P t).bind fun z=>(Det.aggV u).bind fun vs=>?_
      split
      · exact Det.ite (Det.ite (Det.ite (Det.pure _) Det.false) Det.false) Det.false
      · exact Det.false
    · exact Det.false
  obtain ⟨s,hs⟩:=D (fun x=>K x.1 x.2 hp) ((iff hp K).1 h)
  exact ⟨s.1,s.2,fun hp2 K2=>(iff hp2 K2).trans (hs fun s=>K2 s.1 s.2 hp2)⟩
theorem alloc_loc {t:TypeId} {d:Nat} {pv:PV} {hp:HP} {K:SV→PV→HP→Prop} (hop:o.op=.alloc t) (hd:o.dst=some d) (hl:prv.contains d=true) (h:execF P prv ρ o pv hp K) :
    ∃ s pv',∀ hp2 (K2:SV→PV→HP→Prop),execF P prv ρ o pv hp2 K2↔K2 s pv' hp2:=by
  have iff:∀ (hp:HP) (K:SV→PV→HP→Prop),execF P prv ρ o pv hp K↔(zeroT P t fun z=>match pv d with | none=>K (.priv d 0) (upd pv d (t,z)) hp | some _=>False):=by
    intro hp K
    simp only [execF,hop,hd,hl,if_true]
    refine iff_of_eq (congrArg _ (funext fun z=>?_))
    cases pv d <;> rfl
  have D:Det fun (k:SV × PV→Prop)=>zeroT P t fun z=>match pv d with | none=>k (.priv d 0,upd pv d (t,z)) | some _=>False:=by
    refine (Det.zeroT P t).bind fun z=>?_
    split
    · exact Det.pure _
    · exact Det.false
  obtain ⟨s,hs⟩:=D (fun x=>K x.1 x.2 hp) ((iff hp K).1 h)
  exact ⟨s.1,s.2,fun hp2 K2=>(iff hp2 K2).trans (hs fun s=>K2 s.1 s.2 hp2)⟩
theorem box_loc {t:TypeId} {x:Operand} {d:Nat} {pv:PV} {hp:HP} {K:SV→PV→HP→Prop} (hop:o.op=.box t x) (hd:o.dst=some d) (hl:prv.contains d=true) (h:execF P prv ρ o pv hp K) :
    ∃ s pv',∀ hp2 (K2:SV→PV→HP→Prop),execF P prv ρ o pv hp2 K2↔K2 s pv' hp2:=by
  have iff:∀ (hp:HP) (K:SV→PV→HP→Prop),execF P prv ρ o pv hp K↔(vv (ρ x) fun v=>match pv d with | none=>K (.priv d 0) (upd pv d (t,v.cells.toList)) hp | some _=>False):=by
    intro hp K
    simp only [execF,hop,hd,hl,if_true]
    refine iff_of_eq (congrArg _ (funext fun z=>?_))
    cases pv d <;> rfl
  have D:Det fun (k:SV × PV→Prop)=>vv (ρ x) fun v=>match pv d with | none=>k (.priv d 0,upd pv d (t,v.cells.toList)) | some _=>False:=by
    refine (Det.vv _).bind fun z=>?_
    split
    · exact Det.pure _
    · exact Det.false
  obtain ⟨s,hs⟩:=D (fun x=>K x.1 x.2 hp) ((iff hp K).1 h)
  exact ⟨s.1,s.2,fun hp2 K2=>(iff hp2 K2).trans (hs fun s=>K2 s.1 s.2 hp2)⟩
theorem loc_inv {pv:PV} {hp:HP} {K:SV→PV→HP→Prop} (hc:clsO P prv o≤2) (h:execF P prv ρ o pv hp K) :
    ∃ s pv',(∀ hp2 (K2:SV→PV→HP→Prop),execF P prv ρ o pv hp2 K2↔K2 s pv' hp2)∧(clsO P prv o≤1→pv'=pv) ∧
      (clsO P prv o=0→∀ pv2 hp2 (K2:SV→PV→HP→Prop),execF P prv ρ o pv2 hp2 K2↔K2 s pv2 hp2):=by
  by_cases h0:clsO P prv o=0
  · obtain ⟨s,hs⟩:=pure_det h0 _ ((pure_iff h0 pv hp K).1 h)
    exact ⟨s,pv,fun hp2 K2=>(pure_iff h0 pv hp2 K2).trans (hs fun s=>K2 s pv hp2),fun _=>rfl,fun _ pv2 hp2 K2=>(pure_iff h0 pv2 hp2 K2).trans (hs fun s=>K2 s pv2 hp2)⟩
  · have big:∀ n:Nat,2<n→clsO P prv o=n→False:=fun n hn e=>by omega
    cases hop:o.op
    case load t x=>
      have e:clsO P prv o=if locX prv x=true then 1 else 3:=by simp only [clsO,hop]
      by_cases hl:locX prv x=true
      · obtain ⟨s,hs⟩:=load_loc hop hl h
        exact ⟨s,pv,hs,fun _=>rfl,fun e=>absurd e h0⟩
      · rw [if_neg hl] at e; omega
    case store t x v=>
      have e:clsO P prv o=if locX prv x=true then 2 else 4:=by simp only [clsO,hop]
      by_cases hl:locX prv x=true
      · obtain ⟨s,pv',hs⟩:=store_loc hop hl h
        rw [if_pos hl] at e
        exact ⟨s,pv',hs,fun e'=>by omega,fun e=>absurd e h0⟩
      · rw [if_neg hl] at e; omega
    case alloc t=>
      cases hd:o.dst with
      | none=>
        have e:clsO P prv o=4:=by simp only [clsO,hop,hd]
        omega
      | some d=>
        have e:clsO P prv o=if prv.contains d=true then 2 else 4:=by simp only [clsO,hop,hd]
        by_cases hl:prv.contains d=true
        · obtain ⟨s,pv',hs⟩:=alloc_loc hop hd hl h
          rw [if_pos hl] at e
          exact ⟨s,pv',hs,fun e'=>by omega,fun e=>absurd e h0⟩
        · rw [if_neg hl] at e; omega
    case box t x=>
      cases hd:o.dst with
      | none=>
        have e:clsO P prv o=4:=by simp only [clsO,hop,hd]
        omega
      | some d=>
        have e:clsO P prv o=if prv.contains d=true then 2 else 4:=by simp only [clsO,hop,hd]
        by_cases hl:prv.contains d=true
        · obtain ⟨s,pv',hs⟩:=box_loc hop hd hl h
          rw [if_pos hl] at e
          exact ⟨s,pv',hs,fun e'=>by omega,fun e=>absurd e h0⟩
        · rw [if_neg hl] at e; omega
    case convert s d x=>
      exfalso
      simp only [clsO,hop] at hc h0
      split at hc <;> simp_all
    case call c=>
      exfalso
      obtain ⟨callee,args,ts⟩:=c
      cases callee with
      | value f=>simp [clsO,hop] at hc
      | invoke r n=>simp [clsO,hop] at hc
      | builtin b=>
        cases b <;> simp only [clsO,hop] at hc h0 <;> first | (exfalso; omega) | (simp at h0; done) | (split at hc <;> simp_all)
    all_goals (simp [clsO,hop] at hc h0)
end
end Go.HL
