/- The heaplet logic, part 16: operations on memory alone; what an operation looks at. -/
import Derived.Test.YtobechphfppffaaGreatDoorHlCls3
set_option linter.unusedVariables false
set_option linter.unusedSimpArgs false
namespace Go.HL
open Go
section
variable {P:Program} {prv:List Nat} {ρ:Operand→Option SV} {o:Oper}
theorem sv_mono {x:Option SV} {c c':SV→Prop} (h:sv x c) (hc:∀ s,c s→c' s):sv x c':=by
  obtain ⟨s,e,h⟩:=sv_elim h; rw [e]; exact hc _ h
theorem vv_mono {x:Option SV} {c c':Value→Prop} (h:vv x c) (hc:∀ s,c s→c' s):vv x c':=by
  obtain ⟨s,e,h⟩:=vv_elim h; rw [e]; exact hc _ h
theorem elim_mono {t:TypeId} {v:Value} {c c':Value→Prop} (h:elim P t v c) (hc:∀ s,c s→c' s):elim P t v c':=by
  obtain ⟨s,hs⟩:=Det.elim P t v _ h
  exact (hs _).2 (hc _ ((hs _).1 h))
theorem det_mono {α:Type} {T:(α→Prop)→Prop} (hT:Det T) {c c':α→Prop} (h:T c) (hc:∀ s,c s→c' s):T c':=by
  obtain ⟨s,hs⟩:=hT _ h
  exact (hs _).2 (hc _ ((hs _).1 h))
theorem hp_mono {pv pv2:PV} {hp:HP} {K K2:SV→PV→HP→Prop} (hc:3≤clsO P prv o) (h:execF P prv ρ o pv hp K) (hk:∀ s hp',K s pv hp'→K2 s pv2 hp') :
    execF P prv ρ o pv2 hp K2:=by
  cases hop:o.op <;> simp only [execF,hop] at h ⊢ <;> simp only [clsO,hop] at hc <;> try (exact absurd hc (by decide))
  case load t x=>
    split at hc
    · exact absurd hc (by decide)
    · rename_i hl
      refine sv_mono h fun s h=>?_
      simp only [Bool.not_eq_true] at hl
      rw [hl] at h ⊢
      split at h
      · contradiction
      · have hf:flat P t=some true:=by assumption
        try simp only [hf]
        exact ptrN_mono h fun b off h=>ldV_mono h fun v h=>elim_mono h fun v h=>hk _ _ h
      · contradiction
      · have hf:flat P t=some false:=by assumption
        try simp only [hf]
        exact ptrN_mono h fun b off h=>det_mono (Det.sizeT P t) h fun z h=>ldL_mono h fun v h=>hk _ _ h
      · exact h.elim
  case store t x v=>
    split at hc
    · exact absurd hc (by decide)
    · rename_i hl
      refine sv_mono h fun s h=>vv_mono h fun u h=>?_
      simp only [Bool.not_eq_true] at hl
      rw [hl] at h ⊢
      split at h
      · contradiction
      · have hf:flat P t=some true:=by assumption
        try simp only [hf]
        exact if_mono h fun h=>ptrN_mono h fun b off h=>st_mono h fun hp h=>hk _ _ h
      · contradiction
      · have hf:flat P t=some false:=by assumption
        try simp only [hf]
        exact det_mono (Det.sizeT P t) h fun z h=>aggV_mono h fun vs h=>ptrN_mono h fun b off h=>⟨h.1,stN_mono h.2 fun hp h=>hk _ _ h⟩
      · exact h.elim
  case alloc t=>
    refine det_mono (Det.zeroT P t) h fun z h=>?_
    split at h
    · rename_i d hd
      simp only [hd] at hc ⊢
      split at hc
      · exact absurd hc (by decide)
      · rename_i hl
        rw [if_neg hl] at h ⊢
        exact fun b hb=>hk _ _ (h b hb)
    · exact h.elim
  case box t x=>
    refine vv_mono h fun v h=>?_
    split at h
    · rename_i d hd
      simp only [hd] at hc ⊢
      split at hc
      · exact absurd hc (by decide)
      · rename_i hl
        rw [if_neg hl] at h ⊢
        exact fun b hb=>hk _ _ (h b hb)
    · exact h.elim
  case buildSlice t n parts=>
    refine det_mono (Det.partsV ρ _) h fun vs h=>?_
    unfold buildSF at h ⊢
    split at h
    · refine det_mono (Det.sizeT P _) h fun z h=>?_
      split at h
      · exact h.elim
      · rename_i hn
        rw [if_neg hn]
        exact det_mono (Det.zeroT P _) h fun z h=>det_mono (Det.fillF _ _ _ _) h fun cs h=>fun b hb=>hk _ _ (h b hb)
    · exact h.elim
  case makeSlice t l c=>exact vv_mono h fun l h=>vv_mono h fun c h=>opS_mono h fun v hp h=>slcV_mono h fun a n m h=>hk _ _ h
  case makeMap t r=>
    cases r with
    | none=>exact fun b hb=>hk _ _ (h b hb)
    | some r=>exact h.elim
  case mapUpdate t m k x=>exact vv_mono h fun l h=>vv_mono h fun c h=>vv_mono h fun x h=>opS_mono h fun v hp h=>hk _ _ h
  case insert t m k x=>exact vv_mono h fun l h=>vv_mono h fun c h=>vv_mono h fun x h=>opS_mono h fun v hp h=>hk _ _ h
  case mapEntry t m k=>exact vv_mono h fun l h=>vv_mono h fun c h=>opS_mono h fun v hp h=>hk _ _ h
  case entryStore t m k x=>exact vv_mono h fun l h=>vv_mono h fun c h=>vv_mono h fun x h=>opS_mono h fun v hp h=>hk _ _ h
  case lookup t m k ok=>exact vv_mono h fun l h=>vv_mono h fun c h=>rdS_mono h fun v h=>elim_mono h fun v h=>hk _ _ h
  case range t x=>exact vv_mono h fun l h=>opS_mono h fun v hp h=>hk _ _ h
  case next x s=>exact vv_mono h fun l h=>opS_mono h fun v hp h=>hk _ _ h
  case entry x=>exact vv_mono h fun l h=>rdS_mono h fun v h=>hk _ _ h
  case typeAssert x xt at_ ok=>exact vv_mono h fun l h=>rdS_mono h fun v h=>elim_mono h fun v h=>hk _ _ h
  case convert s d x=>
    refine vv_mono h fun v h=>?_
    split at h
    · exact rdS_mono h fun v h=>strV_mono h fun s h=>hk _ _ h
    · exact opS_mono h fun v hp h=>slcV_mono h fun a n m h=>hk _ _ h
    · rename_i h1 h2
      split at hc
      · rename_i a b; exact absurd b (h1 _ a)
      · rename_i a b; exact absurd b (h2 _ a)
      · exact absurd hc (by decide)
  case call c=>
    obtain ⟨callee,args,ts⟩:=c
    cases callee with
    | value f=>exact vv_mono h fun fv h=>det_mono (Det.vvs _) h fun vs h=>fnV_mono h fun g a b h=>CF_mono h fun v hp h=>elim_mono h fun v h=>hk _ _ h
    | invoke r n=>exact vv_mono h fun v h=>det_mono (Det.vvs _) h fun vs h=>ifaceV_mono h fun t x h=>mthF_mono h fun g h=>CF_mono h fun v hp h=>elim_mono h fun v h=>hk _ _ h
    | builtin b=>
      refine det_mono (Det.vvs _) h fun vs h=>?_
      cases b <;> simp only [builtinF] at h ⊢ <;> simp only at hc <;> try (exact absurd hc (by decide))
      case len=>
        unfold lenF at h ⊢
        split at h
        · exact hk _ _ h
        · exact hk _ _ h
        · exact rdS_mono h fun v h=>intV_mono h fun n h=>hk _ _ h
        · exact semV_mono h fun v h=>hk _ _ h
      case append=>exact opS_mono h fun v hp h=>slcV_mono h fun a n m h=>hk _ _ h
      case copy=>exact opS_mono h fun v hp h=>intV_mono h fun n h=>hk _ _ h
      case clear=>exact opS_mono h fun v hp h=>hk _ _ h
      case delete=>exact opS_mono h fun v hp h=>hk _ _ h
theorem opS_sat {α:Type} {s:Sem α} {hp:HP} {K:α→HP→Prop} (h:opS P s hp K) (hs:Sat hp):∃ v hp',K v hp'∧Sat hp':=by
  obtain ⟨F,w0,w,hf⟩:=hs
  obtain ⟨v,w',hp',_,hf',hk⟩:=h F w0 w hf
  exact ⟨v,hp',hk,F,w0,w',hf'⟩
theorem AC_sat {f:FuncId} {args:List Value} {hp:HP} {K:Value→HP→Prop} (h:AC P f args hp K) (hs:Sat hp):∃ v hp',K v hp'∧Sat hp':=by
  obtain ⟨F,w0,w,hf⟩:=hs
  have hf':Fits F w hp w:=⟨hf.ent,fun b hb=>⟨(hf.fr b hb).1,(hf.fr b hb).2.1,rfl⟩,rfl,rfl,rfl,Nat.le_refl _⟩
  obtain ⟨e,w',fr,⟨v,hp',_,hf'',hk⟩,_⟩:=h F w hf' []
  exact ⟨v,hp',hk,F,w,w',hf''⟩
theorem CF_sat {f:FuncId} {args:List Value} {hp:HP} {K:Value→HP→Prop} (h:CF P f args hp K) (hs:Sat hp):∃ v hp',K v hp'∧Sat hp':=by
  rcases h with h | h
  · exact AC_sat h.2 hs
  · obtain ⟨F,w0,w,hf⟩:=hs
    obtain ⟨v,w',hp',_,b,k⟩:=h F w0 w hf
    exact ⟨v,hp',k,F,w0,w',b⟩
theorem new_sat {hp:HP} {T:TypeId} {cs:List Value} {K:Nat→HP→Prop} (h:∀ b,hp b=.none→K b (hp.set b (.cells T cs 0))) (hs:Sat hp):∃ b hp',K b hp'∧Sat hp':=by
  obtain ⟨F,w0,w,hf⟩:=hs
  exact ⟨_,_,h _ hf.fresh,F,w0,_,hf.alloc _ (Ent.ok_cells T cs)⟩
theorem hp_sat {pv:PV} {hp:HP} {K:SV→PV→HP→Prop} (hc:3≤clsO P prv o) (h:execF P prv ρ o pv hp K) (hs:Sat hp):∃ s hp',K s pv hp'∧Sat hp':=by
  cases hop:o.op <;> simp only [execF,hop] at h <;> simp only [clsO,hop] at hc <;> try (exact absurd hc (by decide))
  case load t x=>
    obtain ⟨s,_,h⟩:=sv_elim h
    split at hc
    · exact absurd hc (by decide)
    · rename_i hl
      simp only [Bool.not_eq_true] at hl
      rw [hl] at h
      split at h
      · contradiction
      · obtain ⟨_,_,_,h⟩:=ptrN_elim h
        obtain ⟨_,_,h⟩:=ldV_elim h
        exact ⟨_,_,elim_elim h,hs⟩
      · contradiction
      · obtain ⟨_,_,_,h⟩:=ptrN_elim h
        obtain ⟨_,_,h⟩:=sizeT_elim h
        obtain ⟨_,_,h⟩:=ldL_elim h
        exact ⟨_,_,h,hs⟩
      · exact h.elim
  case store t x v=>
    obtain ⟨s,_,h⟩:=sv_elim h
    obtain ⟨u,_,h⟩:=vv_elim h
    split at hc
    · exact absurd hc (by decide)
    · rename_i hl
      simp only [Bool.not_eq_true] at hl
      rw [hl] at h
      split at h
      · contradiction
      · have hf:flat P t=some true:=by assumption
        split at h
        · rename_i h1
          obtain ⟨_,_,_,h⟩:=ptrN_elim h
          obtain ⟨_,hp',h,hs'⟩:=opS_sat (opS_st (P:=P) hf h1 h) hs
          exact ⟨_,_,h,hs'⟩
        · exact h.elim
      · contradiction
      · obtain ⟨_,hz,h⟩:=sizeT_elim h
        obtain ⟨_,_,h⟩:=aggV_elim h
        obtain ⟨_,_,_,h⟩:=ptrN_elim h
        obtain ⟨_,hp',h,hs'⟩:=opS_sat (opS_stN (P:=P) hz h.1 h.2) hs
        exact ⟨_,_,h,hs'⟩
      · exact h.elim
  case alloc t=>
    obtain ⟨z,_,h⟩:=zeroT_elim h
    split at h
    · rename_i d hd
      simp only [hd] at hc
      split at hc
      · exact absurd hc (by decide)
      · rename_i hl
        rw [if_neg hl] at h
        obtain ⟨b,hp',h,hs'⟩:=new_sat h hs
        exact ⟨_,_,h,hs'⟩
    · exact h.elim
  case box t x=>
    obtain ⟨z,_,h⟩:=vv_elim h
    split at h
    · rename_i d hd
      simp only [hd] at hc
      split at hc
      · exact absurd hc (by decide)
      · rename_i hl
        rw [if_neg hl] at h
        obtain ⟨b,hp',h,hs'⟩:=new_sat h hs
        exact ⟨_,_,h,hs'⟩
    · exact h.elim
  case buildSlice t n parts=>
    obtain ⟨vs,_,h⟩:=partsV_elim h
    obtain ⟨_,_,h,hs'⟩:=opS_sat (buildSF_run h) hs
    exact ⟨_,_,h,hs'⟩
  case makeSlice t l c=>
    obtain ⟨_,_,h⟩:=vv_elim h
    obtain ⟨_,_,h⟩:=vv_elim h
    obtain ⟨_,_,h,hs'⟩:=opS_sat h hs
    obtain ⟨_,_,_,_,h⟩:=slcV_elim h
    exact ⟨_,_,h,hs'⟩
  case makeMap t r=>
    cases r with
    | none=>
      obtain ⟨F,w0,w,hf⟩:=hs
      exact ⟨_,_,h _ hf.fresh,F,w0,_,hf.alloc (.map #[] 0) rfl⟩
    | some r=>exact h.elim
  case mapUpdate t m k x=>
    obtain ⟨_,_,h⟩:=vv_elim h
    obtain ⟨_,_,h⟩:=vv_elim h
    obtain ⟨_,_,h⟩:=vv_elim h
    obtain ⟨_,_,h,hs'⟩:=opS_sat h hs
    exact ⟨_,_,h,hs'⟩
  case insert t m k x=>
    obtain ⟨_,_,h⟩:=vv_elim h
    obtain ⟨_,_,h⟩:=vv_elim h
    obtain ⟨_,_,h⟩:=vv_elim h
    obtain ⟨_,_,h,hs'⟩:=opS_sat h hs
    exact ⟨_,_,h,hs'⟩
  case mapEntry t m k=>
    obtain ⟨_,_,h⟩:=vv_elim h
    obtain ⟨_,_,h⟩:=vv_elim h
    obtain ⟨_,_,h,hs'⟩:=opS_sat h hs
    exact ⟨_,_,h,hs'⟩
  case entryStore t m k x=>
    obtain ⟨_,_,h⟩:=vv_elim h
    obtain ⟨_,_,h⟩:=vv_elim h
    obtain ⟨_,_,h⟩:=vv_elim h
    obtain ⟨_,_,h,hs'⟩:=opS_sat h hs
    exact ⟨_,_,h,hs'⟩
  case lookup t m k ok=>
    obtain ⟨_,_,h⟩:=vv_elim h
    obtain ⟨_,_,h⟩:=vv_elim h
    obtain ⟨_,_,h⟩:=h
    exact ⟨_,_,elim_elim h,hs⟩
  case range t x=>
    obtain ⟨_,_,h⟩:=vv_elim h
    obtain ⟨_,_,h,hs'⟩:=opS_sat h hs
    exact ⟨_,_,h,hs'⟩
  case next x s=>
    obtain ⟨_,_,h⟩:=vv_elim h
    obtain ⟨_,_,h,hs'⟩:=opS_sat h hs
    exact ⟨_,_,h,hs'⟩
  case entry x=>
    obtain ⟨_,_,h⟩:=vv_elim h
    obtain ⟨_,_,h⟩:=h
    exact ⟨_,_,h,hs⟩
  case typeAssert x xt at_ ok=>
    obtain ⟨_,_,h⟩:=vv_elim h
    obtain ⟨_,_,h⟩:=h
    exact ⟨_,_,elim_elim h,hs⟩
  case convert s d x=>
    obtain ⟨_,_,h⟩:=vv_elim h
    split at h
    · obtain ⟨_,_,h⟩:=h
      obtain ⟨_,_,h⟩:=strV_elim h
      exact ⟨_,_,h,hs⟩
    · obtain ⟨_,_,h,hs'⟩:=opS_sat h hs
      obtain ⟨_,_,_,_,h⟩:=slcV_elim h
      exact ⟨_,_,h,hs'⟩
    · obtain ⟨_,_,h⟩:=semV_run (w:=default) h
      exact ⟨_,_,h,hs⟩
  case call c=>
    obtain ⟨callee,args,ts⟩:=c
    cases callee with
    | value f=>
      obtain ⟨_,_,h⟩:=vv_elim h
      obtain ⟨_,_,h⟩:=vvs_elim h
      obtain ⟨_,_,_,_,h⟩:=fnV_elim h
      obtain ⟨_,_,h,hs'⟩:=CF_sat h hs
      exact ⟨_,_,elim_elim h,hs'⟩
    | invoke r n=>
      obtain ⟨_,_,h⟩:=vv_elim h
      obtain ⟨_,_,h⟩:=vvs_elim h
      obtain ⟨_,_,_,h⟩:=ifaceV_elim h
      obtain ⟨_,_,h⟩:=mthF_elim h
      obtain ⟨_,_,h,hs'⟩:=CF_sat h hs
      exact ⟨_,_,elim_elim h,hs'⟩
    | builtin b=>
      obtain ⟨_,_,h⟩:=vvs_elim h
      obtain ⟨_,_,h⟩:=builtinF_opS (args.map fun _=>false) h
      obtain ⟨_,_,h,hs'⟩:=opS_sat h hs
      exact ⟨_,_,h,hs'⟩
theorem read_inv {pv:PV} {hp:HP} {K:SV→PV→HP→Prop} (hc:clsO P prv o=3) (h:execF P prv ρ o pv hp K) (hs:Sat hp) :
    ∃ s,∀ pv2 (K2:SV→PV→HP→Prop),execF P prv ρ o pv2 hp K2↔K2 s pv2 hp:=by
  have D:Det fun (k:SV→Prop)=>execF P prv ρ o V0 hp fun s _ _=>k s:=by
    cases hop:o.op <;> simp only [execF,hop] <;> simp only [clsO,hop] at hc <;> try (exact absurd hc (by decide))
    case load t x=>
      split at hc
      · exact absurd hc (by decide)
      · rename_i hl
        simp only [Bool.not_eq_true] at hl
        refine (Det.sv _).bind fun s=>?_
        rw [hl]
        split
        · contradiction
        · exact Det.ptrN _ _ fun b off=>(Det.ldV _).bind fun v=>(Det.elim P t v).map _
        · contradiction
        · exact Det.ptrN _ _ fun b off=>(Det.sizeT P t).bind fun z=>(Det.ldL _).map _
        · exact Det.false
    case lookup t m k ok=>exact (Det.vv _).bind fun m=>(Det.vv _).bind fun k=>(Det.rdS P _ hs).bind fun v=>(Det.elim P _ v).map _
    case entry x=>exact (Det.vv _).bind fun m=>(Det.rdS P _ hs).map _
    case typeAssert x xt at_ ok=>exact (Det.vv _).bind fun m=>(Det.rdS P _ hs).bind fun v=>(Det.elim P _ v).map _
    case store t x v=>split at hc <;> simp at hc
    case alloc t=>
      split at hc
      · split at hc <;> simp at hc
      · simp at hc
    case box t x=>
      split at hc
      · split at hc <;> simp at hc
      · simp at hc
    case convert s d x=>
      split at hc
      · rename_i h1 h2
        simp only [h1,h2]
        refine (Det.vv _).bind fun v=>?_
        exact (Det.rdS P _ hs).bind fun v=>(Det.strV _).map _
      · simp at hc
      · simp at hc
    case call c=>
      obtain ⟨callee,args,ts⟩:=c
      cases callee with
      | value f=>simp at hc
      | invoke r n=>simp at hc
      | builtin b=>cases b <;> simp only at hc <;> first | (simp at hc; done) | (split at hc <;> simp at hc)
  have same:∀ pv2 (K2:SV→PV→HP→Prop),execF P prv ρ o pv2 hp K2↔execF P prv ρ o V0 hp fun s _ _=>K2 s pv2 hp:=by
    intro pv2 K2
    cases hop:o.op <;> simp only [execF,hop] <;> simp only [clsO,hop] at hc <;> try (exact absurd hc (by decide))
    case load t x=>
      split at hc
      · exact absurd hc (by decide)
      · rename_i hl
        simp only [Bool.not_eq_true] at hl
        refine iff_of_eq (congrArg _ (funext fun s=>?_))
        rw [hl]
        cases flat P t with
        | none=>rfl
        | some b=>cases b <;> (cases s with | val u=>(cases u <;> rfl) | priv k' off=>rfl)
    case store t x v=>split at hc <;> simp at hc
    case alloc t=>
      split at hc
      · split at hc <;> simp at hc
      · simp at hc
    case box t x=>
      split at hc
      · split at hc <;> simp at hc
      · simp at hc
    case convert s d x=>
      split at hc
      · rename_i h1 h2; simp only [h1,h2]
      · simp at hc
      · simp at hc
    case call c=>
      obtain ⟨callee,args,ts⟩:=c
      cases callee with
      | value f=>simp at hc
      | invoke r n=>simp at hc
      | builtin b=>cases b <;> simp only at hc <;> first | (simp at hc; done) | (split at hc <;> simp at hc)
  obtain ⟨s,hs'⟩:=D _ ((same pv K).1 h)
  exact ⟨s,fun pv2 K2=>(same pv2 K2).trans (hs' fun s=>K2 s pv2 hp)⟩
end
end Go.HL
