/- The heaplet logic, part 9: an operation does what its formula says. -/
import Derived.Test.YtobechphfppffaaGreatDoorHlSound4
set_option linter.unusedVariables false
set_option linter.unusedSimpArgs false
namespace Go.HL
open Go
section
variable {P:Program} {F:Nat→Prop} {w0 w:World} {N:Nat} {env:Env} {pv:PV} {hp:HP} {nm:Nat→Nat} {tmps:Array Value}
variable {o:Oper} {K:SV→PV→HP→Prop} {next:Act→World→Prop} {Q:Exit→Act→World→Prop} {prv:List Nat}
theorem optV_elim {ρ:Operand→Option SV} {x:Option Operand} {c:Option Value→Prop} (h:optV ρ x c):∃ v,x.map ρ=v.map (fun v=>some (SV.val v))∧c v:=by
  cases x with
  | none=>exact ⟨none,rfl,h⟩
  | some x=>
    obtain ⟨v,e,h⟩:=vv_elim h
    exact ⟨some v,by simp [e],h⟩
theorem Sim.evalOpt (hs:Sim F w0 N env pv hp nm tmps w) {x:Option Operand} {v:Option Value} (h:x.map (opnd env)=v.map (fun v=>some (SV.val v))) (df:List Deferred) :
    x.map ({ tmps,defers:=df }:Act).eval=v:=by
  cases x with
  | none=>cases v <;> simp_all
  | some x=>
    cases v with
    | none=>simp at h
    | some v=>simp only [Option.map_some,Option.some.injEq] at h ⊢; rw [hs.eval h]; rfl
theorem mthF_elim {t:TypeId} {name:String} {c:FuncId→Prop} (h:mthF P t name c):∃ g,(∀ (x:Value) (w:World),(method (P.types.size+Made.depth) t x name).run P w=.ok (g,x) w)∧c g:=by
  unfold mthF at h
  have hfuel:P.types.size+Made.depth=(P.types.size+(Made.depth-1))+1:=rfl
  split at h
  · rename_i i hi
    split at h
    · rename_i m hm
      have hti:∀ w:World,(typeInfo t).run P w=.ok i w:=fun w=>by simp [typeInfo,hi]
      split at h
      · rename_i f e hp hf hu
        refine ⟨f,fun x w=>?_,h⟩
        rw [hfuel]
        simp [method,hti,hm,hp,follow,hf,receiverAt,run_underlying hu,Place.get]
      · exact h.elim
      · rename_i f d hne hp hf hu
        refine ⟨f,fun x w=>?_,h⟩
        rw [hfuel]
        simp only [method,Sem.run_bind,hti,Result.andThen_ok,hm,hp,follow,Sem.run_pure,hf,receiverAt,run_underlying hu]
        cases d <;> first | rfl | (exfalso; exact hne _ hu)
      · exact h.elim
    · exact h.elim
  · exact h.elim
theorem bodied_run {g:FuncId} (h:bodied P g=true) (args:Array Value) (w:World):(callFunc g args).run P w=.ok (.enter g args) w:=by
  unfold bodied at h
  split at h
  · rename_i fn hf
    simp only [Bool.and_eq_true,bne_iff_ne,ne_eq] at h
    obtain ⟨c,hc⟩:=Option.isSome_iff_exists.1 h.1
    have hpr:∀ w:World,(program).run P w=.ok P w:=fun _=>rfl
    simp only [callFunc,Sem.run_bind,hpr,Result.andThen_ok,hf]
    simp [h.2,hc]
  · cases h
theorem call_wp {a:Act} {g:FuncId} {args:List Value} {t:TypeId} (ha:a={ tmps,defers:=[] }) (he:∀ w:World,(execOp a.eval o).run P w=(callFunc g ⟨args⟩).run P w) (hs:Sim F w0 N env pv hp nm tmps w) (hr:RefOk env pv)
    (hn:Next F w0 N env tmps o K next) (h:CF P g args hp fun v hp=>elim P t v fun v=>K (.val v) pv hp):o.wp P a w next Q:=by
  subst ha
  unfold Oper.wp
  rcases h with h | h
  · rw [he w,bodied_run h.1,Oper.upon_enter]
    refine (h.2 _ _ hs.ext).mono ?_
    rintro e w' ⟨v,hp',rfl,hf,hk⟩
    exact hn (.val v) pv hp' nm w' (elim_elim hk) (hs.back hf) hr (SRef.val _ _)
  · obtain ⟨v,w',hp',hrun,hf,hk⟩:=h _ _ _ hs.ext
    rw [he w,hrun,Oper.upon_value]
    exact hn (.val v) pv hp' nm w' (elim_elim hk) (hs.back hf) hr (SRef.val _ _)
theorem CF.ac {P:Program} {f:FuncId} {args:List Value} {hp:HP} {K:Value→HP→Prop} (hb:bodied P f=true) (h:CF P f args hp K):AC P f args hp K:=by
  rcases h with h | h
  · exact h.2
  · intro F w hf
    obtain ⟨v,w',hp',hrun,_⟩:=h F w w hf
    rw [bodied_run hb] at hrun
    cases hrun
theorem execF_sound (h:execF P prv (opnd env) o pv hp K) (hs:Sim F w0 N env pv hp nm tmps w) (hr:RefOk env pv) (hn:Next F w0 N env tmps o K next) :
    o.wp P { tmps,defers:=[] } w next Q:=by
  cases hop:o.op <;> simp only [execF,hop] at h
  case move x=>exact exec_move ⟨x,.inl hop,h⟩ hs hr hn
  case assign x=>exact exec_move ⟨x,.inr hop,h⟩ hs hr hn
  case pick c a b=>
    have h':=vv_elim h; clear h; obtain ⟨v,hc,h⟩:=h'
    have h':=boolV_elim h; clear h; obtain ⟨t,rfl,h⟩:=h'
    have hct:=hs.eval hc []
    cases t with
    | true=>
      obtain ⟨s,hx,h⟩:=sv_elim (show sv _ _ from h)
      exact run_value rfl (by simp [execOp,hop,hct,hs.eval hx,SV.conc,asBool]) hs hr hn (opnd_ref hr hx) h
    | false=>
      obtain ⟨s,hx,h⟩:=sv_elim (show sv _ _ from h)
      exact run_value rfl (by simp [execOp,hop,hct,hs.eval hx,SV.conc,asBool]) hs hr hn (opnd_ref hr hx) h
  case nilCheck x=>
    have h':=sv_elim h; clear h; obtain ⟨s,hx,h⟩:=h'
    have he:=hs.eval hx []
    split at h
    · exact run_value rfl (by simp [execOp,hop,he,SV.conc]) hs hr hn (opnd_ref hr hx) h
    · have h':=ptrN_elim h; clear h; obtain ⟨b,off,rfl,h⟩:=h'
      exact run_value rfl (by simp [execOp,hop,he,SV.conc]) hs hr hn (SRef.val _ _) h
    · exact run_value rfl (by simp [execOp,hop,he,SV.conc]) hs hr hn (SRef.val _ _) h
    · exact h.elim
  case fieldAddr t x f=>
    have h':=fldOff_elim h; clear h; obtain ⟨fs,fd,i,h1,h2,h3,h4,h⟩:=h'
    have h':=sv_elim h; clear h; obtain ⟨s,hx,h⟩:=h'
    have he:=hs.eval hx []
    split at h
    · rename_i k off
      refine run_value rfl ?_ hs hr hn (fun k' off' e=>by cases e; exact opnd_ref hr hx k off rfl) h
      simp only [execOp,hop,he,SV.conc]
      exact run_v (run_fieldAt _ _ h1 h2 h3 h4)
    · have h':=ptrN_elim h; clear h; obtain ⟨b,off,rfl,h⟩:=h'
      refine run_value rfl ?_ hs hr hn (SRef.val _ _) h
      simp only [execOp,hop,he,SV.conc]
      exact run_v (run_fieldAt _ _ h1 h2 h3 h4)
    · exact h.elim
  case indexAddr t x ix=>
    have h':=vv_elim h; clear h; obtain ⟨vi,hi,h⟩:=h'
    have h':=intAny_elim h; clear h; obtain ⟨k,i,rfl,h⟩:=h'
    have h':=sv_elim h; clear h; obtain ⟨s,hx,h⟩:=h'
    have he:=hs.eval hx []
    have hie:=hs.eval hi []
    split at h
    · rename_i n e k' off hu
      obtain ⟨h0,h1,h⟩:=h
      have h':=sizeT_elim h; clear h; obtain ⟨z,hz,h⟩:=h'
      refine run_value rfl ?_ hs hr hn (fun k2 off2 e=>by cases e; exact opnd_ref hr hx _ _ rfl) h
      simp only [execOp,hop,he,hie,SV.conc]
      exact run_v (run_indexAt_arr _ _ hu hz h0 h1)
    · rename_i n e a hu
      obtain ⟨h0,h1,h⟩:=h
      have h':=sizeT_elim h; clear h; obtain ⟨z,hz,h⟩:=h'
      have h':=ptrN_elim h; clear h; obtain ⟨b,off,rfl,h⟩:=h'
      refine run_value rfl ?_ hs hr hn (SRef.val _ _) h
      simp only [execOp,hop,he,hie,SV.conc]
      exact run_v (run_indexAt_arr _ _ hu hz h0 h1)
    · rename_i e a n m hu
      obtain ⟨h0,h1,h⟩:=h
      have h':=sizeT_elim h; clear h; obtain ⟨z,hz,h⟩:=h'
      have h':=ptrN_elim h; clear h; obtain ⟨b,off,rfl,h⟩:=h'
      refine run_value rfl ?_ hs hr hn (SRef.val _ _) h
      simp only [execOp,hop,he,hie,SV.conc]
      exact run_v (run_indexAt_slc _ _ hu hz h0 h1)
    · exact h.elim
  case index t x ix=>
    have h':=vv_elim h; clear h; obtain ⟨vi,hi,h⟩:=h'
    have h':=intAny_elim h; clear h; obtain ⟨k,i,rfl,h⟩:=h'
    have h':=vv_elim h; clear h; obtain ⟨v,hx,h⟩:=h'
    have he:=hs.eval hx []
    have hie:=hs.eval hi []
    split at h
    · rename_i s hu
      obtain ⟨h0,h1,h⟩:=h
      refine run_value (s:=.val (.int .u8 (bt s i))) rfl ?_ hs hr hn (SRef.val _ _) h
      simp only [execOp,hop,he,hie,SV.conc]
      refine run_v ?_
      have hlt:i.toNat<s.size:=by omega
      simp only [Instr.index,asIntOf,Sem.run_bind,Sem.run_pure,Result.andThen_ok,run_underlying hu,h0,if_true]
      rw [show s[i.toNat]?=some (s[i.toNat]'hlt) from by simp [getElem?_pos,hlt]]
      simp only [Sem.run_pure,bt]
      have hlt':i.toNat<s.data.toList.length:=by simpa using hlt
      rw [List.getElem?_eq_getElem hlt']
      rfl
    · rename_i n e cs hu
      split at h
      · rename_i hf
        obtain ⟨h0,h1,h⟩:=h
        have h':=sizeT_elim h; clear h; obtain ⟨z,hz,h⟩:=h'
        have h':=ldV_elim h; clear h; obtain ⟨u,hu',h⟩:=h'
        refine run_value (s:=.val u) rfl ?_ hs hr hn (SRef.val _ _) (elim_elim h)
        simp only [execOp,hop,he,hie,SV.conc]
        refine run_v ?_
        have hget:(⟨cs⟩:Array Value)[i.toNat*z]?=some u:=by simpa using hu'
        simp [Instr.index,asIntOf,run_underlying hu,h0,h1,run_size hz,part,(flat_true hf).1,hget,hu']
      · exact h.elim
    · exact h.elim
  case field t x f=>
    have h':=fldOff_elim h; clear h; obtain ⟨fs,fd,i,h1,h2,h3,h4,h⟩:=h'
    have h':=vv_elim h; clear h; obtain ⟨v,hx,h⟩:=h'
    have h':=aggV_elim h; clear h; obtain ⟨cs,rfl,h⟩:=h'
    have he:=hs.eval hx []
    split at h
    · rename_i hf
      have h':=ldV_elim h; clear h; obtain ⟨u,hu',h⟩:=h'
      have hf':flat P fd.type=some true:=by simpa [fldFlat,h1,h2] using hf
      refine run_value (s:=.val u) rfl ?_ hs hr hn (SRef.val _ _) (elim_elim h)
      simp only [execOp,hop,he,SV.conc]
      refine run_v ?_
      simp [Instr.field,run_underlying h1,h2,asAgg,part,(flat_true hf').1,hu']
    · rename_i hf
      have h':=sizeT_elim h; clear h; obtain ⟨z,hz,h⟩:=h'
      have h':=ldL_elim h; clear h; obtain ⟨u,hu',h⟩:=h'
      have hf':flat P fd.type=some false:=by simpa [fldFlat,h1,h2] using hf
      have ht:fldT P t f=fd.type:=by simp [fldT,h1,h2]
      rw [ht] at hz
      have hu2:u=(cs.drop fd.offset).take z:=by
        unfold cellsN at hu'
        split at hu'
        · exact (Option.some.inj hu').symm
        · cases hu'
      refine run_value (s:=.val (.agg ⟨u⟩)) rfl ?_ hs hr hn (SRef.val _ _) h
      simp only [execOp,hop,he,SV.conc]
      refine run_v ?_
      simp [Instr.field,run_underlying h1,h2,asAgg,part,flat_false hf',run_size hz,hu2]
    · exact h.elim
  case slice t x lo hi mx=>
    have h':=vv_elim h; clear h; obtain ⟨v,hx,h⟩:=h'
    have h':=optV_elim h; clear h; obtain ⟨vlo,hlo,h⟩:=h'
    have h':=optV_elim h; clear h; obtain ⟨vhi,hhi,h⟩:=h'
    have h':=optV_elim h; clear h; obtain ⟨vmx,hmx,h⟩:=h'
    obtain ⟨r,hrun,h⟩:=sliceSF_run (w:=w) h
    refine run_value (s:=.val r) rfl ?_ hs hr hn (SRef.val _ _) h
    simp only [execOp,hop,hs.eval hx,hs.evalOpt hlo,hs.evalOpt hhi,hs.evalOpt hmx]
    exact run_v hrun
  case load t x=>
    have h':=sv_elim h; clear h; obtain ⟨s,hx,h⟩:=h'
    have he:=hs.eval hx []
    split at h
    · rename_i k off hf _
      have h':=ldV_elim h; clear h; obtain ⟨v,hv,h⟩:=h'
      unfold pvCell at hv
      split at hv
      · rename_i T cs hk
        have ho:off<cs.length:=by
          rcases Nat.lt_or_ge off cs.length with h | h
          · exact h
          · rw [List.getElem?_eq_none h] at hv; cases hv
        have hw:=(hs.priv k T cs hk).1
        have hc:w.cell? ⟨nm k,off,none⟩=some v:=by
          rw [cell_of (cs:=cs) (rest:=[]) (by simpa using hw) ho,hv]
        refine run_value (s:=.val v) rfl ?_ hs hr hn (SRef.val _ _) (elim_elim h)
        simp only [execOp,hop,he,SV.conc]
        exact run_v (run_load_flat hf hc)
      · cases hv
    · rename_i a hf _
      have h':=ptrN_elim h; clear h; obtain ⟨b,off,rfl,h⟩:=h'
      have h':=ldV_elim h; clear h; obtain ⟨v,hv,h⟩:=h'
      refine run_value (s:=.val v) rfl ?_ hs hr hn (SRef.val _ _) (elim_elim h)
      simp only [execOp,hop,he,SV.conc]
      exact run_v (run_load_flat hf (hs.fits.cell hv))
    · rename_i k off hf _
      have h':=sizeT_elim h; clear h; obtain ⟨z,hz,h⟩:=h'
      have h':=ldL_elim h; clear h; obtain ⟨cs',hv,h⟩:=h'
      unfold pvCellN at hv
      split at hv
      · rename_i T cs hk
        have hw:=(hs.priv k T cs hk).1
        refine run_value (s:=.val (.agg ⟨cs'⟩)) rfl ?_ hs hr hn (SRef.val _ _) h
        simp only [execOp,hop,he,SV.conc]
        exact run_v (run_load_agg hf hz (run_loadCells_row (rest:=[]) (by simpa using hw) hv))
      · cases hv
    · rename_i a hf _
      have h':=ptrN_elim h; clear h; obtain ⟨b,off,rfl,h⟩:=h'
      have h':=sizeT_elim h; clear h; obtain ⟨z,hz,h⟩:=h'
      have h':=ldL_elim h; clear h; obtain ⟨cs',hv,h⟩:=h'
      refine run_value (s:=.val (.agg ⟨cs'⟩)) rfl ?_ hs hr hn (SRef.val _ _) h
      simp only [execOp,hop,he,SV.conc]
      exact run_v (run_load_agg hf hz (hs.fits.cellN hv))
    · exact h.elim
  case store t x v=>
    have h':=sv_elim h; clear h; obtain ⟨s,hx,h⟩:=h'
    have h':=vv_elim h; clear h; obtain ⟨v,hv,h⟩:=h'
    have he:=hs.eval hx []
    have hve:=hs.eval hv []
    split at h
    · rename_i k off hf _
      split at h
      · rename_i e cs hk
        split at h
        · rename_i h1
          split at h
          · rename_i ho
            have hw:=(hs.priv k e cs hk).1
            have hw':w.heap[nm k]?=some (.cells (cs++[]).toArray e (0,0)):=by simpa using hw
            have hc:=cell_of hw' ho
            rw [List.getElem?_eq_getElem ho] at hc
            have hs':=hs.setPriv hk (w':=w.setCell ⟨nm k,off,none⟩ v) (cs':=cs.set off v) (by simpa using setCell_row (v:=v) hw' ho)
              (fun y hy=>by rw [World.setCell_get,if_neg (fun e=>hy e.symm)]) rfl rfl rfl (setCell_size ..)
            refine wp_skip' (w':=w.setCell ⟨nm k,off,none⟩ v) ?_ (hn _ _ _ nm _ h hs' (hr.upd _ _) (SRef.val _ _))
            simp only [execOp,hop,he,hve,SV.conc]
            exact run_u (run_store_flat hf h1 hc (frozen_of hw'))
          · exact h.elim
        · exact h.elim
      · exact h.elim
    · rename_i a hf _
      split at h
      · rename_i h1
        have h':=ptrN_elim h; clear h; obtain ⟨b,off,rfl,h⟩:=h'
        exact opS_unit rfl (by simp only [execOp,hop,he,hve,SV.conc]) hs hr hn (opS_st hf h1 h)
      · exact h.elim
    · rename_i k off hf _
      have h':=sizeT_elim h; clear h; obtain ⟨z,hz,h⟩:=h'
      have h':=aggV_elim h; clear h; obtain ⟨vs,rfl,h⟩:=h'
      split at h
      · rename_i e cs hk
        split at h
        · rename_i hl
          split at h
          · rename_i h1
            split at h
            · rename_i ho
              have hw:=(hs.priv k e cs hk).1
              have hw':w.heap[nm k]?=some (.cells (cs++[]).toArray e (0,0)):=by simpa using hw
              obtain ⟨w',hrun,hb',hr',a1,a2,a3,a4⟩:=run_storeCells_row (P:=P) vs 0 off cs w h1 (by omega) hw'
              have hs':=hs.setPriv hk (w':=w') (cs':=splice cs off vs) (by simpa using hb') hr' a1 a2 a3 a4
              refine wp_skip' (w':=w') ?_ (hn _ _ _ nm _ h hs' (hr.upd _ _) (SRef.val _ _))
              simp only [execOp,hop,he,hve,SV.conc]
              exact run_u ((run_store_agg hz hl).trans hrun)
            · exact h.elim
          · exact h.elim
        · exact h.elim
      · exact h.elim
    · rename_i a hf _
      have h':=sizeT_elim h; clear h; obtain ⟨z,hz,h⟩:=h'
      have h':=aggV_elim h; clear h; obtain ⟨vs,rfl,h⟩:=h'
      have h':=ptrN_elim h; clear h; obtain ⟨b,off,rfl,h⟩:=h'
      exact opS_unit rfl (by simp only [execOp,hop,he,hve,SV.conc]) hs hr hn (opS_stN hz h.1 h.2)
    · exact h.elim
  case alloc t=>
    have h':=zeroT_elim h; clear h; obtain ⟨z,hz,h⟩:=h'
    have hrun:∀ w:World,(Instr.alloc t true (.tuple #[])).run P w=.ok (ptr w.heap.size 0) (w.alloc (.cells z.cells t)):=fun w=>by
      simp only [Instr.alloc,Sem.run_bind,hz,Result.andThen_ok]
      rfl
    split at h
    · rename_i d hd
      split at h
      · split at h
        · rename_i hpd
          have hs':=hs.alloc hr (t:=t) (cs:=z.cells.toList) hpd
          refine wp_value (v:=ptr w.heap.size 0) (w':=w.alloc (.cells z.cells t)) ?_ ?_
          · simp only [execOp,hop]; exact run_v (hrun w)
          · have:=hn _ _ _ _ _ h hs' (hr.upd _ _) (fun k off e=>by cases e; rw [upd_eq]; simp)
            simpa [SV.conc] using this
        · exact h.elim
      · refine opS_value rfl (by simp only [execOp,hop]) hs hr hn (fun F w0 w hf=>⟨_,_,_,hrun w,hf.alloc _ (Ent.ok_cells t z.cells.toList),h _ hf.fresh⟩)
    · exact h.elim
  case box t x=>
    have h':=vv_elim h; clear h; obtain ⟨v,hx,h⟩:=h'
    have he:=hs.eval hx []
    have hrun:∀ w:World,(Instr.box t v).run P w=.ok (ptr w.heap.size 0) (w.alloc (.cells v.cells t)):=fun w=>rfl
    split at h
    · rename_i d hd
      split at h
      · split at h
        · rename_i hpd
          have hs':=hs.alloc hr (t:=t) (cs:=v.cells.toList) hpd
          refine wp_value (v:=ptr w.heap.size 0) (w':=w.alloc (.cells v.cells t)) ?_ ?_
          · simp only [execOp,hop,he,SV.conc]; exact run_v (hrun w)
          · have:=hn _ _ _ _ _ h hs' (hr.upd _ _) (fun k off e=>by cases e; rw [upd_eq]; simp)
            simpa [SV.conc] using this
        · exact h.elim
      · refine opS_value rfl (by simp only [execOp,hop,he,SV.conc]) hs hr hn (fun F w0 w hf=>⟨_,_,_,hrun w,hf.alloc _ (Ent.ok_cells t v.cells.toList),h _ hf.fresh⟩)
    · exact h.elim
  case build t parts=>
    have h':=partsV_elim h; clear h; obtain ⟨vs,hp',h⟩:=h'
    obtain ⟨r,hrun,h⟩:=buildF_run (w:=w) h
    refine run_value (s:=.val r) rfl ?_ hs hr hn (SRef.val _ _) h
    have:(parts.map fun (x:Nat × Operand)=>(x.1,({ tmps,defers:=[] }:Act).eval x.2))=vs.toArray:=by
      apply Array.ext'; rw [Array.toList_map]; exact hs.evalParts hp' []
    simp only [execOp,hop]
    rw [show (parts.map fun (i,x)=>(i,({ tmps,defers:=[] }:Act).eval x))=vs.toArray from this]
    exact run_v hrun
  case buildSlice t n parts=>
    have h':=partsV_elim h; clear h; obtain ⟨vs,hp',h⟩:=h'
    have:(parts.map fun (x:Nat × Operand)=>(x.1,({ tmps,defers:=[] }:Act).eval x.2))=vs.toArray:=by
      apply Array.ext'; rw [Array.toList_map]; exact hs.evalParts hp' []
    refine opS_value rfl ?_ hs hr hn (buildSF_run h)
    simp only [execOp,hop]
    rw [show (parts.map fun (i,x)=>(i,({ tmps,defers:=[] }:Act).eval x))=vs.toArray from this]
  case makeSlice t l c=>
    have h':=vv_elim h; clear h; obtain ⟨l',hl,h⟩:=h'
    have h':=vv_elim h; clear h; obtain ⟨c',hc,h⟩:=h'
    refine opS_value rfl (by simp only [execOp,hop,hs.eval hl,hs.eval hc,SV.conc]) hs hr hn (opS_mono h fun v hp' h=>?_)
    have h':=slcV_elim h; clear h; obtain ⟨a,n,m,rfl,h⟩:=h'
    exact h
  case makeMap t r=>
    cases r with
    | some r=>exact h.elim
    | none=>
      refine opS_value (s:=Instr.makeMap t none) rfl (by simp [execOp,hop]) hs hr hn (fun F w0 w hf=>⟨.map (some w.heap.size),_,_,?_,hf.alloc (.map #[] 0) (e:=.obj (.map #[] 0)) rfl,h _ hf.fresh⟩)
      simp [Instr.makeMap,run_newObj]
  case mapUpdate t m k x=>
    have h':=vv_elim h; clear h; obtain ⟨m',hm,h⟩:=h'
    have h':=vv_elim h; clear h; obtain ⟨k',hk,h⟩:=h'
    have h':=vv_elim h; clear h; obtain ⟨x',hx,h⟩:=h'
    exact opS_unit rfl (by simp only [execOp,hop,hs.eval hm,hs.eval hk,hs.eval hx,SV.conc]) hs hr hn h
  case insert t m k x=>
    have h':=vv_elim h; clear h; obtain ⟨m',hm,h⟩:=h'
    have h':=vv_elim h; clear h; obtain ⟨k',hk,h⟩:=h'
    have h':=vv_elim h; clear h; obtain ⟨x',hx,h⟩:=h'
    exact opS_unit rfl (by simp only [execOp,hop,hs.eval hm,hs.eval hk,hs.eval hx,SV.conc]) hs hr hn h
  case mapEntry t m k=>
    have h':=vv_elim h; clear h; obtain ⟨m',hm,h⟩:=h'
    have h':=vv_elim h; clear h; obtain ⟨k',hk,h⟩:=h'
    exact opS_value rfl (by simp only [execOp,hop,hs.eval hm,hs.eval hk,SV.conc]) hs hr hn h
  case entryStore t m k x=>
    have h':=vv_elim h; clear h; obtain ⟨m',hm,h⟩:=h'
    have h':=vv_elim h; clear h; obtain ⟨k',hk,h⟩:=h'
    have h':=vv_elim h; clear h; obtain ⟨x',hx,h⟩:=h'
    exact opS_unit rfl (by simp only [execOp,hop,hs.eval hm,hs.eval hk,hs.eval hx,SV.conc]) hs hr hn h
  case lookup t m k ok=>
    have h':=vv_elim h; clear h; obtain ⟨m',hm,h⟩:=h'
    have h':=vv_elim h; clear h; obtain ⟨k',hk,h⟩:=h'
    obtain ⟨v,hv,h⟩:=h
    exact rd_value rfl (by simp only [execOp,hop,hs.eval hm,hs.eval hk,SV.conc]) hs hr hn ⟨v,hv,elim_elim h⟩
  case range t x=>
    have h':=vv_elim h; clear h; obtain ⟨x',hx,h⟩:=h'
    exact opS_value rfl (by simp only [execOp,hop,hs.eval hx,SV.conc]) hs hr hn h
  case next x s=>
    have h':=vv_elim h; clear h; obtain ⟨x',hx,h⟩:=h'
    exact opS_value rfl (by simp only [execOp,hop,hs.eval hx,SV.conc]) hs hr hn h
  case entry x=>
    have h':=vv_elim h; clear h; obtain ⟨x',hx,h⟩:=h'
    exact rd_value rfl (by simp only [execOp,hop,hs.eval hx,SV.conc]) hs hr hn h
  case extract x i=>
    have h':=vv_elim h; clear h; obtain ⟨v,hx,h⟩:=h'
    have he:=hs.eval hx []
    unfold tupI at h
    split at h
    · rename_i vs
      have h':=ldV_elim h; clear h; obtain ⟨u,hu,h⟩:=h'
      refine run_value (s:=.val u) rfl ?_ hs hr hn (SRef.val _ _) (elim_elim h)
      simp only [execOp,hop,he,SV.conc]
      refine run_v ?_
      simp [Instr.extract,hu]
    · exact h.elim
  case typeAssert x xt at_ ok=>
    have h':=vv_elim h; clear h; obtain ⟨x',hx,h⟩:=h'
    obtain ⟨v,hv,h⟩:=h
    exact rd_value rfl (by simp only [execOp,hop,hs.eval hx,SV.conc]) hs hr hn ⟨v,hv,elim_elim h⟩
  case convert s d x=>
    have h':=vv_elim h; clear h; obtain ⟨x',hx,h⟩:=h'
    have he:=hs.eval hx []
    split at h
    · obtain ⟨v,hv,h⟩:=h
      have h':=strV_elim h; clear h; obtain ⟨s',rfl,h⟩:=h'
      exact rd_value rfl (by simp only [execOp,hop,he,SV.conc]) hs hr hn ⟨_,hv,h⟩
    · refine opS_value rfl (by simp only [execOp,hop,he,SV.conc]) hs hr hn (opS_mono h fun v hp' h=>?_)
      have h':=slcV_elim h; clear h; obtain ⟨a,n,m,rfl,h⟩:=h'
      exact h
    · exact sem_value rfl (by simp only [execOp,hop,he,SV.conc]) hs hr hn h
  case unOp op t x=>
    have h':=vv_elim h; clear h; obtain ⟨x',hx,h⟩:=h'
    exact sem_value rfl (by simp only [execOp,hop,hs.eval hx,SV.conc]) hs hr hn h
  case binOp op t x y t'=>
    have h':=vv_elim h; clear h; obtain ⟨a,hx,h⟩:=h'
    have h':=vv_elim h; clear h; obtain ⟨b,hy,h⟩:=h'
    exact opS_value rfl (by simp only [execOp,hop,hs.eval hx,hs.eval hy,SV.conc]) hs hr hn (opS_mono (binF_opS h) fun v hp' ⟨e,h⟩=>by subst e; exact h)
  case makeInterface t x=>
    have h':=vv_elim h; clear h; obtain ⟨x',hx,h⟩:=h'
    exact sem_value rfl (by simp only [execOp,hop,hs.eval hx,SV.conc]) hs hr hn h
  case makeFunc fn first captured=>
    have h':=vvs_elim h; clear h; obtain ⟨a,ha,h⟩:=h'
    have h':=vvs_elim h; clear h; obtain ⟨b,hb,h⟩:=h'
    have h1:first.map ({ tmps,defers:=[] }:Act).eval=⟨a⟩:=by
      apply Array.ext'; rw [Array.toList_map]; exact hs.evals ha []
    have h2:captured.map ({ tmps,defers:=[] }:Act).eval=⟨b⟩:=by
      apply Array.ext'; rw [Array.toList_map]; exact hs.evals hb []
    refine run_value (s:=.val (.func fn ⟨a⟩ ⟨b⟩)) rfl ?_ hs hr hn (SRef.val _ _) h
    simp only [execOp,hop,h1,h2]
    rfl
  case call c=>
    obtain ⟨callee,args,argTypes⟩:=c
    cases callee with
    | builtin b=>
      have h':=vvs_elim h; clear h; obtain ⟨vs,hvs,h⟩:=h'
      have h1:args.map ({ tmps,defers:=[] }:Act).eval=⟨vs⟩:=by
        apply Array.ext'; rw [Array.toList_map]; exact hs.evals hvs []
      obtain ⟨s,hs1,hs2⟩:=builtinF_opS (args.map fun | .const _=>true | _=>false) h
      refine opS_value rfl ?_ hs hr hn hs2
      simp only [execOp,hop,resolve,h1]
      rw [← hs1]
      rfl
    | value f=>
      have h':=vv_elim h; clear h; obtain ⟨fv,hf,h⟩:=h'
      have h':=vvs_elim h; clear h; obtain ⟨vs,hvs,h⟩:=h'
      have h':=fnV_elim h; clear h; obtain ⟨g,a,b,rfl,h⟩:=h'
      have h1:args.map ({ tmps,defers:=[] }:Act).eval=⟨vs⟩:=by
        apply Array.ext'; rw [Array.toList_map]; exact hs.evals hvs []
      refine call_wp rfl (fun w=>?_) hs hr hn h
      simp only [execOp,hop,resolve,h1,hs.eval hf,SV.conc,Deferred.ofValue]
      simp [invoke]
    | invoke r name=>
      have h':=vv_elim h; clear h; obtain ⟨v,hrv,h⟩:=h'
      have h':=vvs_elim h; clear h; obtain ⟨vs,hvs,h⟩:=h'
      have h':=ifaceV_elim h; clear h; obtain ⟨t,x,rfl,h⟩:=h'
      have h':=mthF_elim h; clear h; obtain ⟨g,hg,h⟩:=h'
      have h1:args.map ({ tmps,defers:=[] }:Act).eval=⟨vs⟩:=by
        apply Array.ext'; rw [Array.toList_map]; exact hs.evals hvs []
      refine call_wp rfl (fun w=>?_) hs hr hn h
      have hpr:∀ w:World,(program).run P w=.ok P w:=fun _=>rfl
      simp only [execOp,hop,resolve,h1,hs.eval hrv,SV.conc]
      simp [invoke,callMethod,hpr,hg]
  all_goals exact h.elim
end
end Go.HL
