/- The heaplet logic, part 10: regions, results, functions. -/
import Derived.Test.YtobechphfppffaaGreatDoorHlSound5
set_option linter.unusedVariables false
set_option linter.unusedSimpArgs false
namespace Go.HL
open Go
def isGuard (ops:Array Oper) (i:Nat):Bool:=ops.any fun o=>match o.guard with | some (j,_)=>j==i | none=>false
def putD (env:Env) (dst:Option Tmp) (s:SV):Env:=match dst with | some d=>upd env d s | none=>env
def splitG (g:Bool) (s:SV) (k:SV→Prop):Prop:=match g,s with
  | true,.val (.bool b)=>ite2 b (k (.val (.bool true))) (k (.val (.bool false)))
  | _,s=>k s
theorem splitG_iff {g:Bool} {s:SV} {k:SV→Prop}:splitG g s k↔k s:=by
  unfold splitG
  split
  · rename_i b; cases b <;> exact Iff.rfl
  · exact Iff.rfl
def gd (ops:Array Oper) (env:Env) (o:Oper):Option Bool:=match o.guard with
  | none=>some true
  | some (j,want)=>match (ops[j]?).bind (·.dst) with
    | some d=>match env d with
      | some (.val (.bool b))=>some (b==want)
      | some (.val (.tuple _))=>some false
      | _=>none
    | none=>none
def dstOk (N:Nat) (o:Oper):Bool:=match o.dst with | some d=>decide (d<N) | none=>true
def stepF (P:Program) (N:Nat) (prv:List Nat) (ops:Array Oper) (i:Nat) (env:Env) (pv:PV) (hp:HP) (K:SV→PV→HP→Prop):Prop:=match ops[i]? with
  | none=>False
  | some o=>if dstOk N o=true then match gd ops env o with
      | some true=>execF P prv (opnd env) o pv hp fun s pv hp=>splitG (isGuard ops i) s fun s=>K s pv hp
      | some false=>K (.val undef) pv hp
      | none=>False
    else False
def dstOf (ops:Array Oper) (i:Nat):Option Tmp:=(ops[i]?).bind (·.dst)
def RW (P:Program) (N:Nat) (prv:List Nat) (ops:Array Oper):List Nat→Env→PV→HP→(Env→PV→HP→Prop)→Prop
  | [],env,pv,hp,K=>K env pv hp
  | i::l,env,pv,hp,K=>stepF P N prv ops i env pv hp fun s pv hp=>RW P N prv ops l (putD env (dstOf ops i) s) pv hp K
section
variable {P:Program} {F:Nat→Prop} {w0:World} {N:Nat} {prv:List Nat} {ops:Array Oper} {Q:Exit→Act→World→Prop}
theorem Sim.put {env pv hp nm tmps w} (hs:Sim F w0 N env pv hp nm tmps w) {d:Nat} (hd:d<N) (s:SV):Sim F w0 N (upd env d s) pv hp nm (tmps.setIfInBounds d (s.conc nm)) w where
  len:=by simp [hs.len]
  slots i s' hi:=by
    by_cases h:i=d
    · subst h
      rw [upd_eq] at hi; cases hi
      rw [Array.getElem?_setIfInBounds_self_of_lt (by rw [hs.len]; exact hd)]
    · rw [upd_ne _ _ h] at hi
      rw [Array.getElem?_setIfInBounds_ne (fun e=>h e.symm)]
      exact hs.slots i s' hi
  priv:=hs.priv
  inj:=hs.inj
  fits:=hs.fits
theorem RefOk.put {env:Env} {pv:PV} (hr:RefOk env pv) (d:Nat) {s:SV} (h:SRef s pv):RefOk (HL.upd env d s) pv:=fun i k off hi=>by
  by_cases e:i=d
  · subst e; rw [upd_eq] at hi; cases hi; exact h k off rfl
  · rw [upd_ne _ _ e] at hi; exact hr i k off hi
theorem Sim.putD {env pv hp nm tmps w} (hs:Sim F w0 N env pv hp nm tmps w) {o:Oper} (hd:dstOk N o=true) (s:SV) :
    Sim F w0 N (HL.putD env o.dst s) pv hp nm (({ tmps,defers:=[] }:Act).put o.dst (s.conc nm)).tmps w:=by
  unfold HL.putD Act.put
  unfold dstOk at hd
  split
  · rename_i d hdst
    rw [hdst] at hd
    simp only [hdst]
    exact hs.put (by simpa using hd) s
  · rename_i hdst; simp only [hdst]; exact hs
theorem RefOk.putD {env:Env} {pv:PV} (hr:RefOk env pv) (d:Option Tmp) {s:SV} (h:SRef s pv):RefOk (HL.putD env d s) pv:=by
  unfold HL.putD; split
  · exact hr.put _ h
  · exact hr
theorem put_act (tmps:Array Value) (d:Option Tmp) (v:Value):({ tmps,defers:=[] }:Act).put d v={ tmps:=(({ tmps,defers:=[] }:Act).put d v).tmps,defers:=[] }:=by
  unfold Act.put; split <;> rfl
theorem gd_wanted {env pv hp nm tmps w} (hs:Sim F w0 N env pv hp nm tmps w) {o:Oper} {b:Bool} (h:gd ops env o=some b):Region.wanted o (yielded ops tmps)=b:=by
  unfold gd at h
  unfold Region.wanted
  split at h
  · rename_i hg; rw [hg]; simpa using h
  · rename_i j want hg
    simp only [hg]
    split at h
    · rename_i d hd
      split at h
      · rename_i b' he
        have:=hs.slots d _ he
        cases h
        simp only [yielded,hd,Option.bind_some,this,SV.conc]
        cases b' <;> cases want <;> rfl
      · rename_i vs he
        have:=hs.slots d _ he
        cases h
        simp only [yielded,hd,Option.bind_some,this,SV.conc]
        rfl
      · cases h
    · cases h
theorem RW_sound:∀ (l:List Nat) {env pv hp nm tmps w} {K:Env→PV→HP→Prop},RW P N prv ops l env pv hp K→Sim F w0 N env pv hp nm tmps w→RefOk env pv →
    (∀ env pv hp nm tmps w,K env pv hp→Sim F w0 N env pv hp nm tmps w→RefOk env pv→Q .normal { tmps,defers:=[] } w)→wpOps P ops Q l { tmps,defers:=[] } w
  | [],env,pv,hp,nm,tmps,w,K,h,hs,hr,hQ=>hQ _ _ _ _ _ _ h hs hr
  | i::l,env,pv,hp,nm,tmps,w,K,h,hs,hr,hQ=>by
    unfold RW stepF at h
    unfold wpOps
    cases ho:ops[i]? with
    | none=>rw [ho] at h; exact h.elim
    | some o=>
      simp only [ho] at h
      dsimp only
      split at h
      · rename_i hd
        have hdo:dstOf ops i=o.dst:=by simp [dstOf,ho]
        rw [hdo] at h
        split at h
        · rename_i hg
          rw [gd_wanted hs hg,if_pos rfl]
          refine .inl (execF_sound h hs hr ?_)
          intro s pv' hp' nm' w' hk hs' hr' hsr
          have hk:=splitG_iff.1 hk
          rw [put_act]
          exact RW_sound l hk (hs'.putD hd s) (hr'.putD _ hsr) hQ
        · rename_i hg
          rw [gd_wanted hs hg]
          simp only [Bool.false_eq_true,if_false]
          rw [put_act]
          exact RW_sound l h (hs.putD hd (.val undef)) (hr.putD _ (SRef.val _ _)) hQ
        · exact h.elim
      · exact h.elim
theorem AWP.region {id:Nat} {Q:Post} {env pv hp} (h:RW P N prv ops (List.range ops.size) env pv hp fun env pv hp=>Q .normal env pv hp):AWP P N (.region id ops false) Q env pv hp:=
  fun _ _ _ _ _ hs hr=>wp_region (RW_sound _ h hs hr fun _ _ _ _ _ _ hk hs hr=>⟨rfl,.normal,_,_,_,_,rfl,hs,hr,hk⟩)
/-! What a function answers. -/
def loadR (P:Program) (t:TypeId) (s:SV) (pv:PV) (hp:HP) (c:Value→Prop):Prop:=match flat P t,s with
  | some true,.priv k off=>ldV (pvCell pv k off) c
  | some true,.val (.pointer a)=>ptrN a fun b off=>ldV (hp.cell b off) c
  | some false,.priv k off=>sizeT P t fun z=>ldL (pvCellN pv k off z) fun cs=>c (.agg ⟨cs⟩)
  | some false,.val (.pointer a)=>ptrN a fun b off=>sizeT P t fun z=>ldL (hp.cellN b off z) fun cs=>c (.agg ⟨cs⟩)
  | _,_=>False
def resL (P:Program) (env:Env) (pv:PV) (hp:HP):List ResultVar→(List Value→Prop)→Prop
  | [],c=>c []
  | .tmp t::rs,c=>vv (env t) fun v=>resL P env pv hp rs fun vs=>c (v::vs)
  | .cell a t::rs,c=>sv (env a) fun s=>loadR P t s pv hp fun v=>resL P env pv hp rs fun vs=>c (v::vs)
def resF (P:Program) (rs:List ResultVar) (env:Env) (pv:PV) (hp:HP) (c:Value→Prop):Prop:=resL P env pv hp rs fun vs=>match vs with
  | [v]=>c v
  | vs=>c (.tuple ⟨vs⟩)
theorem loadR_run {env pv hp nm tmps w} (hs:Sim F w0 N env pv hp nm tmps w) {t:TypeId} {s:SV} {c:Value→Prop} (h:loadR P t s pv hp c) :
    ∃ v,(do loadVar t (← asAddr (s.conc nm)):Sem Value).run P w=.ok v w∧c v:=by
  unfold loadR at h
  have key:∀ b off v,(Instr.loadAt t (ptr b off)).run P w=.ok v w→(do loadVar t (← asAddr (ptr b off)):Sem Value).run P w=.ok v w:=by
    intro b off v h
    simpa [Instr.loadAt,Instr.sureAddr,asAddr] using h
  split at h
  · rename_i k off hf
    obtain ⟨v,hv,hc⟩:=ldV_elim h
    unfold pvCell at hv
    split at hv
    · rename_i T cs hk
      have ho:off<cs.length:=by
        rcases Nat.lt_or_ge off cs.length with h | h
        · exact h
        · rw [List.getElem?_eq_none h] at hv; cases hv
      have hw:=(hs.priv k T cs hk).1
      have hcell:w.cell? ⟨nm k,off,none⟩=some v:=by
        rw [cell_of (cs:=cs) (rest:=[]) (by simpa using hw) ho,hv]
      exact ⟨v,key _ _ _ (run_load_flat hf hcell),hc⟩
    · cases hv
  · rename_i a hf
    obtain ⟨b,off,e,h1⟩:=ptrN_elim h
    obtain ⟨v,hv,hc⟩:=ldV_elim h1
    subst e
    exact ⟨v,key _ _ _ (run_load_flat hf (hs.fits.cell hv)),hc⟩
  · rename_i k off hf
    obtain ⟨z,hz,h1⟩:=sizeT_elim h
    obtain ⟨cs',hv,hc⟩:=ldL_elim h1
    unfold pvCellN at hv
    split at hv
    · rename_i T cs hk
      have hw:=(hs.priv k T cs hk).1
      exact ⟨_,key _ _ _ (run_load_agg hf hz (run_loadCells_row (rest:=[]) (by simpa using hw) hv)),hc⟩
    · cases hv
  · rename_i a hf
    obtain ⟨b,off,e,h1⟩:=ptrN_elim h
    obtain ⟨z,hz,h2⟩:=sizeT_elim h1
    obtain ⟨cs',hv,hc⟩:=ldL_elim h2
    subst e
    exact ⟨_,key _ _ _ (run_load_agg hf hz (hs.fits.cellN hv)),hc⟩
  · exact h.elim
theorem resL_run {env pv hp nm tmps w} (hs:Sim F w0 N env pv hp nm tmps w):∀ {rs:List ResultVar} {c:List Value→Prop} (acc:Array Value),resL P env pv hp rs c →
    ∃ vs:List Value,(rs.foldlM (fun (bs:Array Value) (r:ResultVar)=>(do
      let b ← (match r with | .tmp t=>pure (tmps.getD t undef) | .cell a t=>do loadVar t (← asAddr (tmps.getD a undef)):Sem Value)
      pure (bs.push b))) acc).run P w=.ok (acc++vs.toArray) w∧c vs
  | [],c,acc,h=>⟨[],by simp,h⟩
  | .tmp t::rs,c,acc,h=>by
    obtain ⟨v,hv,h1⟩:=vv_elim h
    obtain ⟨vs,hr,hc⟩:=resL_run hs (acc.push v) h1
    refine ⟨v::vs,?_,hc⟩
    have:=hs.getD hv
    simp only [SV.conc] at this
    simp only [List.foldlM_cons,Sem.run_bind,this,Sem.run_pure,Result.andThen_ok,hr]
    simp
  | .cell a t::rs,c,acc,h=>by
    obtain ⟨s,hsv,h1⟩:=sv_elim h
    obtain ⟨v,hv,h2⟩:=loadR_run hs h1
    obtain ⟨vs,hr,hc⟩:=resL_run hs (acc.push v) h2
    refine ⟨v::vs,?_,hc⟩
    have:=hs.getD hsv
    rw [← this] at hv
    rw [List.foldlM_cons,Sem.run_bind,Sem.run_bind,hv]
    simp only [Result.andThen_ok,Sem.run_pure,hr]
    simp
theorem resF_run {env pv hp nm tmps w} (hs:Sim F w0 N env pv hp nm tmps w) {fn:Func} {c:Value→Prop} (h:resF P fn.results.toList env pv hp c) :
    ∃ v,(results fn tmps).run P w=.ok v w∧c v:=by
  obtain ⟨vs,hr,hc⟩:=resL_run hs #[] h
  have:(fn.results.mapM fun (r:ResultVar)=>(match r with | .tmp t=>pure (tmps.getD t undef) | .cell a t=>do loadVar t (← asAddr (tmps.getD a undef)):Sem Value)).run P w=.ok vs.toArray w:=by
    rw [Array.mapM_eq_foldlM,← Array.foldlM_toList]
    simpa using hr
  have hres:(results fn tmps).run P w=((fn.results.mapM fun (r:ResultVar)=>(match r with | .tmp t=>pure (tmps.getD t undef) | .cell a t=>do loadVar t (← asAddr (tmps.getD a undef)):Sem Value)).run P w).andThen fun vs w=>.ok (if h:vs.size=1 then vs[0] else .tuple vs) w:=by
    simp only [results,Sem.run_bind,Sem.run_pure]
    rfl
  rw [hres,this]
  refine ⟨_,rfl,?_⟩
  match vs,hc with
  | [],hc=>exact hc
  | [v],hc=>exact hc
  | a::b::r,hc=>exact hc
def argEnv (args:List Value):Env:=fun i=>(args[i]?).map .val
def retPost (P:Program) (rs:List ResultVar) (K:Value→HP→Prop):Post:=fun x env pv hp=>match x with
  | .exit _=>False
  | _=>resF P rs env pv hp fun v=>K v hp
theorem AC.intro {f:FuncId} {fn:Func} {c:Code} {args:List Value} {hp:HP} {K:Value→HP→Prop} (hf:P.funcs[f]?=some fn) (hb:fn.body=some c) (hN:fn.ntmps=N) (hl:args.length≤N)
    (h:AWP P N c (retPost P fn.results.toList K) (argEnv args) (fun _=>none) hp):AC P f args hp K:=by
  intro F w hfit
  refine calls_of_wp hf hb ?_
  have hs:Sim F w N (argEnv args) (fun _=>none) hp (fun _=>0) (args.toArray++Array.replicate (fn.ntmps-args.toArray.size) undef) w:=
    { len:=by simp [hN]; omega
      slots:=fun i s hi=>by
        unfold argEnv at hi
        cases ha:args[i]? with
        | none=>rw [ha] at hi; cases hi
        | some v=>
          rw [ha] at hi; cases hi
          have hlt:i<args.length:=by
            rcases Nat.lt_or_ge i args.length with h | h
            · exact h
            · rw [List.getElem?_eq_none h] at ha; cases ha
          rw [Array.getElem?_append_left (by simpa using hlt)]
          simpa [SV.conc] using ha
      priv:=fun k T cs h=>by cases h
      inj:=fun k k' h=>absurd rfl h
      fits:=hfit }
  refine wp_mono (h F w _ _ w hs (fun i k off hi=>by unfold argEnv at hi; cases ha:args[i]? <;> rw [ha] at hi <;> cases hi)) ?_
  rintro e ⟨tm,df⟩ w' ⟨hd,x,env,pv,hp',nm,rfl,hs',_,hq⟩
  simp only at hd; subst hd
  cases x with
  | normal=>
    obtain ⟨v,hr,hk⟩:=resF_run hs' hq
    exact ⟨rfl,v,hr,v,hp',rfl,hs'.fits,hk⟩
  | ret=>
    obtain ⟨v,hr,hk⟩:=resF_run hs' hq
    exact ⟨rfl,v,hr,v,hp',rfl,hs'.fits,hk⟩
  | exit id=>exact hq.elim
end
end Go.HL
