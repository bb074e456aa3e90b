/- The heaplet logic, part 38: maps, by the evaluator. -/
import Derived.Test.YtobechphfppffaaGreatDoorHlEvE
import Derived.WideKeyEntry
set_option linter.unusedVariables false
set_option linter.unusedSimpArgs false
namespace Go.HL
open Go
set_option linter.unusedVariables false
set_option linter.unusedSectionVars false
section
variable {P:Program} {kt et mt:TypeId}
theorem keyLaw_no (hn:∀ v,¬ keyOk P kt v=true):KeyLaw P kt fun v=>keyOk P kt v=true:=
  ⟨fun _ k _ h=>absurd h (hn k),fun k _ _ h _=>absurd h (hn k),fun k _ h=>absurd h (hn k)⟩
theorem keyLaw_wide (h2:∀ v,keyOk P kt v=true→∃ cs,v=.agg ⟨cs⟩):KeyLaw P kt fun v=>keyOk P kt v=true:=by
  cases h1:aggOk P kt with
  | false=>
    refine keyLaw_no fun v h=>?_
    obtain ⟨cs,rfl⟩:=h2 v h
    simp [keyOk,h1] at h
  | true=>
    refine (KeyLaw.wide (m:=8) (D:=8) h1).weaken fun v h=>?_
    obtain ⟨cs,rfl⟩:=h2 v h
    simp only [keyOk,Bool.and_eq_true] at h
    exact ⟨cs,rfl,h.1.2,h.2⟩
theorem keyOk_law (P:Program) (kt:TypeId):KeyLaw P kt fun v=>keyOk P kt v=true:=by
  cases hu:P.underlying kt with
  | none=>
    refine keyLaw_no fun v h=>?_
    cases v with
    | agg cs=>obtain ⟨cs⟩:=cs; simp [keyOk,hu,aggOk] at h
    | _=>simp [keyOk,hu] at h
  | some d=>
    cases d with
    | int q=>
      refine (KeyLaw.flat hu).weaken fun v h=>?_
      cases v with
      | agg cs=>obtain ⟨cs⟩:=cs; simp [keyOk,hu,aggOk] at h
      | int k n=>
        simp only [keyOk,hu,decide_eq_true_eq] at h
        exact h
      | _=>simp [keyOk,hu] at h
    | bool=>
      refine (KeyLaw.flat hu).weaken fun v h=>?_
      cases v with
      | agg cs=>obtain ⟨cs⟩:=cs; simp [keyOk,hu,aggOk] at h
      | bool b=>trivial
      | _=>simp [keyOk,hu] at h
    | string=>
      refine (KeyLaw.flat hu).weaken fun v h=>?_
      cases v with
      | agg cs=>obtain ⟨cs⟩:=cs; simp [keyOk,hu,aggOk] at h
      | string b=>trivial
      | _=>simp [keyOk,hu] at h
    | array n e=>
      refine keyLaw_wide fun v h=>?_
      cases v with
      | agg cs=>exact ⟨cs.toList,rfl⟩
      | _=>simp [keyOk,hu] at h
    | struct fs=>
      refine keyLaw_wide fun v h=>?_
      cases v with
      | agg cs=>exact ⟨cs.toList,rfl⟩
      | _=>simp [keyOk,hu] at h
    | _=>
      refine keyLaw_no fun v h=>?_
      cases v with
      | agg cs=>obtain ⟨cs⟩:=cs; simp [keyOk,hu,aggOk] at h
      | _=>simp [keyOk,hu] at h
theorem keyEq_iff {k x:Value} (hk:keyOk P kt k=true):keyEq k x=true↔k=x:=by
  have hleaf:(∃ cs,k=.agg ⟨cs⟩∧cs.all leafB=true)∨leafB k=true:=by
    unfold keyOk at hk
    split at hk <;> first | (cases hk; done) | (exact .inr rfl) | skip
    simp only [Bool.and_eq_true] at hk
    exact .inl ⟨_,rfl,hk.2⟩
  have single:leafB k=true→(leafEq [k] [x]=true↔k=x):=fun h=>by
    rw [leafEq_iff (by simp [h])]; simp
  rcases hleaf with ⟨cs,rfl,hl⟩ | hl
  · unfold keyEq
    split
    · rename_i e1
      cases e1
      rw [leafEq_iff hl]; simp
    · rename_i hn
      constructor
      · intro h
        have:=leafEq_true h
        simpa using this
      · intro h
        exact absurd h.symm (fun e=>hn _ _ rfl e)
  · unfold keyEq
    split
    · cases hl
    · exact single hl
variable {m:Nm}
theorem find_some {k:Value} (hk:keyOk P kt k=true):∀ {l:List (Value × RV × Nat)} {es:List MapEntry} {v:RV} {b:Nat} (i:Nat),F2 (MER m) l es→findK k l=some (v,b) →
    ∃ n e,findE k es i=some (i+n,e.val)∧es[n]?=some e∧e.key=k∧VR m v e.val∧e.born=b
  | [],_,v,b,i,h,hf=>by cases hf
  | (x,u,c)::l,es,v,b,i,h,hf=>by
    cases h with
    | cons h1 h2=>
      rename_i e es
      simp only [findK] at hf
      split at hf
      · rename_i hx
        cases hf
        have:=(keyEq_iff hk).1 hx
        subst this
        refine ⟨0,e,?_,rfl,h1.1,h1.2.1,h1.2.2⟩
        unfold findE
        rw [if_pos h1.1.symm]; rfl
      · rename_i hx
        obtain ⟨n,e',a1,a2,a3,a4,a5⟩:=find_some hk (i+1) h2 hf
        refine ⟨n+1,e',?_,by simpa using a2,a3,a4,a5⟩
        have hne:¬ k=e.key:=fun ek=>by
          rw [h1.1] at ek
          rw [(keyEq_iff hk).2 ek] at hx; cases hx
        unfold findE
        rw [if_neg hne,a1,Nat.add_assoc,Nat.add_comm 1 n]
theorem find_none {k:Value} (hk:keyOk P kt k=true):∀ {l:List (Value × RV × Nat)} {es:List MapEntry} (i:Nat),F2 (MER m) l es→findK k l=none→findE k es i=none
  | [],_,i,h,hf=>by cases h; rfl
  | (x,u,c)::l,es,i,h,hf=>by
    cases h with
    | cons h1 h2=>
      rename_i e es
      simp only [findK] at hf
      split at hf
      · cases hf
      · rename_i hx
        have hne:¬ k=e.key:=fun ek=>by
          rw [h1.1] at ek
          rw [(keyEq_iff hk).2 ek] at hx; cases hx
        unfold findE
        rw [if_neg hne]
        exact find_none hk (i+1) h2 hf
theorem keys_okE {l:List (Value × RV × Nat)} {es:List MapEntry} (h:F2 (MER m) l es) (hl:∀ x∈l,keyOk P kt x.1=true):∀ e∈es,keyOk P kt e.key=true:=by
  induction h with
  | nil=>intro e he; cases he
  | cons h1 h2 ih=>
    intro e he
    rcases List.mem_cons.1 he with rfl | he
    · rw [h1.1]; exact hl _ (by simp)
    · exact ih (fun x hx=>hl x (by simp [hx])) e he
theorem rdS_lookupE {hp:HP} {r clock:Nat} {es:Array MapEntry} {l:List (Value × RV × Nat)} (hm:P.underlying mt=some (.map kt et)) (hr:hp r=.obj (.map es clock)) (hes:F2 (MER m) l es.toList) (hl:∀ x∈l,keyOk P kt x.1=true)
    {k:Value} (hk:keyOk P kt k=true) {z:Value} (hz:∀ w,(zeroValue et).run P w=.ok z w) {cm:Bool} {c:Value→Prop}
    (h:∀ v,(match findK k l with | some (x,_)=>VR m x v | none=>v=z)→c (if cm then .tuple ⟨[v,.bool (findK k l).isSome]⟩ else v)):rdS P (Instr.lookup mt (.map (some r)) k cm) hp c:=by
  have law:=keyOk_law P kt
  cases hf:findK k l with
  | none=>
    rw [hf] at h
    refine ⟨_,fun F w0 w hfit=>?_,h z rfl⟩
    have hb:=getObj_of hfit hr
    have hfind:=law.find k es.toList w hk (keys_okE hes hl)
    have hchk:=law.chk es.isEmpty k w hk
    rw [find_none hk 0 hes hf] at hfind
    simp only [Instr.lookup,Sem.run_bind,run_underlying hm,Result.andThen_ok,MapKept.run_getObj_map hb,Sem.run_pure,hchk,hfind]
    cases cm <;> simp [hz]
  | some q=>
    obtain ⟨x,b⟩:=q
    rw [hf] at h
    obtain ⟨n,e,a1,a2,a3,a4,a5⟩:=find_some hk 0 hes hf
    refine ⟨_,fun F w0 w hfit=>?_,h e.val a4⟩
    have hb:=getObj_of hfit hr
    have hfind:=law.find k es.toList w hk (keys_okE hes hl)
    have hchk:=law.chk es.isEmpty k w hk
    rw [a1] at hfind
    simp only [Instr.lookup,Sem.run_bind,run_underlying hm,Result.andThen_ok,MapKept.run_getObj_map hb,Sem.run_pure,hchk,hfind]
    cases cm <;> simp
theorem rdS_lookupN {hp:HP} (hm:P.underlying mt=some (.map kt et)) {k:Value} (hk:keyOk P kt k=true) {z:Value} (hz:∀ w,(zeroValue et).run P w=.ok z w) {cm:Bool} {c:Value→Prop}
    (h:c (if cm then .tuple ⟨[z,.bool false]⟩ else z)):rdS P (Instr.lookup mt (.map none) k cm) hp c:=by
  have law:=keyOk_law P kt
  refine ⟨_,fun F w0 w hfit=>?_,h⟩
  have hfind:=law.find k [] w hk (fun e he=>by cases he)
  have hchk:=law.chk true k w hk
  simp only [Instr.lookup,Sem.run_bind,run_underlying hm,Result.andThen_ok,Sem.run_pure,List.isEmpty_toArray,List.isEmpty_nil,hchk,hfind,findE]
  cases cm <;> simp [hz]
/-! Entries that are turned. -/
theorem born_modify {es:List MapEntry} {n:Nat} {f:MapEntry→MapEntry} (hf:∀ e,(f e).born=e.born):(es.modify n f).map (·.born)=es.map (·.born):=by
  apply List.ext_getElem?; intro i
  simp only [List.getElem?_map,List.getElem?_modify]
  cases es[i]? with
  | none=>rfl
  | some y=>
    by_cases h:n=i <;> simp [h,hf]
theorem born_lt_modify {es:List MapEntry} {n clock:Nat} {f:MapEntry→MapEntry} (hf:∀ e,(f e).born=e.born) (h:∀ x∈es,x.born<clock):∀ x∈es.modify n f,x.born<clock:=fun x hx=>by
  have:x.born∈es.map (·.born):=born_modify (n:=n) hf▸List.mem_map.2 ⟨x,hx,rfl⟩
  obtain ⟨y,hy,e⟩:=List.mem_map.1 this
  rw [← e]; exact h y hy
theorem putK_some {k:Value} (hk:keyOk P kt k=true) {v:RV} {w:Value} (hv:VR m v w):∀ {l r:List (Value × RV × Nat)} {es:List MapEntry},F2 (MER m) l es→putK k v l=some r →
    ∃ n e x,(∀ i,findE k es i=some (i+n,x))∧es[n]?=some e∧e.key=k∧F2 (MER m) r (es.modify n fun e:MapEntry=>{ e with key:=k,val:=w })∧(∀ y∈r,y.1=k∨y∈l)
  | [],r,es,h,hf=>by cases hf
  | (x,u,c)::l,r,es,h,hf=>by
    cases h with
    | cons h1 h2=>
      rename_i e es
      simp only [putK] at hf
      split at hf
      · rename_i hx
        cases hf
        have:=(keyEq_iff hk).1 hx
        subst this
        refine ⟨0,e,e.val,fun i=>?_,rfl,h1.1,?_,fun y hy=>?_⟩
        · unfold findE
          rw [if_pos h1.1.symm]; rfl
        · rw [List.modify_zero_cons]
          exact .cons ⟨rfl,hv,h1.2.2⟩ h2
        · rcases List.mem_cons.1 hy with rfl | hy
          · exact .inl rfl
          · exact .inr (by simp [hy])
      · rename_i hx
        rw [Option.bind_eq_some_iff] at hf
        obtain ⟨r',hf,e'⟩:=hf
        cases e'
        obtain ⟨n,e1,x1,a1,a2,a3,a4,a5⟩:=putK_some hk hv h2 hf
        refine ⟨n+1,e1,x1,fun i=>?_,by simpa using a2,a3,?_,fun y hy=>?_⟩
        · have hne:¬ k=e.key:=fun ek=>by
            rw [h1.1] at ek
            rw [(keyEq_iff hk).2 ek] at hx; cases hx
          unfold findE
          rw [if_neg hne,a1,Nat.add_assoc,Nat.add_comm 1 n]
        · rw [List.modify_succ_cons]
          exact .cons h1 a4
        · rcases List.mem_cons.1 hy with rfl | hy
          · exact .inr (by simp)
          · rcases a5 y hy with h | h
            · exact .inl h
            · exact .inr (by simp [h])
theorem putK_none {k:Value} (hk:keyOk P kt k=true) {v:RV}:∀ {l:List (Value × RV × Nat)} {es:List MapEntry} (i:Nat),F2 (MER m) l es→putK k v l=none→findE k es i=none
  | [],_,i,h,hf=>by cases h; rfl
  | (x,u,c)::l,es,i,h,hf=>by
    cases h with
    | cons h1 h2=>
      rename_i e es
      simp only [putK] at hf
      split at hf
      · cases hf
      · rename_i hx
        have hne:¬ k=e.key:=fun ek=>by
          rw [h1.1] at ek
          rw [(keyEq_iff hk).2 ek] at hx; cases hx
        unfold findE
        rw [if_neg hne]
        refine putK_none (v:=v) hk (i+1) h2 ?_
        cases hp:putK k v l with
        | none=>rfl
        | some r=>rw [hp] at hf; cases hf
theorem f2_snoc {α β:Type} {R:α→β→Prop} {l:List α} {l':List β} (h:F2 R l l') {x:α} {y:β} (hx:R x y):F2 R (l++[x]) (l'++[y]):=f2_app h (.cons hx .nil)
theorem SER_push {c clock:Nat} {l:List (Value × RV × Nat)} {es:Array MapEntry} (h2:F2 (MER m) l es.toList) (h3:∀ x∈es.toList,x.born<clock) (h4:(es.toList.map (·.born)).Nodup) (h5:∀ x∈l,keyOk P kt x.1=true)
    {k:Value} (hk:keyOk P kt k=true) {v:RV} {w:Value} (hv:VR m v w):SER P m c (.map kt (lapp l [(k,v,clock)]) (clock+1)) (.obj (.map (es.push { key:=k,val:=w,born:=clock }) (clock+1))):=by
  refine ⟨_,rfl,?_,?_,?_,?_⟩
  · rw [Array.toList_push,lapp_eq]; exact f2_snoc h2 ⟨rfl,hv,rfl⟩
  · intro x hx
    simp only [Array.toList_push,List.mem_append,List.mem_singleton] at hx
    rcases hx with hx | rfl
    · exact Nat.lt_succ_of_lt (h3 x hx)
    · exact Nat.lt_succ_self _
  · simp only [Array.toList_push,List.map_append,List.map_cons,List.map_nil]
    refine List.nodup_append.2 ⟨h4,by simp,?_⟩
    intro a ha b hb
    simp only [List.mem_singleton] at hb
    subst hb
    obtain ⟨x,hx,rfl⟩:=List.mem_map.1 ha
    exact Nat.ne_of_lt (h3 x hx)
  · intro x hx
    rw [lapp_eq,List.mem_append,List.mem_singleton] at hx
    rcases hx with hx | rfl
    · exact h5 x hx
    · exact hk
theorem opS_mapUpdateE {hp:HP} {r c clock:Nat} {l:List (Value × RV × Nat)} (hm:P.underlying mt=some (.map kt et)) (hr:SER P m c (.map kt l clock) (hp r)) {k:Value} (hk:keyOk P kt k=true) {v:RV} {w:Value} (hv:VR m v w) {K:Unit→HP→Prop}
    (h:∀ e,SER P m c (putM k v kt l clock) e→K () (hp.set r e)):opS P (Instr.mapUpdate mt (.map (some r)) k w) hp K:=by
  obtain ⟨es,h1,h2,h3,h4,h5⟩:=hr
  have law:=keyOk_law P kt
  intro F w0 ww hf
  have hb:=getObj_of hf h1
  have hfind:=law.find k es.toList ww hk (keys_okE h2 h5)
  have hchk:=law.chk false k ww hk
  have hst:=law.stays k ww hk
  cases hp':putK k v l with
  | none=>
    rw [putK_none hk 0 h2 hp'] at hfind
    refine ⟨(),_,_,?_,hf.setObj h1 (o':=.map (es.push { key:=k,val:=w,born:=clock }) (clock+1)),h _ ?_⟩
    · simp only [Instr.mapUpdate,Sem.run_bind,run_underlying hm,Result.andThen_ok,MapKept.run_getObj_map hb,hchk,hfind]
      exact MapKept.run_setObj_map _ hb
    · unfold putM
      rw [hp']
      exact SER_push h2 h3 h4 h5 hk hv
  | some r'=>
    obtain ⟨n,e,x,a1,a2,a3,a4,a5⟩:=putK_some hk hv h2 hp'
    rw [a1,Nat.zero_add] at hfind
    have hn':es[n]?=some e:=by rw [← Array.getElem?_toList]; exact a2
    have hkey:((es[n]?).map (·.key)).getD k=k:=by rw [hn']; simpa using a3
    refine ⟨(),_,_,?_,hf.setObj h1 (o':=.map (es.modify n fun e:MapEntry=>{ e with key:=k,val:=w }) clock),h _ ?_⟩
    · simp only [Instr.mapUpdate,Sem.run_bind,run_underlying hm,Result.andThen_ok,MapKept.run_getObj_map hb,hchk,hfind,hkey,hst]
      exact MapKept.run_setObj_map _ hb
    · unfold putM
      rw [hp']
      refine ⟨_,rfl,?_,?_,?_,?_⟩
      · rw [Array.toList_modify]; exact a4
      · rw [Array.toList_modify]; exact born_lt_modify (fun _=>rfl) h3
      · rw [Array.toList_modify]; exact (born_modify (f:=fun e:MapEntry=>{ e with key:=k,val:=w }) (fun _=>rfl)).symm▸h4
      · intro y hy
        rcases a5 y hy with e | hy
        · rw [e]; exact hk
        · exact h5 y hy
theorem delK_some {k:Value} (hk:keyOk P kt k=true):∀ {l:List (Value × RV × Nat)} {es:List MapEntry},F2 (MER m) l es →
    (∃ n x,(∀ i,findE k es i=some (i+n,x))∧n<es.length∧F2 (MER m) (delK k l) (es.eraseIdx n))∨((∀ i,findE k es i=none)∧delK k l=l)
  | [],es,h=>by cases h; exact .inr ⟨fun _=>rfl,rfl⟩
  | (x,u,c)::l,es,h=>by
    cases h with
    | cons h1 h2=>
      rename_i e es
      cases hx:keyEq k x with
      | true=>
        have:=(keyEq_iff hk).1 hx
        subst this
        refine .inl ⟨0,e.val,fun i=>?_,by simp,?_⟩
        · unfold findE
          rw [if_pos h1.1.symm]; rfl
        · simp only [delK,hx,List.eraseIdx_zero,List.tail_cons]; exact h2
      | false=>
        have hne:¬ k=e.key:=fun ek=>by
          rw [h1.1] at ek
          rw [(keyEq_iff hk).2 ek] at hx; cases hx
        rcases delK_some hk h2 with ⟨n,y,a1,a2,a3⟩ | ⟨a1,a2⟩
        · refine .inl ⟨n+1,y,fun i=>?_,by simpa using a2,?_⟩
          · unfold findE
            rw [if_neg hne,a1,Nat.add_assoc,Nat.add_comm 1 n]
          · simp only [delK,hx,List.eraseIdx_cons_succ]; exact .cons h1 a3
        · refine .inr ⟨fun i=>?_,?_⟩
          · unfold findE
            rw [if_neg hne,a1]
          · simp only [delK,hx,a2]
theorem mem_delK {k:Value}:∀ {l:List (Value × RV × Nat)} {y:Value × RV × Nat},y∈delK k l→y∈l
  | [],y,h=>h
  | (x,u)::l,y,h=>by
    simp only [delK] at h
    split at h
    · simp [h]
    · rcases List.mem_cons.1 h with rfl | h
      · simp
      · simp [mem_delK h]
theorem opS_deleteE {hp:HP} {r c clock:Nat} {dt ty:TypeId} {l:List (Value × RV × Nat)} (hm:P.underlying mt=some (.map kt et)) (hr:SER P m c (.map kt l clock) (hp r)) {k:Value} (hk:keyOk P kt k=true) {K:Value→HP→Prop}
    (h:∀ e,SER P m c (.map kt (delK k l) clock) e→K (.tuple #[]) (hp.set r e)):opS P (Builtin.delete_ #[mt,dt] ty ⟨[.map (some r),k]⟩) hp K:=by
  obtain ⟨es,h1,h2,h3,h4,h5⟩:=hr
  have law:=keyOk_law P kt
  intro F w0 ww hf
  have hb:=getObj_of hf h1
  have hfind:=law.find k es.toList ww hk (keys_okE h2 h5)
  have hchk:=law.chk es.isEmpty k ww hk
  rcases delK_some hk h2 with ⟨n,x,a1,a2,a3⟩ | ⟨a1,a2⟩
  · rw [a1,Nat.zero_add] at hfind
    have hel:(es.eraseIdxIfInBounds n).toList=es.toList.eraseIdx n:=by
      have:n<es.size:=by simpa using a2
      simp [Array.eraseIdxIfInBounds,this]
    refine ⟨.tuple #[],_,_,?_,hf.setObj h1 (o':=.map (es.eraseIdxIfInBounds n) clock),h _ ⟨_,rfl,?_,?_,?_,?_⟩⟩
    · simp [Builtin.delete_,run_underlying hm,MapKept.run_getObj_map hb,hchk,hfind,MapKept.run_setObj_map _ hb]
    · rw [hel]; exact a3
    · intro x hx
      rw [hel] at hx
      exact h3 x (List.mem_of_mem_eraseIdx hx)
    · rw [hel]
      exact h4.sublist ((List.eraseIdx_sublist ..).map _)
    · intro y hy; exact h5 y (mem_delK hy)
  · rw [a1] at hfind
    refine ⟨.tuple #[],_,_,?_,hf.setObj h1 (o':=.map es clock),h _ ⟨_,rfl,?_,h3,h4,?_⟩⟩
    · simp [Builtin.delete_,run_underlying hm,MapKept.run_getObj_map hb,hchk,hfind,MapKept.run_setObj_map _ hb]
    · rw [a2]; exact h2
    · rw [a2]; exact h5
theorem opS_mapEntryE {hp:HP} {r c clock:Nat} {l:List (Value × RV × Nat)} (hm:P.underlying mt=some (.map kt et)) (hr:SER P m c (.map kt l clock) (hp r)) {k:Value} (hk:keyOk P kt k=true) {z:Value} (hz:∀ w,(zeroValue et).run P w=.ok z w) {K:Value→HP→Prop}
    (h:match findK k l with
      | some (v,b)=>∀ w,VR m v w→K (.tuple #[w,.int .i64 (b:Nat)]) hp
      | none=>∀ e,SER P m c (.map kt (lapp l [(k,.v z,clock)]) (clock+1)) e→K (.tuple #[z,.int .i64 (clock:Nat)]) (hp.set r e)):opS P (Instr.mapEntry mt (.map (some r)) k) hp K:=by
  obtain ⟨es,h1,h2,h3,h4,h5⟩:=hr
  have law:=keyOk_law P kt
  intro F w0 ww hf
  have hb:=getObj_of hf h1
  have hfind:=law.find k es.toList ww hk (keys_okE h2 h5)
  have hchk:=law.chk false k ww hk
  have hst:=law.stays k ww hk
  cases hfk:findK k l with
  | some q=>
    obtain ⟨v,b⟩:=q
    rw [hfk] at h
    obtain ⟨n,e,a1,a2,a3,a4,a5⟩:=find_some hk 0 h2 hfk
    rw [a1,Nat.zero_add] at hfind
    have hn':es[n]?=some e:=by rw [← Array.getElem?_toList]; exact a2
    have hkey:((es[n]?).map (·.key)).getD k=k:=by rw [hn']; simpa using a3
    have hborn:((es[n]?).map (fun x:MapEntry=>((x.born:Nat):Int))).getD 0=(e.born:Nat):=by rw [hn']; rfl
    have hsame:(es.modify n fun e:MapEntry=>{ e with key:=k })=es:=by
      apply Array.ext'
      rw [Array.toList_modify]
      apply List.ext_getElem?; intro i
      simp only [List.getElem?_modify]
      by_cases hi:n=i
      · subst hi; rw [a2]; simp [← a3]
      · simp [hi]
    have hk':=h e.val a4
    rw [← a5] at hk'
    have hfit:=hf.setObj h1 (o':=.map es clock)
    rw [HP.set_self hp r _ h1] at hfit
    refine ⟨.tuple #[e.val,.int .i64 ((e.born:Nat):Int)],_,_,?_,hfit,hk'⟩
    simp only [Instr.mapEntry,Sem.run_bind,run_underlying hm,Result.andThen_ok,MapKept.run_getObj_map hb,hchk,hfind,hkey,hst,hsame,MapKept.run_setObj_map _ hb,Sem.run_pure,hborn,goInt]
  | none=>
    rw [hfk] at h
    rw [find_none hk 0 h2 hfk] at hfind
    refine ⟨.tuple #[z,.int .i64 (clock:Nat)],_,_,?_,hf.setObj h1 (o':=.map (es.push { key:=k,val:=z,born:=clock }) (clock+1)),h _ (SER_push h2 h3 h4 h5 hk (VR.rfl' _))⟩
    simp only [Instr.mapEntry,Sem.run_bind,run_underlying hm,Result.andThen_ok,MapKept.run_getObj_map hb,hchk,hfind,hz,MapKept.run_setObj_map _ hb,Sem.run_pure,goInt]
theorem stampK_some {b:Nat} {v:RV} {w:Value} (hv:VR m v w):∀ {l r:List (Value × RV × Nat)} {es:List MapEntry},F2 (MER m) l es→stampK b v l=some r →
    ∃ n e,es[n]?=some e∧e.born=b∧F2 (MER m) r (es.modify n fun e:MapEntry=>{ e with val:=w })∧∀ y∈r,∃ y'∈l,y'.1=y.1
  | [],r,es,h,hf=>by cases hf
  | (x,u,c)::l,r,es,h,hf=>by
    cases h with
    | cons h1 h2=>
      rename_i e es
      simp only [stampK] at hf
      split at hf
      · rename_i hx
        cases hf
        have:=Nat.eq_of_beq_eq_true hx
        subst this
        refine ⟨0,e,rfl,h1.2.2,?_,fun y hy=>?_⟩
        · rw [List.modify_zero_cons]
          exact .cons ⟨h1.1,hv,h1.2.2⟩ h2
        · rcases List.mem_cons.1 hy with rfl | hy
          · exact ⟨(x,u,c),by simp,rfl⟩
          · exact ⟨y,by simp [hy],rfl⟩
      · rw [Option.bind_eq_some_iff] at hf
        obtain ⟨r',hf,e'⟩:=hf
        cases e'
        obtain ⟨n,e1,a1,a2,a3,a4⟩:=stampK_some hv h2 hf
        refine ⟨n+1,e1,by simpa using a1,a2,?_,fun y hy=>?_⟩
        · rw [List.modify_succ_cons]
          exact .cons h1 a3
        · rcases List.mem_cons.1 hy with rfl | hy
          · exact ⟨(x,u,c),by simp,rfl⟩
          · obtain ⟨y',h',e⟩:=a4 y hy
            exact ⟨y',by simp [h'],e⟩
theorem opS_entryStoreE {hp:HP} {r c clock b:Nat} {ik:IntKind} {l l':List (Value × RV × Nat)} (hr:SER P m c (.map kt l clock) (hp r)) {v:RV} {w:Value} (hv:VR m v w) (hs:stampK b v l=some l') {K:Unit→HP→Prop}
    (h:∀ e,SER P m c (.map kt l' clock) e→K () (hp.set r e)):opS P (Instr.entryStore mt (.map (some r)) (.int ik (b:Nat)) w) hp K:=by
  obtain ⟨es,h1,h2,h3,h4,h5⟩:=hr
  intro F w0 ww hf
  have hb:=getObj_of hf h1
  obtain ⟨n,e,a1,a2,a3,a4⟩:=stampK_some hv h2 hs
  subst a2
  have hidx:es.findIdx? (fun x=>((x.born:Nat):Int)==((e.born:Nat):Int))=some n:=by
    rw [WideElems.findIdx_arr]; exact WideElems.findIdx_born h4 a1
  refine ⟨(),_,_,?_,hf.setObj h1 (o':=.map (es.modify n fun e:MapEntry=>{ e with val:=w }) clock),h _ ⟨_,rfl,?_,?_,?_,?_⟩⟩
  · have ha:(asInt (.int ik ((e.born:Nat):Int))).run P ww=.ok ((e.born:Nat):Int) ww:=rfl
    simp only [Instr.entryStore,Sem.run_bind,MapKept.run_getObj_map hb,Result.andThen_ok,ha,hidx]
    exact MapKept.run_setObj_map _ hb
  · rw [Array.toList_modify]; exact a3
  · rw [Array.toList_modify]; exact born_lt_modify (fun _=>rfl) h3
  · rw [Array.toList_modify]; exact (born_modify (f:=fun e:MapEntry=>{ e with val:=w }) (fun _=>rfl)).symm▸h4
  · intro y hy
    obtain ⟨y',h',e⟩:=a4 y hy
    rw [← e]; exact h5 y' h'
end
end Go.HL
