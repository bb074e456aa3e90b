/- The heaplet logic in use, part 3: keys of maps; a map as a list of pairs; what its operations do. -/
import Derived.Test.YtpkhoemonibajaaGreatDoorHlEq
import Derived.Maps.RangeRun
set_option linter.unusedVariables false
set_option linter.unusedSimpArgs false
namespace Go.HL
open Go
section
variable {P:Program}
def CheckS (P:Program) (em:Bool) (dd:Nat) (e:TypeId):Prop:=∀ (w:World) (D:Nat) (a:List Value),shaped P D e a=true→(Instr.checkKey em dd e (wrapD P e a)).run P w=.ok () w
theorem run_checkKey_shaped (em:Bool) (d:Nat):∀ (m:Nat) (t:TypeId),P.keyTypeAt m t=true→CheckS P em (d+m) t
  | 0,_,h=>by simp [Program.keyTypeAt] at h
  | m+1,t,hk=>by
    intro w D xs hx
    unfold Program.keyTypeAt at hk
    cases D with
    | zero=>cases hx
    | succ D=>
    unfold shaped at hx
    rw [show d+(m+1)=(d+m)+1 from rfl,Instr.checkKey]
    cases hu:P.underlying t with
    | none=>simp [hu] at hk
    | some kd=>
      cases kd <;> simp only [hu,Bool.false_eq_true] at hk hx
      case bool=>simp [run_underlying hu]
      case int q=>simp [run_underlying hu]
      case string=>simp [run_underlying hu]
      case array n e=>
        simp only [Bool.and_eq_true,decide_eq_true_eq,List.all_eq_true] at hx
        have hpe:∃ i,P.info? e=some i:=by
          cases m with
          | zero=>simp [Program.keyTypeAt] at hk
          | succ m'=>
            unfold Program.keyTypeAt at hk
            cases hue:P.underlying e with
            | none=>simp [hue] at hk
            | some _=>exact info_of_underlying hue
        obtain ⟨i,hi⟩:=hpe
        have IH:=run_checkKey_shaped em d m e hk
        simp only [wrapD,hu]
        simp only [Sem.run_bind,run_underlying hu,Result.andThen_ok]
        simp only [Std.Legacy.Range.forIn_eq_forIn_range',Std.Legacy.Range.size,Nat.sub_zero,Nat.add_one_sub_one,Nat.div_one]
        have each:=hx.2
        rw [List.range_eq_range'] at each
        clear hx
        generalize List.range' 0 n=is at each
        induction is with
        | nil=>simp
        | cons j is ih=>
          have p1:=run_part_shaped w (each j (by simp))
          have p2:=IH w D _ (each j (by simp))
          simp only [List.forIn_cons,Sem.run_bind,run_sizeOf w hi,Result.andThen_ok,p1,p2,Sem.run_pure]
          exact ih (fun y hy=>each y (by simp [hy]))
      case struct fs=>
        simp only [Bool.and_eq_true,decide_eq_true_eq,List.all_eq_true,Bool.not_eq_true'] at hx hk
        simp only [wrapD,hu]
        simp only [Sem.run_bind,run_underlying hu,Result.andThen_ok]
        rw [← Array.forIn_toList]
        have each:=hx.2
        have deep : ∀ f ∈ fs.toList, f.name ≠ "_" ∧ CheckS P em (d + m) f.type := fun f hf => by
          have:=Array.all_eq_true_iff_forall_mem.1 hk.1.1 f (Array.mem_toList_iff.1 hf)
          simp only [Bool.and_eq_true,bne_iff_ne,ne_eq] at this
          exact ⟨this.1,run_checkKey_shaped em d m f.type this.2⟩
        clear hx
        generalize fs.toList=L at each deep
        induction L with
        | nil=>simp
        | cons f L ih=>
          obtain ⟨hn,hp⟩:=deep f (by simp)
          have p1:=run_part_shaped w (each f (by simp))
          have p2:=hp w D _ (each f (by simp))
          simp only [List.forIn_cons,Sem.run_bind,hn,ne_eq,not_false_eq_true,if_true,Result.andThen_ok,p1,p2,Sem.run_pure]
          exact ih (fun y hy=>each y (by simp [hy])) (fun y hy=>deep y (by simp [hy]))
open Classical in
/-- Where a key is. -/
noncomputable def findE (k:Value):List MapEntry→Nat→Option (Nat × Value)
  | [],_=>none
  | e::es,i=>if k=e.key then some (i,e.val) else findE k es (i+1)
/-- What the operations on a map ask of its keys. -/
structure KeyLaw (P:Program) (kt:TypeId) (ok:Value→Prop):Prop where
  chk:∀ em k w,ok k→(Instr.checkKey em 10000 kt k).run P w=.ok () w
  find:∀ k (es:List MapEntry) w,ok k→(∀ e∈es,ok e.key)→(Instr.findKey kt k es).run P w=.ok (findE k es 0) w
  stays:∀ k w,ok k→(Instr.keyThatStays k k).run P w=.ok k w
/-- Keys of one cell. -/
theorem KeyLaw.flat {kt:TypeId} {d:TypeDesc} (hd:P.underlying kt=some d):KeyLaw P kt (MapKept.IsKey d) where
  chk em k w hk:=MapKept.run_checkKey hd hk em 9999
  find k es w hk he:=by
    have:∀ (es:List MapEntry) (i:Nat),(∀ e∈es,MapKept.IsKey d e.key)→Instr.findNow d k es i=some (findE k es i):=by
      intro es
      induction es with
      | nil=>intro i _; rfl
      | cons e es ih=>
        intro i he
        obtain ⟨r,hr,hiff⟩:=MapKept.sameNow_of_keys hk (he e (by simp))
        simp only [Instr.findNow,hr,findE]
        cases r
        · have hne:¬ k=e.key:=fun h=>by have:=hiff.2 h; cases this
          simp only [hne,if_false]
          exact ih (i+1) fun y hy=>he y (by simp [hy])
        · simp only [hiff.1 rfl,if_true]
    exact MapKept.run_findKey hd (this es 0 he)
  stays k w hk:=MapKept.run_keyThatStays hk
def leafB:Value→Bool
  | .bool _ | .int _ _ | .string _=>true
  | _=>false
def WideKey (P:Program) (D:Nat) (kt:TypeId) (k:Value):Prop:=∃ cs,k=.agg ⟨cs⟩∧shaped P D kt cs=true∧cs.all leafB=true
theorem sameBits_leaf {v:Value} (h:leafB v=true) (n:Nat):Instr.sameBits n v v=true:=by
  cases v <;> first | (cases h; done) | (cases n <;> simp [Instr.sameBits]; done) | skip
  cases n <;> simp [Instr.sameBits,(MapKept.bytes_beq _ _).2]
/-- Keys that are structs or arrays. -/
theorem KeyLaw.wide {kt:TypeId} {m D:Nat} (hm:(decide (m≤10000)&&P.keyTypeAt m kt&&P.tiled m kt&&(match P.underlying kt with | some (.array _ _) | some (.struct _)=>true | _=>false))=true):KeyLaw P kt (WideKey P D kt):=by
  simp only [Bool.and_eq_true,decide_eq_true_eq] at hm
  have hwr:∀ cs,wrapD P kt cs=.agg ⟨cs⟩:=by
    intro cs
    have h4:=hm.2
    unfold wrapD
    split at h4 <;> simp_all
  refine ⟨?_,?_,?_⟩
  · rintro em k w ⟨cs,rfl,hs,_⟩
    have:=run_checkKey_shaped em (10000-m) m kt hm.1.1.2 w D cs hs
    rw [Nat.sub_add_cancel hm.1.1.1,hwr] at this
    exact this
  · rintro k es w ⟨cs,rfl,hs,_⟩ he
    have heq:∀ e∈es,∃ r,(Op.equal kt (.agg ⟨cs⟩) e.key).run P w=.ok r w∧(r=true↔.agg ⟨cs⟩=e.key):=by
      intro e hm'
      obtain ⟨cs',hk',hs',_⟩:=he e hm'
      obtain ⟨r,hr,hiff⟩:=run_equalIn_shaped (10000-m) m kt hm.1.1.2 hm.1.2 w D D cs cs' hs hs'
      rw [Nat.sub_add_cancel hm.1.1.1,hwr,hwr] at hr
      rw [hk']
      exact ⟨r,hr,by rw [hiff]; constructor <;> intro h <;> simpa using h⟩
    have ask:∀ (es:List MapEntry) (i:Nat),(∀ e∈es,∃ r,(Op.equal kt (.agg ⟨cs⟩) e.key).run P w=.ok r w∧(r=true↔.agg ⟨cs⟩=e.key)) →
        (Instr.findAsking kt (.agg ⟨cs⟩) es i).run P w=.ok (findE (.agg ⟨cs⟩) es i) w:=by
      intro es
      induction es with
      | nil=>intro i _; simp [Instr.findAsking,findE]
      | cons e es ih=>
        intro i h
        obtain ⟨r,hr,hiff⟩:=h e (by simp)
        simp only [Instr.findAsking,Sem.run_bind,hr,Result.andThen_ok,findE]
        cases r
        · have hne:¬ .agg ⟨cs⟩=e.key:=fun h=>by have:=hiff.2 h; cases this
          simp only [hne,if_false,Bool.false_eq_true]
          exact ih (i+1) fun y hy=>h y (by simp [hy])
        · simp only [hiff.1 rfl,if_true,Sem.run_pure]
    cases hu:P.underlying kt with
    | none=>have:=hm.2; rw [hu] at this; cases this
    | some d=>
      unfold Instr.findKey
      simp only [Sem.run_bind,run_underlying hu,Result.andThen_ok]
      cases es with
      | nil=>simp [Instr.findNow,findE]
      | cons e es=>
        obtain ⟨cs',hk',_,_⟩:=he e (by simp)
        have hn:Instr.findNow d (.agg ⟨cs⟩) (e::es) 0=none:=by
          simp only [Instr.findNow,hk']
          cases d <;> rfl
        simp only [hn]
        exact ask (e::es) 0 heq
  · rintro k w ⟨cs,rfl,_,hl⟩
    have:Instr.sameBits 10000 (.agg ⟨cs⟩) (.agg ⟨cs⟩)=true:=by
      show Instr.sameBits (9999+1) _ _=true
      simp only [Instr.sameBits,beq_self_eq_true,Bool.true_and,List.all_eq_true]
      rintro ⟨a,b⟩ hab
      have zd:∀ cs:List Value,(a,b)∈cs.zip cs→a=b∧a∈cs:=by
        intro cs
        induction cs with
        | nil=>intro hab; simp at hab
        | cons c cs ih=>
          intro hab
          simp only [List.zip_cons_cons,List.mem_cons,Prod.mk.injEq] at hab
          rcases hab with ⟨rfl,rfl⟩ | h
          · exact ⟨rfl,by simp⟩
          · have:=ih h
            exact ⟨this.1,by simp [this.2]⟩
      have this:=zd cs hab
      rw [← this.1]
      exact sameBits_leaf (List.all_eq_true.1 hl a this.2) _
    simp [Instr.keyThatStays,this]
end
/-! A map as a list of pairs. -/
section
variable {κ ν:Type}
/-- The object of a map: what it holds, in the order in which it came. -/
def MapE (ek:κ→Value) (ev:ν→Value) (l:List (κ × ν)) (e:Ent):Prop:=
  ∃ es clock,e=.obj (.map es clock)∧es.toList.map (fun e:MapEntry=>(e.key,e.val))=l.map (fun p=>(ek p.1,ev p.2)) ∧
    (∀ x∈es.toList,x.born<clock)∧(es.toList.map (·.born)).Nodup
def getL [DecidableEq κ] (k:κ):List (κ × ν)→Option ν
  | []=>none
  | p::l=>if k=p.1 then some p.2 else getL k l
def putL [DecidableEq κ] (k:κ) (v:ν):List (κ × ν)→List (κ × ν)
  | []=>[(k,v)]
  | p::l=>if k=p.1 then (k,v)::l else p::putL k v l
def delL [DecidableEq κ] (k:κ):List (κ × ν)→List (κ × ν)
  | []=>[]
  | p::l=>if k=p.1 then l else p::delL k l
theorem MapE.empty (ek:κ→Value) (ev:ν→Value):MapE ek ev [] (.obj (.map #[] 0)):=⟨#[],0,rfl,rfl,by simp,by simp⟩
theorem KeyLaw.weaken {P:Program} {kt:TypeId} {ok ok':Value→Prop} (h:KeyLaw P kt ok) (hk:∀ v,ok' v→ok v):KeyLaw P kt ok':=
  ⟨fun em k w h'=>h.chk em k w (hk _ h'),fun k es w h' he=>h.find k es w (hk _ h') fun e hm=>hk _ (he e hm),fun k w h'=>h.stays k w (hk _ h')⟩
/-- Encodings of keys. -/
structure EncK (P:Program) (kt:TypeId) (ek:κ→Value):Prop where
  inj:∀ a b,ek a=ek b→a=b
  law:KeyLaw P kt fun v=>∃ k,v=ek k
section
variable {P:Program} {hp:HP} {mt kt et:TypeId} {ek:κ→Value} {ev:ν→Value} {r:Nat} {l:List (κ × ν)}
theorem findE_get [DecidableEq κ] (hinj:∀ a b,ek a=ek b→a=b) (k:κ):∀ (es:List MapEntry) (l:List (κ × ν)) (i:Nat),es.map (fun e:MapEntry=>(e.key,e.val))=l.map (fun p=>(ek p.1,ev p.2)) →
    (findE (ek k) es i).map (·.2)=(getL k l).map ev
  | [],[],_,_=>rfl
  | [],_::_,_,h=>by cases h
  | _::_,[],_,h=>by cases h
  | e::es,p::l,i,h=>by
    simp only [List.map_cons,List.cons.injEq,Prod.mk.injEq] at h
    obtain ⟨⟨h1,h2⟩,h3⟩:=h
    unfold findE getL
    rw [h1,h2]
    by_cases hk:k=p.1
    · simp [hk]
    · have:¬ ek k=ek p.1:=fun e=>hk (hinj _ _ e)
      simp only [this,hk,if_false]
      exact findE_get hinj k es l (i+1) h3
theorem keys_ok {es:Array MapEntry} (h:es.toList.map (fun e:MapEntry=>(e.key,e.val))=l.map (fun p=>(ek p.1,ev p.2))):∀ e∈es.toList,∃ k,e.key=ek k:=by
  intro e he
  have:(e.key,e.val)∈l.map (fun p=>(ek p.1,ev p.2)):=h▸List.mem_map.2 ⟨e,he,rfl⟩
  obtain ⟨p,_,hp⟩:=List.mem_map.1 this
  simp only [Prod.mk.injEq] at hp
  exact ⟨p.1,hp.1.symm⟩
theorem getObj_of {F w0 w} {o:Obj} (hf:Fits F w0 hp w) (h:hp r=.obj o):w.heap[r]?=some o:=by
  have:=hf.ent r
  rw [h] at this
  exact this
theorem rdS_lookup [DecidableEq κ] (hm:P.underlying mt=some (.map kt et)) (hk:EncK P kt ek) {z:Value} (hz:∀ w,(zeroValue et).run P w=.ok z w) (hr:MapE ek ev l (hp r)) (k:κ) {cm:Bool} {c:Value→Prop}
    (h:c (if cm then .tuple ⟨[((getL k l).map ev).getD z,.bool (getL k l).isSome]⟩ else ((getL k l).map ev).getD z)):rdS P (Instr.lookup mt (.map (some r)) (ek k) cm) hp c:=by
  obtain ⟨es,clock,he,hes,_,_⟩:=hr
  refine ⟨_,fun F w0 w hf=>?_,h⟩
  have hb:=getObj_of hf he
  have hfind:=hk.law.find (ek k) es.toList w ⟨k,rfl⟩ (keys_ok hes)
  have hget:=findE_get hk.inj k es.toList l 0 hes
  have hchk:=hk.law.chk es.isEmpty (ek k) w ⟨k,rfl⟩
  simp only [Instr.lookup,Sem.run_bind,run_underlying hm,Result.andThen_ok,MapKept.run_getObj_map hb,Sem.run_pure,hchk,hfind]
  cases hf2:findE (ek k) es.toList 0 with
  | none=>
    rw [hf2] at hget
    cases hg:getL k l with
    | none=>cases cm <;> simp [hz]
    | some v=>rw [hg] at hget; cases hget
  | some q=>
    rw [hf2] at hget
    cases hg:getL k l with
    | none=>rw [hg] at hget; cases hget
    | some v=>
      rw [hg] at hget
      simp only [Option.map_some,Option.some.injEq] at hget
      cases cm <;> simp [hget]
theorem Fits.setObj {F w0 w} {o o':Obj} (hf:Fits F w0 hp w) (h:hp r=.obj o):Fits F w0 (hp.set r (.obj o')) { w with heap:=w.heap.setIfInBounds r o' } where
  ent x:=by
    have hlt:r<w.heap.size:=Ent.ok_lt (h▸hf.ent r) (by simp)
    by_cases hx:x=r
    · subst hx
      rw [HP.set_eq]
      show _=_
      simp [hlt]
    · rw [HP.set_ne _ _ hx]
      have:=hf.ent x
      rw [show ({ w with heap:=w.heap.setIfInBounds r o' }:World).heap[x]?=w.heap[x]? by simp only [Array.getElem?_setIfInBounds,if_neg (fun e:r=x=>hx (Eq.symm e))]]
      exact this
  fr x hx:=by
    have:=hf.fr x hx
    have hne:x≠r:=fun e=>by rw [e,h] at this; cases this.1
    rw [HP.set_ne _ _ hne]
    refine ⟨this.1,by simpa using this.2.1,?_⟩
    rw [← this.2.2]
    simp only [Array.getElem?_setIfInBounds,if_neg (fun e:r=x=>hne (Eq.symm e))]
  os:=hf.os
  tape:=hf.tape
  output:=hf.output
  size:=by simpa using hf.size
theorem findE_idx (k:Value):∀ (es:List MapEntry) (i j:Nat) (v:Value),findE k es i=some (j,v)→∃ n e,j=i+n∧es[n]?=some e∧e.key=k∧(∀ m,m<n→∀ e',es[m]?=some e'→e'.key≠k)
  | [],_,_,_,h=>by cases h
  | e::es,i,j,v,h=>by
    unfold findE at h
    split at h
    · rename_i hk
      cases h
      exact ⟨0,e,rfl,rfl,hk.symm,fun m hm=>absurd hm (Nat.not_lt_zero m)⟩
    · rename_i hk
      obtain ⟨n,e',h1,h2,h3,h4⟩:=findE_idx k es (i+1) j v h
      refine ⟨n+1,e',by omega,by simpa using h2,h3,fun m hm e'' he''=>?_⟩
      cases m with
      | zero=>simp only [List.getElem?_cons_zero,Option.some.injEq] at he''; subst he''; exact fun h=>hk h.symm
      | succ m=>exact h4 m (by omega) e'' (by simpa using he'')
theorem put_modify [DecidableEq κ] (hinj:∀ a b,ek a=ek b→a=b) (k:κ) (v:ν):∀ (es:List MapEntry) (l:List (κ × ν)) (n:Nat) (e:MapEntry),es.map (fun e:MapEntry=>(e.key,e.val))=l.map (fun p=>(ek p.1,ev p.2)) →
    es[n]?=some e→e.key=ek k→(∀ m,m<n→∀ e',es[m]?=some e'→e'.key≠ek k) →
    (es.modify n fun e:MapEntry=>{ e with key:=ek k,val:=ev v }).map (fun e:MapEntry=>(e.key,e.val))=(putL k v l).map (fun p=>(ek p.1,ev p.2))
  | [],_,_,_,_,h,_,_=>by simp at h
  | _::_,[],_,_,h,_,_,_=>by cases h
  | e::es,p::l,n,e0,h,hn,hk,hm=>by
    simp only [List.map_cons,List.cons.injEq,Prod.mk.injEq] at h
    obtain ⟨⟨h1,h2⟩,h3⟩:=h
    cases n with
    | zero=>
      simp only [List.getElem?_cons_zero,Option.some.injEq] at hn
      subst hn
      have:k=p.1:=hinj _ _ (by rw [← hk,h1])
      simp [putL,this,h3]
    | succ n=>
      have hne:¬ k=p.1:=fun e'=>hm 0 (by omega) e (by simp) (by rw [h1,e'])
      have:=put_modify hinj k v es l n e0 h3 (by simpa using hn) hk (fun m hmn e' he'=>hm (m+1) (by omega) e' (by simpa using he'))
      simp only [List.modify_succ_cons,List.map_cons,putL,hne,if_false,h1,h2,this]
theorem put_push [DecidableEq κ] (hinj:∀ a b,ek a=ek b→a=b) (k:κ) (v:ν) (b:Nat):∀ (es:List MapEntry) (l:List (κ × ν)) (i:Nat),es.map (fun e:MapEntry=>(e.key,e.val))=l.map (fun p=>(ek p.1,ev p.2)) →
    findE (ek k) es i=none→(es++[({ key:=ek k,val:=ev v,born:=b }:MapEntry)]).map (fun e:MapEntry=>(e.key,e.val))=(putL k v l).map (fun p=>(ek p.1,ev p.2))
  | [],[],_,_,_=>by simp [putL]
  | [],_::_,_,h,_=>by cases h
  | _::_,[],_,h,_=>by cases h
  | e::es,p::l,i,h,hf=>by
    simp only [List.map_cons,List.cons.injEq,Prod.mk.injEq] at h
    obtain ⟨⟨h1,h2⟩,h3⟩:=h
    unfold findE at hf
    split at hf
    · cases hf
    · rename_i hne
      have hne':¬ k=p.1:=fun e'=>hne (by rw [h1,e'])
      have:=put_push hinj k v b es l (i+1) h3 hf
      simp only [List.cons_append,List.map_cons,putL,hne',if_false,h1,h2,this]
theorem opS_mapUpdate [DecidableEq κ] (hm:P.underlying mt=some (.map kt et)) (hk:EncK P kt ek) (hr:MapE ek ev l (hp r)) (k:κ) (v:ν) {K:Unit→HP→Prop}
    (h:∀ e,MapE ek ev (putL k v l) e→K () (hp.set r e)):opS P (Instr.mapUpdate mt (.map (some r)) (ek k) (ev v)) hp K:=by
  obtain ⟨es,clock,he,hes,hb1,hb2⟩:=hr
  intro F w0 w hf
  have hb:=getObj_of hf he
  have hfind:=hk.law.find (ek k) es.toList w ⟨k,rfl⟩ (keys_ok hes)
  have hchk:=hk.law.chk false (ek k) w ⟨k,rfl⟩
  have hst:=hk.law.stays (ek k) w ⟨k,rfl⟩
  cases hf2:findE (ek k) es.toList 0 with
  | none=>
    rw [hf2] at hfind
    refine ⟨(),_,_,?_,hf.setObj he (o':=.map (es.push { key:=ek k,val:=ev v,born:=clock }) (clock+1)),h _ ⟨_,_,rfl,?_,?_,?_⟩⟩
    · simp only [Instr.mapUpdate,Sem.run_bind,run_underlying hm,Result.andThen_ok,MapKept.run_getObj_map hb,hchk,hfind]
      exact MapKept.run_setObj_map _ hb
    · rw [Array.toList_push]; exact put_push hk.inj k v clock es.toList l 0 hes hf2
    · intro x hx
      simp only [Array.toList_push,List.mem_append,List.mem_singleton] at hx
      rcases hx with hx | rfl
      · exact Nat.lt_succ_of_lt (hb1 x hx)
      · exact Nat.lt_succ_self _
    · simp only [Array.toList_push,List.map_append,List.map_cons,List.map_nil]
      refine List.nodup_append.2 ⟨hb2,by simp,?_⟩
      intro a ha b hb
      simp only [List.mem_singleton] at hb
      subst hb
      obtain ⟨x,hx,rfl⟩:=List.mem_map.1 ha
      exact Nat.ne_of_lt (hb1 x hx)
  | some q=>
    obtain ⟨j,v0⟩:=q
    rw [hf2] at hfind
    obtain ⟨n,e,rfl,hn,hke,hfst⟩:=findE_idx _ _ _ _ _ hf2
    rw [Nat.zero_add] at hfind
    have hn':es[n]?=some e:=by rw [← Array.getElem?_toList]; exact hn
    have hkey:((es[n]?).map (·.key)).getD (ek k)=ek k:=by rw [hn']; simpa using hke
    refine ⟨(),_,_,?_,hf.setObj he (o':=.map (es.modify n fun e:MapEntry=>{ e with key:=ek k,val:=ev v }) clock),h _ ⟨_,_,rfl,?_,?_,?_⟩⟩
    · simp only [Instr.mapUpdate,Sem.run_bind,run_underlying hm,Result.andThen_ok,MapKept.run_getObj_map hb,hchk,hfind,hkey,hst]
      exact MapKept.run_setObj_map _ hb
    · rw [Array.toList_modify]; exact put_modify hk.inj k v es.toList l n e hes hn hke hfst
    · intro x hx
      have hbm:(es.toList.modify n fun e:MapEntry=>{ e with key:=ek k,val:=ev v }).map (·.born)=es.toList.map (·.born):=by
        apply List.ext_getElem?; intro i
        simp only [List.getElem?_map,List.getElem?_modify]
        cases es.toList[i]? with
        | none=>rfl
        | some y=>simp only [Option.map_some]; split <;> rfl
      have:x.born∈es.toList.map (·.born):=hbm▸List.mem_map.2 ⟨x,by simpa using hx,rfl⟩
      obtain ⟨y,hy,e⟩:=List.mem_map.1 this
      rw [← e]; exact hb1 y hy
    · have hbm:(es.toList.modify n fun e:MapEntry=>{ e with key:=ek k,val:=ev v }).map (·.born)=es.toList.map (·.born):=by
        apply List.ext_getElem?; intro i
        simp only [List.getElem?_map,List.getElem?_modify]
        cases es.toList[i]? with
        | none=>rfl
        | some y=>simp only [Option.map_some]; split <;> rfl
      rw [Array.toList_modify,hbm]; exact hb2
theorem del_erase [DecidableEq κ] (hinj:∀ a b,ek a=ek b→a=b) (k:κ):∀ (es:List MapEntry) (l:List (κ × ν)) (n:Nat) (e:MapEntry),es.map (fun e:MapEntry=>(e.key,e.val))=l.map (fun p=>(ek p.1,ev p.2)) →
    es[n]?=some e→e.key=ek k→(∀ m,m<n→∀ e',es[m]?=some e'→e'.key≠ek k) →
    (es.eraseIdx n).map (fun e:MapEntry=>(e.key,e.val))=(delL k l).map (fun p=>(ek p.1,ev p.2))
  | [],_,_,_,_,h,_,_=>by simp at h
  | _::_,[],_,_,h,_,_,_=>by cases h
  | e::es,p::l,n,e0,h,hn,hk,hm=>by
    simp only [List.map_cons,List.cons.injEq,Prod.mk.injEq] at h
    obtain ⟨⟨h1,h2⟩,h3⟩:=h
    cases n with
    | zero=>
      simp only [List.getElem?_cons_zero,Option.some.injEq] at hn
      subst hn
      have:k=p.1:=hinj _ _ (by rw [← hk,h1])
      simp [delL,this,h3]
    | succ n=>
      have hne:¬ k=p.1:=fun e'=>hm 0 (by omega) e (by simp) (by rw [h1,e'])
      have:=del_erase hinj k es l n e0 h3 (by simpa using hn) hk (fun m hmn e' he'=>hm (m+1) (by omega) e' (by simpa using he'))
      simp only [List.eraseIdx_cons_succ,List.map_cons,delL,hne,if_false,h1,h2,this]
theorem del_none [DecidableEq κ] (hinj:∀ a b,ek a=ek b→a=b) (k:κ):∀ (es:List MapEntry) (l:List (κ × ν)) (i:Nat),es.map (fun e:MapEntry=>(e.key,e.val))=l.map (fun p=>(ek p.1,ev p.2)) →
    findE (ek k) es i=none→delL k l=l
  | [],[],_,_,_=>rfl
  | [],_::_,_,h,_=>by cases h
  | _::_,[],_,h,_=>by cases h
  | e::es,p::l,i,h,hf=>by
    simp only [List.map_cons,List.cons.injEq,Prod.mk.injEq] at h
    unfold findE at hf
    split at hf
    · cases hf
    · rename_i hne
      have hne':¬ k=p.1:=fun e'=>hne (by rw [h.1.1,e'])
      simp only [delL,hne',if_false,del_none hinj k es l (i+1) h.2 hf]
theorem opS_delete [DecidableEq κ]  {dt ty:TypeId} (hm:P.underlying mt=some (.map kt et)) (hk:EncK P kt ek) (hr:MapE ek ev l (hp r)) (k:κ) {K:Value→HP→Prop}
    (h:∀ e,MapE ek ev (delL k l) e→K (.tuple #[]) (hp.set r e)):opS P (Builtin.delete_ #[mt,dt] ty ⟨[.map (some r),ek k]⟩) hp K:=by
  obtain ⟨es,clock,he,hes,hb1,hb2⟩:=hr
  intro F w0 w hf
  have hb:=getObj_of hf he
  have hfind:=hk.law.find (ek k) es.toList w ⟨k,rfl⟩ (keys_ok hes)
  have hchk:=hk.law.chk es.isEmpty (ek k) w ⟨k,rfl⟩
  cases hf2:findE (ek k) es.toList 0 with
  | none=>
    rw [hf2] at hfind
    refine ⟨.tuple #[],_,_,?_,hf.setObj he (o':=.map es clock),h _ ⟨_,_,rfl,?_,hb1,hb2⟩⟩
    · simp [Builtin.delete_,run_underlying hm,MapKept.run_getObj_map hb,hchk,hfind,MapKept.run_setObj_map _ hb]
    · rw [del_none hk.inj k es.toList l 0 hes hf2]; exact hes
  | some q=>
    obtain ⟨j,v0⟩:=q
    rw [hf2] at hfind
    obtain ⟨n,e,rfl,hn,hke,hfst⟩:=findE_idx _ _ _ _ _ hf2
    rw [Nat.zero_add] at hfind
    have hlt:n<es.size:=by
      rcases Nat.lt_or_ge n es.size with h | h
      · exact h
      · rw [List.getElem?_eq_none (by simpa using h)] at hn; cases hn
    have hel:(es.eraseIdxIfInBounds n).toList=es.toList.eraseIdx n:=by simp [Array.eraseIdxIfInBounds,hlt]
    refine ⟨.tuple #[],_,_,?_,hf.setObj he (o':=.map (es.eraseIdxIfInBounds n) clock),h _ ⟨_,_,rfl,?_,?_,?_⟩⟩
    · simp [Builtin.delete_,run_underlying hm,MapKept.run_getObj_map hb,hchk,hfind,MapKept.run_setObj_map _ hb]
    · rw [hel]; exact del_erase hk.inj k es.toList l n e hes hn hke hfst
    · intro x hx
      rw [hel] at hx
      exact hb1 x (List.mem_of_mem_eraseIdx hx)
    · rw [hel]
      exact hb2.sublist ((List.eraseIdx_sublist ..).map _)
theorem rdS_mapLen {kt' et' ty:TypeId} (hm:P.underlying mt=some (.map kt' et')) (hr:MapE ek ev l (hp r)) {c:Value→Prop} (h:c (.int .i64 l.length)):rdS P (Builtin.len_ #[mt] ty #[.map (some r)]) hp c:=by
  obtain ⟨es,clock,he,hes,hb1,hb2⟩:=hr
  refine ⟨_,fun F w0 w hf=>?_,h⟩
  have hb:=getObj_of hf he
  have hl:es.size=l.length:=by have:=congrArg List.length hes; simpa using this
  simp [Builtin.len_,run_underlying hm,MapKept.run_getObj_map hb,goInt,hl]
end
end
end Go.HL
