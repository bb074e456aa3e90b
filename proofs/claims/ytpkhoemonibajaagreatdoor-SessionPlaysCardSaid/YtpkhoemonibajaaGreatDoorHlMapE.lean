/- The heaplet logic in use, part 11: an entry of a map that is there is stored; what an interface holds. -/
import Derived.Test.YtpkhoemonibajaaGreatDoorHlMapL
import Derived.Test.YtpkhoemonibajaaGreatDoorHlUse2
import Derived.WideKeyEntry
set_option linter.unusedVariables false
set_option linter.unusedSimpArgs false
namespace Go.HL
open Go
section
variable {κ ν:Type} {P:Program} {hp:HP} {mt kt et:TypeId} {ek:κ→Value} {ev:ν→Value} {r:Nat} {l:List (κ × ν)}
theorem opS_entrySet [DecidableEq κ] (hm:P.underlying mt=some (.map kt et)) (hk:EncK P kt ek) (hr:MapE ek ev l (hp r)) (k:κ) (v:ν) (hin:(getL k l).isSome=true) {K:Unit→HP→Prop}
    (h:∀ e,MapE ek ev (putL k v l) e→K () (hp.set r e)) :
    opS P (Instr.mapEntry mt (.map (some r)) (ek k)) hp fun u h1=>tupI u 1 fun x=>intV x .i64 fun i=>opS P (Instr.entryStore mt (.map (some r)) (.int .i64 i) (ev v)) h1 K:=by
  obtain ⟨es,clock,he,hes,hb1,hb2⟩:=hr
  intro F w0 w hf
  have hb:=getObj_of hf he
  have hfind:=hk.law.find (ek k) es.toList w ⟨k,rfl⟩ (keys_ok hes)
  have hchk:=hk.law.chk false (ek k) w ⟨k,rfl⟩
  have hst:=hk.law.stays (ek k) w ⟨k,rfl⟩
  have hget:=findE_get hk.inj k es.toList l 0 hes
  cases hf2:findE (ek k) es.toList 0 with
  | none=>
    rw [hf2] at hget
    cases hg:getL k l with
    | none=>rw [hg] at hin; cases hin
    | some v=>rw [hg] at hget; cases hget
  | some q=>
    obtain ⟨j,v0⟩:=q
    rw [hf2] at hfind
    obtain ⟨n,e,rfl,hn,hke,hfst⟩:=findE_idx _ _ _ _ _ hf2
    rw [Nat.zero_add] at hfind
    have hn':es[n]?=some e:=by rw [← Array.getElem?_toList]; exact hn
    have hkey:((es[n]?).map (·.key)).getD (ek k)=ek k:=by rw [hn']; simpa using hke
    have hborn:((es[n]?).map (fun x:MapEntry=>((x.born:Nat):Int))).getD 0=(e.born:Nat):=by rw [hn']; rfl
    have hsame:(es.modify n fun e:MapEntry=>{ e with key:=ek k })=es:=by
      apply Array.ext'
      rw [Array.toList_modify]
      apply List.ext_getElem?; intro i
      simp only [List.getElem?_modify]
      by_cases hi:n=i
      · subst hi; rw [hn]; simp [← hke]
      · simp [hi]
    have hval:(es.modify n fun e:MapEntry=>{ e with val:=ev v })=(es.modify n fun e:MapEntry=>{ e with key:=ek k,val:=ev v }):=by
      apply Array.ext'
      rw [Array.toList_modify,Array.toList_modify]
      apply List.ext_getElem?; intro i
      simp only [List.getElem?_modify]
      by_cases hi:n=i
      · subst hi; rw [hn]; simp [← hke]
      · simp [hi]
    refine ⟨.tuple #[v0,.int .i64 ((e.born:Nat):Int)],_,_,?_,hf.setObj he (o':=.map es clock),?_⟩
    · simp only [Instr.mapEntry,Sem.run_bind,run_underlying hm,Result.andThen_ok,MapKept.run_getObj_map hb,hchk,hfind,hkey,hst,hsame,MapKept.run_setObj_map _ hb,Sem.run_pure,hborn,goInt]
    · have tu:∀ c:Value→Prop,tupI (.tuple #[v0,.int .i64 ((e.born:Nat):Int)]) 1 c=c (.int .i64 ((e.born:Nat):Int)):=fun _=>rfl
      simp only [tu,intV_int]
      intro F2 w02 w2 hf2'
      have he2:(hp.set r (.obj (.map es clock))) r=.obj (.map es clock):=HP.set_eq ..
      have hb2':=getObj_of hf2' he2
      have hidx:es.findIdx? (fun x=>((x.born:Nat):Int)==((e.born:Nat):Int))=some n:=by
        rw [WideElems.findIdx_arr]; exact WideElems.findIdx_born hb2 hn
      refine ⟨(),_,_,?_,hf2'.setObj he2 (o':=.map (es.modify n fun e:MapEntry=>{ e with val:=ev v }) clock),?_⟩
      · have ha:(asInt (.int .i64 ((e.born:Nat):Int))).run P w2=.ok ((e.born:Nat):Int) w2:=rfl
        simp only [Instr.entryStore,Sem.run_bind,MapKept.run_getObj_map hb2',Result.andThen_ok,ha,hidx]
        exact MapKept.run_setObj_map _ hb2'
      · rw [HP.set_set,hval]
        refine h _ ⟨_,_,rfl,?_,?_,?_⟩
        · rw [Array.toList_modify]; exact put_modify hk.inj k v es.toList l n e hes hn hke hfst
        all_goals
          have hbm:(es.toList.modify n fun e:MapEntry=>{ e with key:=ek k,val:=ev v }).map (·.born)=es.toList.map (·.born):=by
            apply List.ext_getElem?; intro i
            simp only [List.getElem?_map,List.getElem?_modify]
            cases es.toList[i]? with
            | none=>rfl
            | some y=>simp only [Option.map_some]; split <;> rfl
        · intro x hx
          have:x.born∈es.toList.map (·.born):=hbm▸List.mem_map.2 ⟨x,by simpa using hx,rfl⟩
          obtain ⟨y,hy,e⟩:=List.mem_map.1 this
          rw [← e]; exact hb1 y hy
        · rw [Array.toList_modify,hbm]; exact hb2
end
theorem rdS_assert {P:Program} {hp:HP} {t xt:TypeId} {v:Value} {c:Value→Prop} (hu:(match P.underlying t with | some (.interface _)=>false | some _=>true | none=>false)=true) (h:c v):rdS P (Instr.typeAssert (.iface t v) xt t false) hp c:=by
  refine ⟨v,fun F w0 w hf=>?_,h⟩
  cases hd:P.underlying t with
  | none=>rw [hd] at hu; cases hu
  | some d=>
    rw [hd] at hu
    cases d with
    | interface ms=>cases hu
    | _=>simp [Instr.typeAssert,run_underlying hd]
end Go.HL
