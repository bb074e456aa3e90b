/- The heaplet logic in use, part 3: keys of maps; a map as a list of pairs; what its operations do. -/
import Derived.Test.YtobechphfppffaaGreatDoorHlEq
import Derived.Maps.RangeRun
set_option linter.unusedVariables false
set_option linter.unusedSimpArgs false
namespace Go.HL
open Go
section
variable {P:Program}
def CheckS (P:Program) (em:Bool) (dd:Nat) (e:TypeId):Prop:=∀ (w:World) (D:Nat) (a:List Value),shaped P D e a=true→(Instr.checkKey em dd e (wrapD P e a)).run P w=.ok () w
theorem run_checkKey_shaped (em:Bool) (d:Nat):∀ (m:Nat) (t:TypeId),P.keyTypeAt m t=true→CheckS P em (d+m) t
  | 0,_,h=>by simp [Program.keyTypeAt] at h
  | m+1,t,hk=>by
    intro w D xs hx
    unfold Program.keyTypeAt at hk
    cases D with
    | zero=>cases hx
    | succ D=>
    unfold shaped at hx
    rw [show d+(m+1)=(d+m)+1 from rfl,Instr.checkKey]
    cases hu:P.underlying t with
    | none=>simp [hu] at hk
    | some kd=>
      cases kd <;> simp only [hu,Bool.false_eq_true] at hk hx
      case bool=>simp [run_underlying hu]
      case int q=>simp [run_underlying hu]
      case string=>simp [run_underlying hu]
      case array n e=>
        simp only [Bool.and_eq_true,decide_eq_true_eq,List.all_eq_true] at hx
        have hpe:∃ i,P.info? e=some i:=by
          cases m with
          | zero=>simp [Program.keyTypeAt] at hk
          | succ m'=>
            unfold Program.keyTypeAt at hk
            cases hue:P.underlying e with
            | none=>simp [hue] at hk
            | some _=>exact info_of_underlying hue
        obtain ⟨i,hi⟩:=hpe
        have IH:=run_checkKey_shaped em d m e hk
        simp only [wrapD,hu]
        simp only [Sem.run_bind,run_underlying hu,Result.andThen_ok]
        simp only [Std.Legacy.Range.forIn_eq_forIn_range',Std.Legacy.Range.size,Nat.sub_zero,Nat.add_one_sub_one,Nat.div_one]
        have each:=hx.2
        rw [List.range_eq_range'] at each
        clear hx
        generalize List.range' 0 n=is at each
        induction is with
        | nil=>simp
        | cons j is ih=>
          have p1:=run_part_shaped w (each j (by simp))
          have p2:=IH w D _ (each j (by simp))
          simp only [List.forIn_cons,Sem.run_bind,run_sizeOf w hi,Result.andThen_ok,p1,p2,Sem.run_pure]
          exact ih (fun y hy=>each y (by simp [hy]))
      case struct fs=>
        simp only [Bool.and_eq_true,decide_eq_true_eq,List.all_eq_true,Bool.not_eq_true'] at hx hk
        simp only [wrapD,hu]
        simp only [Sem.run_bind,run_underlying hu,Result.andThen_ok]
        rw [← Array.forIn_toList]
        have each:=hx.2
        have deep : ∀ f ∈ fs.toList, f.name ≠ "_" ∧ CheckS P em (d + m) f.type := fun f hf => by
          have:=Array.all_eq_true_iff_forall_mem.1 hk.1.1 f (Array.mem_toList_iff.1 hf)
          simp only [Bool.and_eq_true,bne_iff_ne,ne_eq] at this
          exact ⟨this.1,run_checkKey_shaped em d m f.type this.2⟩
        clear hx
        generalize fs.toList=L at each deep
        induction L with
        | nil=>simp
        | cons f L ih=>
          obtain ⟨hn,hp⟩:=deep f (by simp)
          have p1:=run_part_shaped w (each f (by simp))
          have p2:=hp w D _ (each f (by simp))
          simp only [List.forIn_cons,Sem.run_bind,hn,ne_eq,not_false_eq_true,if_true,Result.andThen_ok,p1,p2,Sem.run_pure]
          exact ih (fun y hy=>each y (by simp [hy])) (fun y hy=>deep y (by simp [hy]))
open Classical in
/-- Where a key is. -/
noncomputable def findE (k:Value):List MapEntry→Nat→Option (Nat × Value)
  | [],_=>none
  | e::es,i=>if k=e.key then some (i,e.val) else findE k es (i+1)
/-- What the operations on a map ask of its keys. -/
structure KeyLaw (P:Program) (kt:TypeId) (ok:Value→Prop):Prop where
  chk:∀ em k w,ok k→(Instr.checkKey em 10000 kt k).run P w=.ok () w
  find:∀ k (es:List MapEntry) w,ok k→(∀ e∈es,ok e.key)→(Instr.findKey kt k es).run P w=.ok (findE k es 0) w
  stays:∀ k w,ok k→(Instr.keyThatStays k k).run P w=.ok k w
/-- Keys of one cell. -/
theorem KeyLaw.flat {kt:TypeId} {d:TypeDesc} (hd:P.underlying kt=some d):KeyLaw P kt (MapKept.IsKey d) where
  chk em k w hk:=MapKept.run_checkKey hd hk em 9999
  find k es w hk he:=by
    have:∀ (es:List MapEntry) (i:Nat),(∀ e∈es,MapKept.IsKey d e.key)→Instr.findNow d k es i=some (findE k es i):=by
      intro es
      induction es with
      | nil=>intro i _; rfl
      | cons e es ih=>
        intro i he
        obtain ⟨r,hr,hiff⟩:=MapKept.sameNow_of_keys hk (he e (by simp))
        simp only [Instr.findNow,hr,findE]
        cases r
        · have hne:¬ k=e.key:=fun h=>by have:=hiff.2 h; cases this
          simp only [hne,if_false]
          exact ih (i+1) fun y hy=>he y (by simp [hy])
        · simp only [hiff.1 rfl,if_true]
    exact MapKept.run_findKey hd (this es 0 he)
  stays k w hk:=MapKept.run_keyThatStays hk
def leafB:Value→Bool
  | .bool _ | .int _ _ | .string _=>true
  | _=>false
def WideKey (P:Program) (D:Nat) (kt:TypeId) (k:Value):Prop:=∃ cs,k=.agg ⟨cs⟩∧shaped P D kt cs=true∧cs.all leafB=true
theorem sameBits_leaf {v:Value} (h:leafB v=true) (n:Nat):Instr.sameBits n v v=true:=by
  cases v <;> first | (cases h; done) | (cases n <;> simp [Instr.sameBits]; done) | skip
  cases n <;> simp [Instr.sameBits,(MapKept.bytes_beq _ _).2]
/-- Keys that are structs or arrays. -/
theorem KeyLaw.wide {kt:TypeId} {m D:Nat} (hm:(decide (m≤10000)&&P.keyTypeAt m kt&&P.tiled m kt&&(match P.underlying kt with | some (.array _ _) | some (.struct _)=>true | _=>false))=true):KeyLaw P kt (WideKey P D kt):=by
  simp only [Bool.and_eq_true,decide_eq_true_eq] at hm
  have hwr:∀ cs,wrapD P kt cs=.agg ⟨cs⟩:=by
    intro cs
    have h4:=hm.2
    unfold wrapD
    split at h4 <;> simp_all
  refine ⟨?_,?_,?_⟩
  · rintro em k w ⟨cs,rfl,hs,_⟩
    have:=run_checkKey_shaped em (10000-m) m kt hm.1.1.2 w D cs hs
    rw [Nat.sub_add_cancel hm.1.1.1,hwr] at this
    exact this
  · rintro k es w ⟨cs,rfl,hs,_⟩ he
    have heq:∀ e∈es,∃ r,(Op.equal kt (.agg ⟨cs⟩) e.key).run P w=.ok r w∧(r=true↔.agg ⟨cs⟩=e.key):=by
      intro e hm'
      obtain ⟨cs',hk',hs',_⟩:=he e hm'
      obtain ⟨r,hr,hiff⟩:=run_equalIn_shaped (10000-m) m kt hm.1.1.2 hm.1.2 w D D cs cs' hs hs'
      rw [Nat.sub_add_cancel hm.1.1.1,hwr,hwr] at hr
      rw [hk']
      exact ⟨r,hr,by rw [hiff]; constructor <;> intro h <;> simpa using h⟩
    have ask:∀ (es:List MapEntry) (i:Nat),(∀ e∈es,∃ r,(Op.equal kt (.agg ⟨cs⟩) e.key).run P w=.ok r w∧(r=true↔.agg ⟨cs⟩=e.key)) →
        (Instr.findAsking kt (.agg ⟨cs⟩) es i).run P w=.ok (findE (.agg ⟨cs⟩) es i) w:=by
      intro es
      induction es with
      | nil=>intro i _; simp [Instr.findAsking,findE]
      | cons e es ih=>
        intro i h
        obtain ⟨r,hr,hiff⟩:=h e (by simp)
        simp only [Instr.findAsking,Sem.run_bind,hr,Result.andThen_ok,findE]
        cases r
        · have hne:¬ .agg ⟨cs⟩=e.key:=fun h=>by have:=hiff.2 h; cases this
          simp only [hne,if_false,Bool.false_eq_true]
          exact ih (i+1) fun y hy=>h y (by simp [hy])
        · simp only [hiff.1 rfl,if_true,Sem.run_pure]
    cases hu:P.underlying kt with
    | none=>have:=hm.2; rw [hu] at this; cases this
    | some d=>
      unfold Instr.findKey
      simp only [Sem.run_bind,run_underlying hu,Result.andThen_ok]
      cases es with
      | nil=>simp [Instr.findNow,findE]
      | cons e es=>
        obtain ⟨cs',hk',_,_⟩:=he e (by simp)
        have hn:Instr.findNow d (.agg ⟨cs⟩) (e::es) 0=none:=by
          simp only [Instr.findNow,hk']
          cases d <;> rfl
        simp only [hn]
        exact ask (e::es) 0 heq
  · rintro k w ⟨cs,rfl,_,hl⟩
    have:Instr.sameBits 10000 (.agg ⟨cs⟩) (.agg ⟨cs⟩)=true:=by
      show Instr.sameBits (9999+1) _ _=true
      simp only [Instr.sameBits,beq_self_eq_true,Bool.true_and,List.all_eq_true]
      rintro ⟨a,b⟩ hab
      have zd:∀ cs:List Value,(a,b)∈cs.zip cs→a=b∧a∈cs:=by
        intro cs
        induction cs with
        | nil=>intro hab; simp at hab
        | cons c cs ih=>
          intro hab
          simp only [List.zip_cons_cons,List.mem_cons,Prod.mk.injEq] at hab
          rcases hab with ⟨rfl,rfl⟩ | h
          · exact ⟨rfl,by simp⟩
          · have:=ih h
            exact ⟨this.1,by simp [this.2]⟩
      have this:=zd cs hab
      rw [← this.1]
      exact sameBits_leaf (List.all_eq_true.1 hl a this.2) _
    simp [Instr.keyThatStays,this]
end
/-! A map as a list of pairs. -/
section
variable {κ ν:Type}
theorem KeyLaw.weaken {P:Program} {kt:TypeId} {ok ok':Value→Prop} (h:KeyLaw P kt ok) (hk:∀ v,ok' v→ok v):KeyLaw P kt ok':=
  ⟨fun em k w h'=>h.chk em k w (hk _ h'),fun k es w h' he=>h.find k es w (hk _ h') fun e hm=>hk _ (he e hm),fun k w h'=>h.stays k w (hk _ h')⟩
section
variable {P:Program} {hp:HP} {mt kt et:TypeId} {ek:κ→Value} {ev:ν→Value} {r:Nat} {l:List (κ × ν)}
theorem getObj_of {F w0 w} {o:Obj} (hf:Fits F w0 hp w) (h:hp r=.obj o):w.heap[r]?=some o:=by
  have:=hf.ent r
  rw [h] at this
  exact this
theorem Fits.setObj {F w0 w} {o o':Obj} (hf:Fits F w0 hp w) (h:hp r=.obj o):Fits F w0 (hp.set r (.obj o')) { w with heap:=w.heap.setIfInBounds r o' } where
  ent x:=by
    have hlt:r<w.heap.size:=Ent.ok_lt (h▸hf.ent r) (by simp)
    by_cases hx:x=r
    · subst hx
      rw [HP.set_eq]
      show _=_
      simp [hlt]
    · rw [HP.set_ne _ _ hx]
      have:=hf.ent x
      rw [show ({ w with heap:=w.heap.setIfInBounds r o' }:World).heap[x]?=w.heap[x]? by simp only [Array.getElem?_setIfInBounds,if_neg (fun e:r=x=>hx (Eq.symm e))]]
      exact this
  fr x hx:=by
    have:=hf.fr x hx
    have hne:x≠r:=fun e=>by rw [e,h] at this; cases this.1
    rw [HP.set_ne _ _ hne]
    refine ⟨this.1,by simpa using this.2.1,?_⟩
    rw [← this.2.2]
    simp only [Array.getElem?_setIfInBounds,if_neg (fun e:r=x=>hne (Eq.symm e))]
  os:=hf.os
  tape:=hf.tape
  output:=hf.output
  size:=by simpa using hf.size
end
end
end Go.HL
