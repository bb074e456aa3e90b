/- The heaplet logic, part 42: tables of functions; a state to begin with. -/
import Derived.Test.YtobechphfppffaaGreatDoorHlEvJ
set_option linter.unusedVariables false
set_option linter.unusedSimpArgs false
namespace Go.HL
open Go
set_option linter.unusedVariables false
set_option linter.unusedSectionVars false
section
variable {α:Type}
def Tr.allP (f:Nat→α→Prop):Tr α→Nat→Nat→Prop
  | .nil,_,_=>True
  | .nd v l r,a,b=>(match v with | none=>True | some x=>f b x)∧Tr.allP f l (2*a) (a+b)∧Tr.allP f r (2*a) (2*a+b)
theorem Tr.allP_get {f:Nat→α→Prop}:∀ {t:Tr α} {a b:Nat},Tr.allP f t a b→∀ j x,t.get j=some x→f (a*j+b) x
  | .nil,a,b,h,j,x,e=>by rw [Tr.get_nil] at e; cases e
  | .nd v l r,a,b,h,0,x,e=>by
    rw [Tr.get_zero] at e
    subst e
    rw [Nat.mul_zero,Nat.zero_add]; exact h.1
  | .nd v l r,a,b,h,j+1,x,e=>by
    rw [Tr.get_succ] at e
    split at e
    · rename_i hj
      have:=Tr.allP_get h.2.1 _ _ e
      have e2:2*a*(j / 2)+(a+b)=a*(j+1)+b:=by
        have:j=2*(j / 2):=by omega
        rw [Nat.mul_comm 2 a,Nat.mul_assoc,← this,Nat.mul_succ]; omega
      rw [e2] at this; exact this
    · rename_i hj
      have:=Tr.allP_get h.2.2 _ _ e
      have e2:2*a*(j / 2)+(2*a+b)=a*(j+1)+b:=by
        have:j+1=2*(j / 2)+2:=by omega
        rw [this,Nat.mul_add,Nat.mul_comm 2 a,Nat.mul_assoc]; omega
      rw [e2] at this; exact this
end
noncomputable def okE1 (P:Program) (g:Nat) (x:FT):Bool:=match x.fn.body with
  | some c=>bodied P g&&okC P x.fn.ntmps x.prv x.ct c
  | none=>true
def EntOk (P:Program) (g:Nat) (x:FT):Prop:=P.funcs[g]?=some x.fn∧∀ c,x.fn.body=some c→bodied P g=true∧okC P x.fn.ntmps x.prv x.ct c=true
theorem EntOk.mk {P:Program} {g:Nat} {x:FT} {fn:Func} (hx:x.fn=fn) (hf:P.funcs[g]?=some fn) (h:okE1 P g x=true):EntOk P g x:=by
  refine ⟨hx▸hf,fun c hc=>?_⟩
  unfold okE1 at h
  rw [hc] at h
  simpa using h
theorem TabOk.of {P:Program} {t:Tr FT} (h:Tr.allP (EntOk P) t 1 0):TabOk P fun g=>t.get g:=fun g x e=>by
  have:=Tr.allP_get h g x e
  rw [Nat.one_mul,Nat.add_zero] at this
  exact this
theorem CF.ofEv {P:Program} {t:Tr FT} {gl:Nat→Option Nat} {f g:Nat} {args:List RV} {st:St} (htab:TabOk P fun g=>t.get g) {r:RV × St} (h:evF P (fun g=>t.get g) gl (fun _ _ _=>none) f g args st=some r)
    {m:Nm} {hp:HP} {vs:List Value} (hv:VL m args vs) (hs:SR P m st hp) (hg:GL m gl):CF P g vs hp fun w hp'=>∃ m':Nm,m.le m'∧VR m' r.1 w∧SR P m' r.2 hp':=
  evF_sound CallOk.none htab f g args st r h m hp vs hv hs hg
noncomputable def evB (x:Option (RV × St)) (b:Bool):Bool:=match x with
  | some (.v (.bool b'),_)=>b==b'
  | _=>false
theorem evB_some {x:Option (RV × St)} {b:Bool} (h:evB x b=true):∃ st,x=some (.v (.bool b),st):=by
  unfold evB at h
  split at h
  · rename_i b' st
    rw [beq_iff_eq] at h
    subst h; exact ⟨st,rfl⟩
  · cases h
theorem SR.empty (P:Program) (hp:HP):SR P (fun _=>none) ⟨0,.nil⟩ hp where
  dom i _:=rfl
  ent i se b h:=by rw [Tr.get_nil] at h; cases h
  inj i j si sj bi bj h:=by cases h
theorem CF.evB {P:Program} {t:Tr FT} {gl:Nat→Option Nat} {f g:Nat} {st:St} (htab:TabOk P fun g=>t.get g) {b:Bool} (h:HL.evB (evF P (fun g=>t.get g) gl (fun _ _ _=>none) f g [] st) b=true)
    {m:Nm} {hp:HP} (hs:SR P m st hp) (hg:GL m gl):CF P g [] hp fun w _=>w=.bool b:=by
  obtain ⟨st',e⟩:=evB_some h
  refine CF_mono (CF.ofEv htab e (vs:=[]) rfl hs hg) fun w hp' hw=>?_
  obtain ⟨m',_,hv,_⟩:=hw
  exact hv.vv
end Go.HL
