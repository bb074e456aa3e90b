/- The heaplet logic, part 14: operations that touch no memory but private boxes; operations that touch memory alone. -/
import Derived.Test.YtobechphfppffaaGreatDoorHlCls
set_option linter.unusedVariables false
set_option linter.unusedSimpArgs false
namespace Go.HL
open Go
section
variable {P:Program} {prv:List Nat} {ρ:Operand→Option SV} {o:Oper}
def pureF (P:Program) (prv:List Nat) (ρ:Operand→Option SV) (o:Oper) (k:SV→Prop):Prop:=execF P prv ρ o V0 (fun _=>.none) fun s _ _=>k s
theorem pure_iff (hc:clsO P prv o=0) (pv:PV) (hp:HP) (K:SV→PV→HP→Prop):execF P prv ρ o pv hp K↔pureF P prv ρ o fun s=>K s pv hp:=by
  unfold pureF
  cases hop:o.op <;> simp only [execF,hop] <;> simp only [clsO,hop] at hc <;> first | exact Iff.rfl | skip
  case load t x=>split at hc <;> simp at hc
  case store t x v=>split at hc <;> simp at hc
  case alloc t=>
    split at hc
    · split at hc <;> simp at hc
    · simp at hc
  case box t x=>
    split at hc
    · split at hc <;> simp at hc
    · simp at hc
  case convert s d x=>
    split at hc
    · simp at hc
    · simp at hc
    · rename_i h1 h2
      have key:∀ (pv:PV) (hp:HP) (K:SV→PV→HP→Prop) (v:Value),(match P.underlying s,P.underlying d with
        | some (.slice _),some .string=>rdS P (convert s d v) hp fun v=>strV v fun s=>K (.val (.string s)) pv hp
        | some .string,some (.slice _)=>opS P (convert s d v) hp fun v hp=>slcV v fun a n m=>K (.val (.slice a n m)) pv hp
        | _,_=>semV P (convert s d v) fun v=>K (.val v) pv hp)=semV P (convert s d v) fun v=>K (.val v) pv hp:=by
        intro pv hp K v
        split
        · rename_i a b; exact absurd b (h1 _ a)
        · rename_i a b; exact absurd b (h2 _ a)
        · rfl
      simp only [key]
  case call c=>
    obtain ⟨callee,args,ts⟩:=c
    cases callee with
    | value f=>simp at hc
    | invoke r n=>simp at hc
    | builtin b=>
      cases b <;> simp only at hc ⊢ <;> first | (simp at hc; done) | skip
      case len=>
        have key:∀ (pv:PV) (hp hp':HP) (K:Value→Prop) (vs:List Value),lenF P ts o.type vs hp K↔lenF P ts o.type vs hp' K:=by
          intro pv hp hp' K vs
          unfold lenF
          split
          · exact Iff.rfl
          · exact Iff.rfl
          · rename_i hu; rw [hu] at hc; simp at hc
          · exact Iff.rfl
        simp only [builtinF]
        exact iff_of_eq (congrArg _ (funext fun vs=>propext (key pv _ _ _ vs)))
      all_goals (simp only [builtinF])
  all_goals (exact absurd hc (by decide))
end
end Go.HL
