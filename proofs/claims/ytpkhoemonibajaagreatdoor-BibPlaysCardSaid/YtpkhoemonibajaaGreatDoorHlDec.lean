/- Arguments that are structs: what their cells are. -/
import Derived.Test.YtpkhoemonibajaaGreatDoorHlArg
set_option linter.unusedVariables false
set_option linter.unusedSimpArgs false
namespace Go.HL
open Go
def flds (P:Program) (t:TypeId):List (TypeId × Nat):=match P.underlying t with
  | some (.struct fs)=>fs.toList.map fun f=>(f.type,f.offset)
  | _=>[]
theorem wellS_struct {P:Program} {D:Nat} {t:TypeId} {cs:List Value} {fs0:List (TypeId × Nat)} (hf:flds P t=fs0) (hne:fs0≠[]) (h:wellS P (D+1) t cs=true) :
    cs.length=P.cellsOf t∧∀ x∈fs0,wellS P D x.1 ((cs.drop x.2).take (P.cellsOf x.1))=true:=by
  unfold flds at hf
  split at hf
  · rename_i fs hu
    unfold wellS at h
    rw [hu] at h
    simp only [Bool.and_eq_true,decide_eq_true_eq,List.all_eq_true] at h
    refine ⟨h.1,fun x hx=>?_⟩
    rw [← hf] at hx
    obtain ⟨f,hfm,rfl⟩:=List.mem_map.1 hx
    exact h.2 f hfm
  · exact absurd hf.symm hne
end Go.HL
