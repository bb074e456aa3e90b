/- A table that a row lists, wherever it stands on the list. -/
import Derived.Lib.LaidTab
set_option linter.unusedVariables false
set_option linter.unusedSimpArgs false
namespace Go.HL
open Go Go.Lib
theorem laidVars_tail {P:Program} {w:World} {x:String × DataW Unit} {rest:List (String × DataW Unit)} {ps:List MemPlace} (h:DataW.LaidVars P w (x::rest) ps):∃ qs,DataW.LaidVars P w rest qs:=by
  obtain ⟨g',t',cs,fuel,p,q,a,b,c,d,e,f⟩:=h
  exact ⟨_,e⟩
theorem tabIs_of_vars {P:Program} {W:World} {name:String} {k:IntKind} {zs:List Int} {rest:List (String × DataW Unit)} {g:Nat} {t e:TypeId} {n:Nat} {ps:List MemPlace}
    (hg:P.globalNamed name=some g) (hty:(P.globals[g]?).map (·.type)=some t) (ht:P.underlying t=some (.array n e)) (he:P.underlying e=some (.int k)) (hce:P.cellsOf e=1) (hct:P.cellsOf t=n)
    (h:DataW.LaidVars P W ((name,tabData k zs)::rest) ps):TabIs P W name k zs:=by
  obtain ⟨g',t',cs,fuel,p,q,hg',ht',hvar,hd,_,_⟩:=h
  obtain rfl:=Option.some.inj (hg.symm.trans hg')
  obtain rfl:=Option.some.inj (hty.symm.trans ht')
  unfold TabIs
  rw [hvar,← cells_of_tab ht he hce hct hd]
end Go.HL
