/- The heaplet logic in use, part 6: all that is there is known: arguments; what a law's row asks. -/
import Derived.Test.YtobechphfppffaaGreatDoorHlRow
import Derived.Deep.Slices
set_option linter.unusedVariables false
set_option linter.unusedSimpArgs false
namespace Go.HL
open Go
def hpAll (W:World):HP:=fun b=>match W.heap[b]? with | some o=>.obj o | none=>.none
theorem fits_all (W:World):Fits (fun _=>False) W (hpAll W) W:=by
  refine ⟨fun b=>?_,fun _ h=>h.elim,rfl,rfl,rfl,Nat.le_refl _⟩
  unfold hpAll
  cases h:W.heap[b]? with
  | none=>trivial
  | some o=>rfl
theorem below_all {P:Program} {f:FuncId} {args:List Value} {v:Value} (w:World) (hb:bodied P f=true) (h:CF P f args (hpAll w) fun u hp'=>u=v∧hp'=hpAll w) :
    Calls P f args.toArray w fun e w'=>e=.returned v∧RowKit.Below w.heap.size w w':=by
  refine (h.ac hb (fun _=>False) w (fits_all w)).mono ?_
  rintro e w' ⟨u,hp',rfl,hf,rfl,rfl⟩
  refine ⟨rfl,hf.os,hf.tape,hf.output,hf.size,fun k hk=>?_⟩
  have:=hf.ent k
  unfold hpAll at this
  rw [Array.getElem?_eq_getElem hk] at this
  rw [Array.getElem?_eq_getElem hk]
  exact this
section
variable {H:Type} {enc:TypeId × Value→H} {P:Program} {w:World} {base:Nat} {spare:Nat→Bool} {held:Bool}
end
end Go.HL
