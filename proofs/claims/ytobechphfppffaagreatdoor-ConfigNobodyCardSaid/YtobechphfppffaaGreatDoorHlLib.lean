/- The heaplet logic in use, part 4: rows of things of several cells; numbers. -/
import Derived.Test.YtobechphfppffaaGreatDoorHlMap
import Derived.IntWalk
set_option linter.unusedVariables false
set_option linter.unusedSimpArgs false
namespace Go.HL
open Go
section
variable {α:Type} {enc:α→List Value} {size:Nat}
theorem cellsN_cellsN {cs ys:List Value} {o n o' n':Nat} (h:cellsN cs o n=some ys) (h':o'+n'≤n):cellsN cs (o+o') n'=cellsN ys o' n':=by
  unfold cellsN at h
  split at h
  · rename_i hl
    cases h
    rw [cellsN_of (by omega),cellsN_of (by simp; omega)]
    rw [List.drop_take,List.take_take,List.drop_drop,Nat.min_eq_left (by omega)]
  · cases h
theorem cellN_cellN {hp:HP} {b o n o' n':Nat} {ys:List Value} (h:hp.cellN b o n=some ys) (h':o'+n'≤n):hp.cellN b (o+o') n'=cellsN ys o' n':=by
  unfold HP.cellN at h ⊢
  split at h
  · exact cellsN_cellsN h h'
  · exact cellsN_cellsN h h'
  · cases h
end
def elemOk (P:Program) (t e size bytes:Nat):Bool:=(match P.underlying t with | some (.slice e')=>e'==e | _=>false) &&
  (match P.info? e with | some i=>i.size==size&&i.bytes==bytes&&(match i.zero with | some z=>z.cells.size==size | none=>false) | none=>false)
theorem elemOk_elim {P:Program} {t e size bytes:Nat} (h:elemOk P t e size bytes=true):P.underlying t=some (.slice e)∧∃ i z,P.info? e=some i∧i.size=size∧i.bytes=bytes∧i.zero=some z∧z.cells.size=size:=by
  unfold elemOk at h
  rw [Bool.and_eq_true] at h
  obtain ⟨h1,h2⟩:=h
  split at h1
  · rename_i e' hu
    split at h2
    · rename_i i hi
      simp only [Bool.and_eq_true,beq_iff_eq] at h2 h1
      obtain ⟨⟨a,b⟩,c⟩:=h2
      split at c
      · rename_i z hz
        exact ⟨by rw [hu,h1],i,z,hi,a,b,hz,by simpa using c⟩
      · cases c
    · cases h2
  · cases h1
end Go.HL
