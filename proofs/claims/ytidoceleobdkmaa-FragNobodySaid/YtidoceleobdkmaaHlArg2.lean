/- The law's arguments, part 2: structs. -/
import Derived.Test.YtidoceleobdkmaaHlArg
namespace Go.HL
open Go
section
variable {H : Type} {enc : TypeId × Value → H} {P : Program} {w : World} {base : Nat} {spare : Nat → Bool} {held : Bool}
/-- A struct among the arguments: what its cells are. -/
theorem arg_struct {α : Type} {t : TypeId} {m : Nat} (hk : P.keyTypeAt m t = true) {cs : Array Value} {d : DataW H} {ps : List MemPlace} (h : DataW.Trod enc P w base spare held t (.agg cs) d ps)
    (ok : α → Prop) (en : α → List Value) (hdec : ∀ D cs, wellS P D t cs = true → ∃ x, ok x ∧ cs = en x) : ∃ x, ok x ∧ cs = ⟨en x⟩ := by
  obtain ⟨fuel, hf⟩ := h
  obtain ⟨x, hx, he⟩ := hdec _ _ (well_of_trod _ _ _ _ hf m hk)
  refine ⟨x, hx, ?_⟩
  cases cs
  simpa [Value.cells] using he
end
end Go.HL
