/- The heaplet logic in use, part 8: append into the middle of a row that is known. -/
import Derived.Test.YtidoceleobdkmaaHlLib
namespace Go.HL
open Go

/-- The first cells of what a slice shows. -/
theorem Shows.cut {hp : HP} {a : Option Addr} {n k size : Nat} {ys : List Value} (h : Shows hp a n size ys) (hk : k ≤ n) : Shows hp a k size (ys.take (k * size)) := by
  rcases h with ⟨h1, h2⟩ | ⟨b, o, h1, h2⟩
  · left
    have : k = 0 := by omega
    subst this; simp
  · right
    refine ⟨b, o, h1, ?_⟩
    have hle : k * size ≤ n * size := Nat.mul_le_mul_right _ hk
    have hl : ys.length = n * size := Shows.len (.inr ⟨b, o, h1, h2⟩)
    have := cellN_cellN (o' := 0) (n' := k * size) h2 (by omega)
    rw [Nat.add_zero] at this
    rw [this, cellsN_of (by omega), List.drop_zero]

end Go.HL
