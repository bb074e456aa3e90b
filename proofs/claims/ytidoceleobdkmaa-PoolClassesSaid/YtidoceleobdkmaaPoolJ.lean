/- What an argument's cells are: a byte, a number, a truth, an address, a transport address. -/
import Derived.Test.YtidoceleobdkmaaPoolB
import Derived.Test.YtidoceleobdkmaaHlArg
import Derived.DataShut
set_option linter.unusedVariables false
set_option maxRecDepth 20000
namespace Go.Proofs
open Go Go.HL

theorem dec5 {D : Nat} {cs : List Value} (h : wellS Try.prog D 5 cs = true) : ∃ n : Int, (0 ≤ n ∧ n ≤ 255) ∧ cs = [.int .u8 n] := by
  cases D with
  | zero => cases h
  | succ D =>
    unfold wellS at h
    rw [show Try.prog.underlying 5 = some (.int .u8) by kernel_rfl] at h
    simp only at h
    split at h
    · rename_i q n
      simp only [Bool.and_eq_true, decide_eq_true_eq] at h
      obtain ⟨rfl, hw⟩ := h
      exact ⟨n, (Go.Lit.wf_int_iff _ _).1 hw, rfl⟩
    · cases h
theorem dec3 {D : Nat} {cs : List Value} (h : wellS Try.prog D 3 cs = true) : ∃ n : Int, (-9223372036854775808 ≤ n ∧ n ≤ 9223372036854775807) ∧ cs = [.int .i64 n] := by
  cases D with
  | zero => cases h
  | succ D =>
    unfold wellS at h
    rw [show Try.prog.underlying 3 = some (.int .i64) by kernel_rfl] at h
    simp only at h
    split at h
    · rename_i q n
      simp only [Bool.and_eq_true, decide_eq_true_eq] at h
      obtain ⟨rfl, hw⟩ := h
      exact ⟨n, (Go.Lit.wf_int_iff _ _).1 hw, rfl⟩
    · cases h
theorem dec4 {D : Nat} {cs : List Value} (h : wellS Try.prog D 4 cs = true) : ∃ b : Bool, cs = [.bool b] := by
  cases D with
  | zero => cases h
  | succ D =>
    unfold wellS at h
    rw [show Try.prog.underlying 4 = some .bool by kernel_rfl] at h
    simp only at h
    split at h
    · exact ⟨_, rfl⟩
    · cases h

/-- Are the bytes of an address bytes? -/
def okQ (q : Q) : Prop := (0 ≤ q.1 ∧ q.1 ≤ 255) ∧ (0 ≤ q.2.1 ∧ q.2.1 ≤ 255) ∧ (0 ≤ q.2.2.1 ∧ q.2.2.1 ≤ 255) ∧ (0 ≤ q.2.2.2 ∧ q.2.2.2 ≤ 255)

theorem dec73 : ∀ (D : Nat) (cs : List Value), wellS Try.prog D 73 cs = true → ∃ q : Q, okQ q ∧ cs = v4 q := by
  intro D cs h
  cases D with
  | zero => cases h
  | succ D =>
    unfold wellS at h
    rw [show Try.prog.underlying 73 = some (.array 4 5) by kernel_rfl] at h
    simp only [show Try.prog.cellsOf 73 = 4 by kernel_rfl, show Try.prog.cellsOf 5 = 1 by kernel_rfl, Bool.and_eq_true, decide_eq_true_eq, List.all_eq_true, List.mem_range] at h
    obtain ⟨hl, he⟩ := h
    match cs, hl with
    | [c0, c1, c2, c3], _ =>
      obtain ⟨n0, r0, e0⟩ := dec5 (he 0 (by omega))
      obtain ⟨n1, r1, e1⟩ := dec5 (he 1 (by omega))
      obtain ⟨n2, r2, e2⟩ := dec5 (he 2 (by omega))
      obtain ⟨n3, r3, e3⟩ := dec5 (he 3 (by omega))
      simp at e0 e1 e2 e3
      subst e0; subst e1; subst e2; subst e3
      exact ⟨(n0, n1, n2, n3), ⟨r0, r1, r2, r3⟩, rfl⟩
end Go.Proofs
