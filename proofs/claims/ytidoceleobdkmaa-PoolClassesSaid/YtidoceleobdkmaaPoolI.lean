/- PoolClasses: the walk. -/
import Derived.Test.YtidoceleobdkmaaPoolH
set_option linter.unusedVariables false
set_option maxRecDepth 20000
namespace Go.Proofs
open Go Go.HL

theorem C14 {x y : Int} {a : Option Addr} {n c : Nat} {l : List Q} {low high : Int} {hp : HP} {K : Value → HP → Prop} (hs : Shows hp a n 4 (l.flatMap v4)) (hl : l.length = n) (hnc : n ≤ c)
    (hlo : -9223372036854775808 ≤ low ∧ low ≤ 9223372036854775807) (hhi : -9223372036854775808 ≤ high ∧ high ≤ 9223372036854775807)
    (h : K (.bool true) hp) : CF Try.prog 14 [.int .i64 x, .int .i64 y, .slice a n c, .int .i64 low, .int .i64 high] hp K := by
  refine CF.drop (F14_ok x y a n c low high hp _ ?_)
  unfold F14
  by_cases h10 : n > 10
  · rw [decide_eq_true (by omega : ((n : Nat) : Int) > 10), ite2_true]
    refine C21 ?_
    exact ⟨hp, HSub.refl _, h⟩
  rw [decide_eq_false (by omega : ¬ ((n : Nat) : Int) > 10), ite2_false]
  have tail : ∀ hp2, HSub hp hp2 → F14_j1 x y false hp2 (fun v hp' => ∃ hp'', HL.HSub hp'' hp' ∧ K v hp'') := by
    intro hp2 hsub
    unfold F14_j1
    rw [ite2_false]
    have e1 : [(Value.int .u8 0), (Value.int .u8 0), (Value.int .u8 0), (Value.int .u8 0), (Value.int .i64 x)] = t4 (q0, x) := rfl
    have e0 : [(Value.int .u8 0), (Value.int .u8 0), (Value.int .u8 0), (Value.int .u8 0), (Value.int .i64 0)] = t4 (q0, 0) := rfl
    have e4 : [(Value.int .u8 0), (Value.int .u8 0), (Value.int .u8 0), (Value.int .u8 0)] = v4 q0 := rfl
    have es : splice (t4 (q0, 0)) 0 (t4 (q0, x)) = t4 (q0, x) := rfl
    simp only [e1, e0, e4, es, cellsN_all (t4_len _), ldL_some]
    refine ifI rfl (ifI rfl (ifI (Nat.le_refl 5) ?_))
    refine C47n ?_
    simp only [tup2V_mk, boolV_bool]
    refine C46n ?_
    simp only [tup2V_mk, aggV_agg, intV_int]
    refine ifI rfl (ifI rfl (ifI (Nat.le_refl 5) ?_))
    simp only [Bool.not_false, ite2_true]
    show ite2 true _ _
    rw [ite2_true]
    refine C50n ?_
    rw [intV_int]
    show ite2 true _ _
    rw [ite2_true]
    refine C51n ?_
    rw [intV_int]
    show ite2 true _ _
    rw [ite2_true]
    refine C49n ?_
    rw [intV_int]
    show ite2 true _ _
    rw [ite2_true]
    refine C48n ?_
    simp only [boolV_bool, Bool.not_false, ite2_true]
    refine C45n ?_
    rw [slcV_slice]
    show ite2 true _ _
    rw [ite2_true]
    refine C54n ?_
    rw [intV_int]
    unfold F14_j2
    show ite2 true _ _
    rw [ite2_true]
    refine C20 ?_
    rw [boolV_bool]
    refine C59 ?_
    rw [boolV_bool, beq_self_eq_true, ite2_true]
    refine C21 ?_
    exact ⟨hp, hsub, h⟩
  refine C44 hs hl hnc hlo hhi ?_ ?_
  · intro hb
    simp only [tup2V_mk, ptrV_pointer, intV_int]
    refine C55 hs hl (by omega) hlo hhi ?_
    rw [boolV_bool, hb]
    exact tail hp (HSub.refl _)
  · intro hb p m hp2 hsub _ _ _
    simp only [tup2V_mk, ptrV_pointer, intV_int]
    refine C55 (hs.sub hsub) hl (by omega) hlo hhi ?_
    rw [boolV_bool, hb]
    exact tail hp2 hsub
end Go.Proofs
