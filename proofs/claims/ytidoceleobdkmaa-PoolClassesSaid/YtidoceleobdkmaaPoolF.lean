import Derived.Test.YtidoceleobdkmaaPoolE
set_option linter.unusedVariables false
set_option maxRecDepth 20000
namespace Go.Proofs
open Go Go.HL

theorem cls_comm (x y : Int) : cls x y = cls y x := by
  unfold cls
  have e1 : (decide (x < 1024) == decide (y < 1024)) = (decide (y < 1024) == decide (x < 1024)) := Bool.beq_comm ..
  have e2 : (x.tmod 2 == y.tmod 2) = (y.tmod 2 == x.tmod 2) := by
    rw [Bool.beq_comm]
  rw [e1, e2, Bool.and_comm (isPort x)]
theorem cls_trans {x y z : Int} (h : cls x y = true) (k : cls y z = true) : cls x z = true := by
  unfold cls at *
  simp only [Bool.and_eq_true, beq_iff_eq] at *
  exact ⟨⟨⟨h.1.1.1, k.1.1.2⟩, h.1.2.trans k.1.2⟩, h.2.trans k.2⟩
theorem cls_self (x : Int) : cls x x = isPort x := by simp [cls]
theorem cls_four {x : Int} (h : isPort x = true) : (cls x 0).toNat + (cls x 1).toNat + (cls x 1024).toNat + (cls x 1025).toNat = 1 := by
  have h' := h
  unfold isPort at h'
  simp only [decide_eq_true_eq] at h'
  have ht : x.tmod 2 = x % 2 := Int.tmod_eq_emod_of_nonneg h'.1
  have p0 : isPort 0 = true := by decide
  have p1 : isPort 1 = true := by decide
  have p2 : isPort 1024 = true := by decide
  have p3 : isPort 1025 = true := by decide
  unfold cls
  rw [h, p0, p1, p2, p3, ht]
  have hm : x % 2 = 0 ∨ x % 2 = 1 := by omega
  by_cases hs : x < 1024 <;> rcases hm with hm | hm <;> simp [hs, hm] <;> decide

theorem C3 {x y z : Int} {hp : HP} {K : Value → HP → Prop} (h : K (.bool true) hp) : CF Try.prog 3 [.int .i64 x, .int .i64 y, .int .i64 z] hp K := by
  refine CF.drop (F3_ok x y z hp _ ?_)
  unfold F3
  have tail : F3_j1 x false hp (fun v hp' => ∃ hp'', HL.HSub hp'' hp' ∧ K v hp'') := by
    have out : isPort x = false → F3_j2 x true hp (fun v hp' => ∃ hp'', HL.HSub hp'' hp' ∧ K v hp'') := fun hx => by
      unfold F3_j2
      rw [ite2_true]
      refine C20 ?_
      rw [boolV_bool, cls_self, hx]
      refine C21 ?_
      exact ⟨hp, HSub.refl _, h⟩
    unfold F3_j1
    rw [ite2_false]
    by_cases h0 : x < 0
    · rw [decide_eq_true h0]
      exact out (by unfold isPort; exact decide_eq_false (by omega))
    rw [decide_eq_false h0, ite2_false]
    by_cases h1 : x > 65535
    · rw [decide_eq_true h1]
      exact out (by unfold isPort; exact decide_eq_false (by omega))
    rw [decide_eq_false h1]
    have hx : isPort x = true := by unfold isPort; exact decide_eq_true (by omega)
    unfold F3_j2
    rw [ite2_false]
    intro b hb
    have s0 := HSub.set_fresh hp (.cells 3 [(Value.int .i64 0), (Value.int .i64 1), (Value.int .i64 1024), (Value.int .i64 1025)] 0) hb
    have hcell : ∀ o, (hp.set b (.cells 3 [(Value.int .i64 0), (Value.int .i64 1), (Value.int .i64 1024), (Value.int .i64 1025)] 0)).cell b o = [(Value.int .i64 0), (Value.int .i64 1), (Value.int .i64 1024), (Value.int .i64 1025)][o]? := fun o => HP.cell_of (HP.set_eq ..)
    generalize HP.set hp b (.cells 3 [(Value.int .i64 0), (Value.int .i64 1), (Value.int .i64 1024), (Value.int .i64 1025)] 0) = hp2 at *
    have fin : F3_j3 x 1 hp2 (fun v hp' => ∃ hp'', HL.HSub hp'' hp' ∧ K v hp'') := by
      unfold F3_j3
      refine C20 ?_
      rw [boolV_bool, cls_self, hx]
      refine C21 ?_
      exact ⟨hp, s0, h⟩
    unfold F3_j4
    intro I hI
    have step : ∀ (n : Int) (i : Nat) (k : Int), i < 4 → [(0 : Int), 1, 1024, 1025][i]? = some k → 0 ≤ n → n ≤ 10 → I (n + (cls x k).toNat, (i : Int) + 1) hp2 → I (n, i) hp2 := by
      intro n i k hi hk hn hn' hnext
      refine hI (n, (i : Int)) _ ?_
      simp only
      unfold F3_l5
      have hlt : decide ((i : Int) < ((4 : Nat) : Int)) = true := decide_eq_true (by omega)
      rw [hlt, ite2_true]
      refine ⟨by omega, by show (i : Int) < ((4 : Nat) : Int); omega, ?_⟩
      rw [ptrN_some, hcell]
      have hv : [(Value.int .i64 0), (Value.int .i64 1), (Value.int .i64 1024), (Value.int .i64 1025)][0 + Int.toNat (i : Int) * 1]? = some (.int .i64 k) := by
        rw [Int.toNat_natCast, Nat.zero_add, Nat.mul_one]
        have : [(Value.int .i64 0), (Value.int .i64 1), (Value.int .i64 1024), (Value.int .i64 1025)] = [(0 : Int), 1, 1024, 1025].map (Value.int .i64) := rfl
        rw [this, List.getElem?_map, hk]; rfl
      rw [hv, ldV_some, intV_int]
      refine C20 ?_
      rw [boolV_bool]
      unfold F3_j6
      cases hc : cls x k
      · rw [ite2_false, w64 (by omega) (by omega)]
        rw [hc] at hnext
        simpa using hnext
      · rw [ite2_true, w64 (n := (i : Int) + 1) (by omega) (by omega), w64 (by omega) (by omega)]
        rw [hc] at hnext
        simpa using hnext
    have b0 := Bool.toNat_le (cls x 0)
    have b1 := Bool.toNat_le (cls x 1)
    have b2 := Bool.toNat_le (cls x 1024)
    have hfour := cls_four hx
    refine step 0 0 0 (by omega) rfl (by omega) (by omega) (step _ 1 1 (by omega) rfl (by omega) (by omega) (step _ 2 1024 (by omega) rfl (by omega) (by omega) (step _ 3 1025 (by omega) rfl (by omega) (by omega) ?_)))
    refine hI (_, _) _ ?_
    simp only
    unfold F3_l5
    have hsum : (0 : Int) + ((cls x 0).toNat : Int) + ((cls x 1).toNat : Int) + ((cls x 1024).toNat : Int) + ((cls x 1025).toNat : Int) = 1 := by omega
    show ite2 (decide ((3 : Int) + 1 < 4)) _ _
    show ite2 false _ _
    rw [ite2_false, hsum]
    exact fin
  refine C20 ?_
  rw [boolV_bool]
  refine C20 ?_
  rw [boolV_bool, cls_comm y x]
  simp only [beq_self_eq_true, Bool.not_true, ite2_false]
  refine C20 ?_
  rw [boolV_bool]
  cases hxy : cls x y
  · exact tail
  rw [ite2_true]
  refine C20 ?_
  rw [boolV_bool]
  cases hyz : cls y z
  · exact tail
  rw [ite2_true]
  refine C20 ?_
  rw [boolV_bool, cls_trans hxy hyz]
  exact tail
end Go.Proofs
