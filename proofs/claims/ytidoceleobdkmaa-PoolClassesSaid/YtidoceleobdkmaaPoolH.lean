/- Contracts of the pool's further functions: may, Is, Has, Give, Reserve, Release; of a nil pool; Right and Class of the document's answer. -/
import Derived.Test.YtidoceleobdkmaaPoolF
import Derived.Test.YtidoceleobdkmaaPoolG
set_option linter.unusedVariables false
set_option maxRecDepth 20000
namespace Go.Proofs
open Go Go.HL

def zq : List Value := [.int .u8 0, .int .u8 0, .int .u8 0, .int .u8 0]
def zt : List Value := [.int .u8 0, .int .u8 0, .int .u8 0, .int .u8 0, .int .i64 0]

/-- Why nothing can be done with a transport address. -/
def mayQ (l : List Q) (t : Q × Int) : Int := if isPort t.2 ∧ t.1 ∈ l then 0 else 1

theorem C100n {t : Q × Int} {hp : HP} {K : Value → HP → Prop} (h : K (.int .i64 2) hp) : CF Try.prog 100 [.pointer none, .agg ⟨t4 t⟩] hp K := by
  refine F100_ok none (t4 t) hp K ?_
  unfold F100 F100_j1
  exact h

theorem C100 {p m : Nat} {l : List Q} {low high : Int} {held} {t : Q × Int} {hp : HP} {K : Value → HP → Prop} (hr : PoolR hp p l low high held m) (hlen : l.length ≤ 4)
    (h : K (.int .i64 (mayQ l t)) hp) : CF Try.prog 100 [ptr p 0, .agg ⟨t4 t⟩] hp K := by
  refine F100_ok _ (t4 t) hp K ?_
  unfold F100
  obtain ⟨a, c, h1, h2, h3⟩ := hr
  have h1c : ∀ o, hp.cell p o = [Value.slice a l.length c, .int .i64 low, .int .i64 high, .map (some m)][o]? := fun o => HP.cell_of h1
  simp only [Option.isNone_some, ite2_false, ptrN_some, h1c, Nat.zero_add, List.getElem?_cons_succ, List.getElem?_cons_zero, ldV_some, mapV_map]
  unfold F100_j1
  rw [ite2_false]
  show ldV (some (.int .i64 t.2)) _
  rw [ldV_some, intV_int]
  refine C74 ?_
  rw [boolV_bool]
  unfold mayQ at h
  cases hx : isPort t.2
  · simp only [hx, Bool.false_eq_true, false_and, if_false] at h
    simp only [Bool.not_false, ite2_true]
    unfold F100_j2
    exact h
  · simp only [Bool.not_true, ite2_false, ptrN_some, h1c, Nat.zero_add, List.getElem?_cons_zero, ldV_some, slcV_slice]
    show ldL (some (v4 t.1)) _
    rw [ldL_some]
    refine C92 h2.shows rfl (by omega) ?_
    rw [boolV_bool]
    unfold F100_j2
    by_cases hm : t.1 ∈ l
    · simp only [hx, hm, and_self, if_true] at h
      simpa [hm] using h
    · simp only [hm, and_false, if_false] at h
      simpa [hm] using h

/-! A nil pool. -/
theorem C47n {t : Q × Int} {hp : HP} {K : Value → HP → Prop} (h : K (.tuple ⟨[.bool false, .bool false]⟩) hp) : CF Try.prog 47 [.pointer none, .agg ⟨t4 t⟩] hp K := by
  refine F47_ok none (t4 t) hp K ?_
  unfold F47
  rw [cellsN_all (t4_len t), ldL_some]
  refine C100n ?_
  rw [intV_int]
  exact h
theorem C48n {q : Q} {hp : HP} {K : Value → HP → Prop} (h : K (.bool false) hp) : CF Try.prog 48 [.pointer none, .agg ⟨v4 q⟩] hp K := by
  refine F48_ok none (v4 q) hp K ?_
  unfold F48
  rw [cellsN_all (v4_len q), ldL_some]
  refine ifI rfl ?_
  have hz : splice [(Value.int .u8 0), (Value.int .u8 0), (Value.int .u8 0), (Value.int .u8 0), (Value.int .i64 0)] 0 (v4 q) = t4 (q, 0) := rfl
  rw [hz]
  refine C100n ?_
  rw [intV_int]
  exact h
theorem C49n {t : Q × Int} {hp : HP} {K : Value → HP → Prop} (h : K (.int .i64 2) hp) : CF Try.prog 49 [.pointer none, .agg ⟨t4 t⟩] hp K := by
  refine F49_ok none (t4 t) hp K ?_
  unfold F49
  rw [cellsN_all (t4_len t), ldL_some]
  refine C100n ?_
  rw [intV_int]
  exact h
theorem C50n {t : Q × Int} {hp : HP} {K : Value → HP → Prop} (h : K (.int .i64 2) hp) : CF Try.prog 50 [.pointer none, .agg ⟨t4 t⟩] hp K := by
  refine F50_ok none (t4 t) hp K ?_
  unfold F50
  rw [cellsN_all (t4_len t), ldL_some]
  refine C100n ?_
  rw [intV_int]
  exact h
theorem C51n {t : Q × Int} {hp : HP} {K : Value → HP → Prop} (h : K (.int .i64 2) hp) : CF Try.prog 51 [.pointer none, .agg ⟨t4 t⟩] hp K := by
  refine F51_ok none (t4 t) hp K ?_
  unfold F51
  rw [cellsN_all (t4_len t), ldL_some]
  refine C100n ?_
  rw [intV_int]
  exact h
theorem C46n {first : Q} {x : Int} {plain : Bool} {hp : HP} {K : Value → HP → Prop} (h : K (.tuple ⟨[.agg ⟨t4 (q0, 0)⟩, .int .i64 2]⟩) hp) : CF Try.prog 46 [.pointer none, .agg ⟨v4 first⟩, .int .i64 x, .bool plain] hp K := by
  refine F46_ok none (v4 first) x plain hp K ?_
  unfold F46 F46_j1
  simp only [Option.isNone_none, ite2_true]
  refine ifI rfl (ifI rfl (ifI (Nat.le_refl 5) ?_))
  exact h
theorem C45n {hp : HP} {K : Value → HP → Prop} (h : K (.slice none 0 0) hp) : CF Try.prog 45 [.pointer none] hp K := by
  refine CF.drop (F45_ok none hp _ ?_)
  unfold F45
  intro b hb
  rw [ptrN_some, HP.cell_of (HP.set_eq ..)]
  exact ⟨hp, HSub.set_fresh hp _ hb, h⟩
theorem C54n {hp : HP} {K : Value → HP → Prop} (h : K (.int .i64 0) hp) : CF Try.prog 54 [.pointer none] hp K := by
  refine F54_ok none hp K ?_
  unfold F54 F54_j1
  exact h

/-! The document's answer. -/
theorem cls59 (x y : Int) : cls x y = (decide (0 ≤ x) && decide (x ≤ 65535) && decide (0 ≤ y) && decide (y ≤ 65535) && (x.tmod 2 == y.tmod 2) && (if x < 1024 then decide (y < 1024) else decide (y ≥ 1024))) := by
  unfold cls isPort
  rw [Bool.eq_iff_iff]
  simp only [Bool.and_eq_true, decide_eq_true_eq, beq_iff_eq]
  split
  · simp only [decide_eq_true_eq]
    constructor
    · rintro ⟨⟨⟨a, b⟩, c⟩, d⟩
      have : decide (x < 1024) = true := decide_eq_true (by assumption)
      rw [this] at c
      exact ⟨⟨⟨⟨⟨a.1, a.2⟩, b.1⟩, b.2⟩, d⟩, by simpa using c.symm⟩
    · rintro ⟨⟨⟨⟨⟨a, b⟩, c⟩, d⟩, e⟩, f⟩
      exact ⟨⟨⟨⟨a, b⟩, ⟨c, d⟩⟩, by rw [decide_eq_true (by assumption : x < 1024), decide_eq_true f]⟩, e⟩
  · simp only [decide_eq_true_eq]
    constructor
    · rintro ⟨⟨⟨a, b⟩, c⟩, d⟩
      have : decide (x < 1024) = false := decide_eq_false (by assumption)
      rw [this] at c
      have c' := of_decide_eq_false c.symm
      exact ⟨⟨⟨⟨⟨a.1, a.2⟩, b.1⟩, b.2⟩, d⟩, by omega⟩
    · rintro ⟨⟨⟨⟨⟨a, b⟩, c⟩, d⟩, e⟩, f⟩
      exact ⟨⟨⟨⟨a, b⟩, ⟨c, d⟩⟩, by rw [decide_eq_false (by assumption : ¬ x < 1024), decide_eq_false (by omega)]⟩, e⟩

theorem C59 {x y : Int} {hp : HP} {K : Value → HP → Prop} (h : K (.bool (cls x y)) hp) : CF Try.prog 59 [.int .i64 x, .int .i64 y] hp K := by
  refine F59_ok x y hp K ?_
  unfold F59
  rw [cls59] at h
  by_cases h0 : x < 0
  · rw [decide_eq_true h0, ite2_true]; unfold F59_j1
    rw [decide_eq_false (by omega : ¬ 0 ≤ x)] at h
    simpa using h
  rw [decide_eq_false h0, ite2_false]
  by_cases h1 : x > 65535
  · rw [decide_eq_true h1, ite2_true]; unfold F59_j1
    rw [decide_eq_false (by omega : ¬ x ≤ 65535)] at h
    simpa using h
  rw [decide_eq_false h1, ite2_false]
  by_cases h2 : y < 0
  · rw [decide_eq_true h2, ite2_true]; unfold F59_j1
    rw [decide_eq_false (by omega : ¬ 0 ≤ y)] at h
    simpa using h
  rw [decide_eq_false h2, ite2_false]
  by_cases h3 : y > 65535
  · rw [decide_eq_true h3, ite2_true]; unfold F59_j1
    rw [decide_eq_false (by omega : ¬ y ≤ 65535)] at h
    simpa using h
  rw [decide_eq_false h3, ite2_false]
  refine ⟨by decide, by decide, ?_⟩
  rw [decide_eq_true (by omega : 0 ≤ x), decide_eq_true (by omega : x ≤ 65535), decide_eq_true (by omega : 0 ≤ y), decide_eq_true (by omega : y ≤ 65535)] at h
  simp only [Bool.true_and] at h
  unfold F59_j1
  by_cases h4 : x.tmod 2 = y.tmod 2
  · have e : (x.tmod 2 != y.tmod 2) = false := by simp [h4]
    rw [e, ite2_false]
    have e' : (x.tmod 2 == y.tmod 2) = true := by simp [h4]
    rw [e', Bool.true_and] at h
    by_cases h5 : x < 1024
    · rw [if_pos h5] at h
      rw [decide_eq_true h5]; exact h
    · rw [if_neg h5] at h
      rw [decide_eq_false h5]; exact h
  · have e : (x.tmod 2 != y.tmod 2) = true := by simp [h4]
    rw [e, ite2_true]
    have e' : (x.tmod 2 == y.tmod 2) = false := by simp [h4]
    rw [e', Bool.false_and] at h
    exact h

theorem C55 {a : Option Addr} {n c : Nat} {l : List Q} {low high : Int} {hp : HP} {K : Value → HP → Prop} (hs : Shows hp a n 4 (l.flatMap v4)) (hl : l.length = n) (hn : n ≤ 1000000)
    (hlo : -9223372036854775808 ≤ low ∧ low ≤ 9223372036854775807) (hhi : -9223372036854775808 ≤ high ∧ high ≤ 9223372036854775807)
    (h : K (.bool (newOk l low high)) hp) : CF Try.prog 55 [.slice a n c, .int .i64 low, .int .i64 high] hp K := by
  refine F55_ok a n c low high hp K ?_
  unfold F55 F55_j2
  refine LoopP.by (J := fun k (x : Int) hp' => hp' = hp ∧ ∃ i : Nat, x = i ∧ i + k = n ∧ (l.take i).Nodup) ?_ (n := n) ⟨rfl, 0, rfl, by omega, by simp⟩
  rintro I k x hp' ⟨rfl, i, rfl, hik, hnd⟩ hI
  unfold F55_l3
  by_cases hi : i < n
  · rw [decide_eq_true (by omega : (i : Int) < (n : Int)), ite2_true]
    unfold F55_j5
    refine LoopP.by (J := fun k' (y : Int) hp'' => hp'' = hp' ∧ ∃ j : Nat, y = j ∧ j + k' = i ∧ ∀ j' : Nat, j' < j → l[j']? ≠ l[i]?) ?_ (n := i) ⟨rfl, 0, rfl, by omega, fun j' hj' => by omega⟩
    rintro I' k' y hp'' ⟨rfl, j, rfl, hjk, hne⟩ hI'
    unfold F55_l6
    by_cases hj : j < i
    · rw [decide_eq_true (by omega : (j : Int) < (i : Int)), ite2_true]
      obtain ⟨b, o, rfl, hc⟩ := hs.get v4_len hl hi
      obtain ⟨b', o', hbo, hc'⟩ := hs.get v4_len hl (show j < n by omega)
      cases hbo
      simp only [ptrN_some, Int.toNat_natCast, hc, hc', ldL_some]
      refine ⟨by omega, by omega, by omega, by omega, eq73 ?_⟩
      by_cases he : l[i]'(hl ▸ hi) = l[j]'(by omega)
      · rw [decide_eq_true he, ite2_true]
        have : newOk l low high = false := by
          unfold newOk
          have : ¬ l.Nodup := fun hnd' => by
            have := List.nodup_iff_pairwise_ne.1 hnd'
            have := List.pairwise_iff_getElem.1 this j i (by omega) (by omega) hj
            exact this he.symm
          simp [this]
        rw [this] at h; exact h
      · rw [decide_eq_false he, ite2_false, w64 (by omega) (by omega)]
        refine hI' (k' - 1) _ _ (by omega) ⟨rfl, j + 1, by omega, by omega, fun j' hj' => ?_⟩
        by_cases hjj : j' = j
        · subst hjj
          rw [List.getElem?_eq_getElem (by omega), List.getElem?_eq_getElem (hl ▸ hi)]
          exact fun e => he (Option.some.inj e).symm
        · exact hne j' (by omega)
    · rw [decide_eq_false (by omega : ¬ (j : Int) < (i : Int)), ite2_false]
      unfold F55_j4
      rw [w64 (by omega) (by omega)]
      have hji : j = i := by omega
      subst hji
      refine hI (k - 1) _ _ (by omega) ⟨rfl, j + 1, by omega, by omega, nodup_take (hl ▸ hi) hnd ?_⟩
      intro hm
      obtain ⟨j', hj', e⟩ := List.getElem_of_mem hm
      simp only [List.length_take] at hj'
      refine hne j' (by omega) ?_
      rw [List.getElem?_eq_getElem (by omega), List.getElem?_eq_getElem (hl ▸ hi), ← e]
      simp
  · rw [decide_eq_false (by omega : ¬ (i : Int) < (n : Int)), ite2_false]
    have hin : i = l.length := by omega
    subst hin
    rw [List.take_length] at hnd
    have hN : newOk l low high = (decide (1 ≤ l.length) && decide (l.length ≤ 4) && isPort low && isPort high && decide (low ≤ high) && decide (high - low < 1024)) := by
      unfold newOk; simp [hnd]
    rw [hN] at h
    unfold F55_j1
    by_cases g1 : l.length < 1
    · rw [decide_eq_false (by omega : ¬ ((n : Nat) : Int) ≥ 1), ite2_false]
      rw [decide_eq_false (by omega : ¬ 1 ≤ l.length)] at h
      simpa using h
    rw [decide_eq_true (by omega : ((n : Nat) : Int) ≥ 1), ite2_true]
    by_cases g2 : 4 < l.length
    · rw [decide_eq_false (by omega : ¬ ((n : Nat) : Int) ≤ 4), ite2_false]
      rw [decide_eq_false (by omega : ¬ l.length ≤ 4)] at h
      simpa using h
    rw [decide_eq_true (by omega : ((n : Nat) : Int) ≤ 4), ite2_true]
    unfold isPort at h
    by_cases g3 : low < 0
    · rw [decide_eq_false (by omega : ¬ low ≥ 0), ite2_false]
      rw [decide_eq_false (by omega : ¬ (0 ≤ low ∧ low ≤ 65535))] at h
      simpa using h
    rw [decide_eq_true (by omega : low ≥ 0), ite2_true]
    by_cases g4 : high < low
    · rw [decide_eq_false (by omega : ¬ low ≤ high), ite2_false]
      rw [decide_eq_false (by omega : ¬ low ≤ high)] at h
      simpa using h
    rw [decide_eq_true (by omega : low ≤ high), ite2_true]
    by_cases g5 : 65535 < high
    · rw [decide_eq_false (by omega : ¬ high ≤ 65535), ite2_false]
      rw [decide_eq_false (by omega : ¬ (0 ≤ high ∧ high ≤ 65535))] at h
      simpa using h
    rw [decide_eq_true (by omega : high ≤ 65535), ite2_true, w64 (n := high - low) (by omega) (by omega), w64 (by omega) (by omega)]
    rw [decide_eq_true (by omega : 1 ≤ l.length), decide_eq_true (by omega : l.length ≤ 4), decide_eq_true (by omega : low ≤ high), decide_eq_true (by omega : 0 ≤ low ∧ low ≤ 65535), decide_eq_true (by omega : 0 ≤ high ∧ high ≤ 65535)] at h
    have e : decide (high - low + 1 ≤ 1024) = decide (high - low < 1024) := by
      rw [Bool.eq_iff_iff]; simp only [decide_eq_true_eq]; omega
    rw [e]
    simpa using h
end Go.Proofs
