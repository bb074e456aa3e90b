/- Parts of the proof of BoundsProof: the logic of what is known of memory, functions' contracts. -/
import Derived.Test.YtidoceleobdkmaaQBoundsProofC
import Derived.Sort.LotB
import Derived.Sort.LotC
import Derived.Sort.LotA
import Derived.Test.YtidoceleobdkmaaHlAbb
import Derived.Test.YtidoceleobdkmaaProg
import Derived.Test.YtidoceleobdkmaaHlUse2
import Derived.Sort.LotD1
set_option linter.unusedVariables false
set_option maxRecDepth 20000
namespace Go.Proofs
open Go Go.HL

section
variable {f : FuncId} {ga gb : List Value} {hp0 : HP} {b sp n c : Nat} {T : Type} [Inhabited T] {en : T → ByteArray} {cf : T → T → Int}

theorem S192 (hc : CmpOk1 Try.prog f ga gb hp0 b 9 sp n cf en) {d : Array T} {lo hi fst : Nat} {K : Value → HP → Prop} (hs : d.size = n) (hlo : lo ≤ hi) (hf : fst + hi ≤ n) (hn : n ≤ 1000000000)
    (h : K (.tuple ⟨[]⟩) (HA hp0 b 9 sp (ssT en) (Sort.siftDown (ltC cf) hi fst lo d))) :
    CF Try.prog 192 [.slice (some ⟨b, 0, none⟩) n c, .int .i64 lo, .int .i64 hi, .int .i64 fst, .func (.func f) ⟨ga⟩ ⟨gb⟩] (HA hp0 b 9 sp (ssT en) d) K := by
  refine F192_ok _ n c lo hi fst _ _ K ?_
  unfold F192 F192_j1
  refine LoopP.by (J := fun k (x : Int) hp => ∃ (r : Nat) (d' : Array T), x = r ∧ hp = HA hp0 b 9 sp (ssT en) d' ∧ d'.size = n ∧ r ≤ hi ∧ k = hi - r ∧ Sort.siftDown (ltC cf) hi fst r d' = Sort.siftDown (ltC cf) hi fst lo d) ?_
    (n := hi - lo) ⟨lo, d, rfl, rfl, hs, hlo, rfl, rfl⟩
  rintro I k x hp ⟨r, d', rfl, rfl, hs', hr, rfl, he⟩ hI
  unfold F192_l2
  have w1 : IntKind.wrap .i64 (2 * (r : Int)) = ((2 * r : Nat) : Int) := wi (by omega) (by omega)
  have w2 : IntKind.wrap .i64 (((2 * r : Nat) : Int) + 1) = ((2 * r + 1 : Nat) : Int) := wi (by omega) (by omega)
  have w3 : IntKind.wrap .i64 (((2 * r + 1 : Nat) : Int) + 1) = ((2 * r + 2 : Nat) : Int) := wi (by omega) (by omega)
  have w4 : IntKind.wrap .i64 ((fst : Int) + ((2 * r + 1 : Nat) : Int)) = ((fst + (2 * r + 1) : Nat) : Int) := wi (by omega) (by omega)
  have w5 : IntKind.wrap .i64 (((fst + (2 * r + 1) : Nat) : Int) + 1) = ((fst + (2 * r + 1) + 1 : Nat) : Int) := wi (by omega) (by omega)
  simp only [w1, w2, w3, w4, w5]
  rw [Sort.siftDown] at he
  by_cases h1 : 2 * r + 1 ≥ hi
  · rw [dif_pos h1] at he
    rw [decide_eq_true (by omega : ((2 * r + 1 : Nat) : Int) ≥ (hi : Int)), ite2_true, he]
    exact h
  rw [dif_neg h1] at he
  rw [decide_eq_false (by omega : ¬ ((2 * r + 1 : Nat) : Int) ≥ (hi : Int)), ite2_false]
  have tail : ∀ ch : Nat, ch < hi → r < ch → (if !ltC cf d'[fst + r]! d'[fst + ch]! then d' else Sort.siftDown (ltC cf) hi fst ch (Sort.swp d' (fst + r) (fst + ch))) = Sort.siftDown (ltC cf) hi fst lo d →
      F192_j3 (some ⟨b, 0, none⟩) n c hi fst (.func (.func f) ⟨ga⟩ ⟨gb⟩) r ch (HA hp0 b 9 sp (ssT en) d') I K := by
    intro ch hch hrc ht
    unfold F192_j3
    have v1 : IntKind.wrap .i64 ((fst : Int) + (r : Int)) = ((fst + r : Nat) : Int) := wi (by omega) (by omega)
    have v2 : IntKind.wrap .i64 ((fst : Int) + (ch : Int)) = ((fst + ch : Nat) : Int) := wi (by omega) (by omega)
    simp only [v1, v2]
    refine cmpP1 hc hs' (i := fst + r) (j := fst + ch) rfl rfl (by omega) (by omega) ?_
    have hl : decide (cf d'[fst + r]! d'[fst + ch]! < 0) = ltC cf d'[fst + r]! d'[fst + ch]! := rfl
    rw [hl]
    cases hlt : ltC cf d'[fst + r]! d'[fst + ch]!
    · rw [hlt] at ht
      simp only [Bool.not_false, if_true] at ht
      simp only [Bool.not_false, ite2_true]
      rw [ht]; exact h
    · rw [hlt] at ht
      simp only [Bool.not_true, Bool.false_eq_true, if_false] at ht
      simp only [Bool.not_true, ite2_false]
      refine swapP1 hs' (i := fst + r) (j := fst + ch) rfl rfl (by omega) (by omega) ?_
      exact hI (hi - ch) _ _ (by omega) ⟨ch, _, rfl, rfl, by rw [swp_size]; exact hs', by omega, rfl, ht⟩
  by_cases h2 : 2 * r + 1 + 1 < hi
  · rw [decide_eq_true (by omega : ((2 * r + 2 : Nat) : Int) < (hi : Int)), ite2_true]
    refine cmpP1 hc hs' (i := fst + (2 * r + 1)) (j := fst + (2 * r + 1) + 1) rfl rfl (by omega) (by omega) ?_
    have hl : decide (cf d'[fst + (2 * r + 1)]! d'[fst + (2 * r + 1) + 1]! < 0) = ltC cf d'[fst + (2 * r + 1)]! d'[fst + (2 * r + 1) + 1]! := rfl
    rw [hl]
    unfold F192_j4
    rw [decide_eq_true h2, Bool.true_and] at he
    cases hlt : ltC cf d'[fst + (2 * r + 1)]! d'[fst + (2 * r + 1) + 1]!
    · rw [hlt] at he
      simp only [Bool.false_eq_true, if_false] at he
      rw [ite2_false]
      exact tail (2 * r + 1) (by omega) (by omega) he
    · rw [hlt] at he
      simp only [if_true] at he
      rw [ite2_true, w3]
      refine tail (2 * r + 2) (by omega) (by omega) ?_
      rw [dif_pos (by omega : 2 * r + 2 < hi)] at he
      exact he
  · rw [decide_eq_false (by omega : ¬ ((2 * r + 2 : Nat) : Int) < (hi : Int)), ite2_false]
    rw [decide_eq_false h2, Bool.false_and] at he
    simp only [Bool.false_eq_true, if_false] at he
    unfold F192_j4
    rw [ite2_false]
    exact tail (2 * r + 1) (by omega) (by omega) he

theorem sift_size {α : Type} [Inhabited α] (lt : α → α → Bool) (hi fst : Nat) : ∀ (m r : Nat) (d : Array α), hi - r ≤ m → (Sort.siftDown lt hi fst r d).size = d.size := by
  intro m
  induction m with
  | zero =>
    intro r d hm
    rw [Sort.siftDown, dif_pos (by omega)]
  | succ m ih =>
    intro r d hm
    rw [Sort.siftDown]
    repeat' split
    all_goals first
      | rfl
      | (rw [ih _ _ (by omega), swp_size])

theorem S181 (hc : CmpOk1 Try.prog f ga gb hp0 b 9 sp n cf en) {d : Array T} {lo hi : Nat} {K : Value → HP → Prop} (hs : d.size = n) (hlo : lo ≤ hi) (hf : hi ≤ n) (hn : n ≤ 1000000000)
    (h : K (.tuple ⟨[]⟩) (HA hp0 b 9 sp (ssT en) (Sort.heapSort (ltC cf) d lo hi))) :
    CF Try.prog 181 [.slice (some ⟨b, 0, none⟩) n c, .int .i64 lo, .int .i64 hi, .func (.func f) ⟨ga⟩ ⟨gb⟩] (HA hp0 b 9 sp (ssT en) d) K := by
  refine F181_ok _ n c lo hi _ _ K ?_
  unfold F181 F181_j4
  have w1 : IntKind.wrap .i64 ((hi : Int) - (lo : Int)) = ((hi - lo : Nat) : Int) := wi (by omega) (by omega)
  refine ⟨by omega, ?_⟩
  rw [w1]
  generalize hm : hi - lo = m at *
  have w2 : IntKind.wrap .i64 ((m : Int) - 1) = (m : Int) - 1 := w64 (by omega) (by omega)
  have w3 : Int.tdiv ((m : Int) - 1) 2 = (((m - 1) / 2 : Nat) : Int) := by
    cases m with
    | zero => rfl
    | succ m =>
      have : ((m + 1 : Nat) : Int) - 1 = (m : Int) := by omega
      rw [this]; simp only [Nat.add_sub_cancel]
      rfl
  have w4 : IntKind.wrap .i64 ((((m - 1) / 2 : Nat) : Int)) = (((m - 1) / 2 : Nat) : Int) := wi rfl (by omega)
  rw [w2, w3, w4]
  unfold Sort.heapSort at h
  rw [hm] at h
  refine LoopP.by (J := fun k (x : Int) hp => ∃ (d' : Array T), x = (k : Int) - 1 ∧ hp = HA hp0 b 9 sp (ssT en) d' ∧ d'.size = n ∧ k ≤ (m - 1) / 2 + 1 ∧ Sort.heapBuild (ltC cf) m lo k d' = Sort.heapBuild (ltC cf) m lo ((m - 1) / 2 + 1) d) ?_
    (n := (m - 1) / 2 + 1) ⟨d, by omega, rfl, hs, Nat.le_refl _, rfl⟩
  rintro I k x hp ⟨d', rfl, rfl, hs', hk, he⟩ hI
  unfold F181_l5
  cases k with
  | succ k =>
    have e1 : ((k + 1 : Nat) : Int) - 1 = (k : Int) := by omega
    rw [e1, decide_eq_true (by omega : (k : Int) ≥ 0), ite2_true]
    refine S192 hc hs' (by omega) (by omega) hn ?_
    rw [w64 (by omega) (by omega)]
    rw [Sort.heapBuild] at he
    exact hI k _ _ (by omega) ⟨_, rfl, rfl, by rw [sift_size _ _ _ _ _ _ (Nat.le_refl _)]; exact hs', by omega, he⟩
  | zero =>
    rw [decide_eq_false (by omega : ¬ (((0 : Nat) : Int) - 1) ≥ 0), ite2_false]
    rw [Sort.heapBuild] at he
    rw [← he] at h
    unfold F181_j1 F181_j2
    rw [w2]
    refine LoopP.by (J := fun k (x : Int) hp => ∃ (d2 : Array T), x = (k : Int) - 1 ∧ hp = HA hp0 b 9 sp (ssT en) d2 ∧ d2.size = n ∧ k ≤ m ∧ Sort.heapPop (ltC cf) lo k d2 = Sort.heapPop (ltC cf) lo m d') ?_
      (n := m) ⟨d', rfl, rfl, hs', Nat.le_refl _, rfl⟩
    rintro I2 k2 x2 hp2 ⟨d2, rfl, rfl, hs2, hk2, he2⟩ hI2
    unfold F181_l3
    cases k2 with
    | succ k =>
      have e1 : ((k + 1 : Nat) : Int) - 1 = (k : Int) := by omega
      have v1 : IntKind.wrap .i64 ((lo : Int) + (k : Int)) = ((lo + k : Nat) : Int) := wi (by omega) (by omega)
      rw [e1, decide_eq_true (by omega : (k : Int) ≥ 0), ite2_true, v1]
      refine swapP1 hs2 (i := lo) (j := lo + k) rfl rfl (by omega) (by omega) ?_
      have hz : (Value.int .i64 0) = Value.int .i64 ((0 : Nat) : Int) := rfl
      rw [hz]
      refine S192 hc (by rw [swp_size]; exact hs2) (by omega) (by omega) hn ?_
      rw [w64 (by omega) (by omega)]
      rw [Sort.heapPop] at he2
      exact hI2 k _ _ (by omega) ⟨_, rfl, rfl, by rw [sift_size _ _ _ _ _ _ (Nat.le_refl _), swp_size]; exact hs2, by omega, he2⟩
    | zero =>
      rw [decide_eq_false (by omega : ¬ (((0 : Nat) : Int) - 1) ≥ 0), ite2_false]
      rw [Sort.heapPop] at he2
      rw [he2]; exact h

theorem S184 {v : Value} {d : Array T} {lo hi : Nat} {K : Value → HP → Prop} (hs : d.size = n) (hlo : lo < hi) (hf : hi ≤ n) (hn : n ≤ 1000000000)
    (h : K (.tuple ⟨[]⟩) (HA hp0 b 9 sp (ssT en) (Sort.reverseRange d lo hi))) :
    CF Try.prog 184 [.slice (some ⟨b, 0, none⟩) n c, .int .i64 lo, .int .i64 hi, v] (HA hp0 b 9 sp (ssT en) d) K := by
  refine F184_ok _ n c lo hi _ _ K ?_
  unfold F184 F184_j1
  have w1 : IntKind.wrap .i64 ((hi : Int) - 1) = ((hi - 1 : Nat) : Int) := wi (by omega) (by omega)
  rw [w1]
  unfold Sort.reverseRange at h
  refine LoopP.by (J := fun k (s : Int × Int) hp => ∃ (i j : Nat) (d' : Array T), s = ((i : Int), (j : Int)) ∧ hp = HA hp0 b 9 sp (ssT en) d' ∧ d'.size = n ∧ j < n ∧ k = j - i ∧ Sort.reverseLoop i j d' = Sort.reverseLoop lo (hi - 1) d) ?_
    (n := hi - 1 - lo) ⟨lo, hi - 1, d, rfl, rfl, hs, by omega, rfl, rfl⟩
  rintro I k x hp ⟨i, j, d', rfl, rfl, hs', hj, rfl, he⟩ hI
  unfold F184_l2
  rw [Sort.reverseLoop] at he
  by_cases hij : i < j
  · rw [if_pos hij] at he
    simp only []
    rw [decide_eq_true (by omega : (i : Int) < (j : Int)), ite2_true]
    refine swapP1 hs' (i := i) (j := j) rfl rfl (by omega) (by omega) ?_
    have v1 : IntKind.wrap .i64 ((i : Int) + 1) = ((i + 1 : Nat) : Int) := wi (by omega) (by omega)
    have v2 : IntKind.wrap .i64 ((j : Int) - 1) = ((j - 1 : Nat) : Int) := wi (by omega) (by omega)
    rw [v1, v2]
    exact hI (j - 1 - (i + 1)) _ _ (by omega) ⟨i + 1, j - 1, _, rfl, rfl, by rw [swp_size]; exact hs', by omega, rfl, he⟩
  · rw [if_neg hij] at he
    simp only []
    rw [decide_eq_false (by omega : ¬ (i : Int) < (j : Int)), ite2_false, he]
    exact h
end
end Go.Proofs

set_option linter.unusedVariables false
set_option maxRecDepth 20000
namespace Go.Proofs
open Go Go.HL

section
variable {f : FuncId} {ga gb : List Value} {hp0 : HP} {b sp n c : Nat} {T : Type} [Inhabited T] {en : T → ByteArray} {cf : T → T → Int}

theorem S185 (hc : CmpOk1 Try.prog f ga gb hp0 b 9 sp n cf en) {d : Array T} {lo hi : Nat} {K : Value → HP → Prop} (hs : d.size = n) (hlo : lo < hi) (hf : hi ≤ n) (hn : n ≤ 1000000000)
    (h : K (.bool (Sort.partialInsertionSort (ltC cf) d lo hi).2) (HA hp0 b 9 sp (ssT en) (Sort.partialInsertionSort (ltC cf) d lo hi).1)) :
    CF Try.prog 185 [.slice (some ⟨b, 0, none⟩) n c, .int .i64 lo, .int .i64 hi, .func (.func f) ⟨ga⟩ ⟨gb⟩] (HA hp0 b 9 sp (ssT en) d) K := by
  refine F185_ok _ n c lo hi _ _ K ?_
  unfold F185 F185_j1
  have w1 : IntKind.wrap .i64 ((lo : Int) + 1) = ((lo + 1 : Nat) : Int) := wi (by omega) (by omega)
  rw [w1]
  generalize hR : Sort.partialInsertionSort (ltC cf) d lo hi = R at h
  unfold Sort.partialInsertionSort at hR
  refine LoopP.by (J := fun k (s : Int × Int) hp => ∃ (i : Nat) (d' : Array T), s = ((i : Int), 5 - (k : Int)) ∧ k ≤ 5 ∧ hp = HA hp0 b 9 sp (ssT en) d' ∧ d'.size = n ∧ lo < i ∧ i ≤ hi ∧ Sort.partialIns (ltC cf) lo hi k i d' = R) ?_
    (n := 5) ⟨lo + 1, d, rfl, Nat.le_refl _, rfl, hs, by omega, by omega, hR⟩
  rintro I k x hp ⟨i, d', rfl, hk5, rfl, hs', hli, hih, he⟩ hI
  unfold F185_l2
  simp only []
  cases k with
  | zero =>
    rw [decide_eq_false (by omega : ¬ (5 - ((0 : Nat) : Int)) < 5), ite2_false]
    rw [Sort.partialIns] at he
    rw [← he] at h
    exact h
  | succ k =>
    rw [decide_eq_true (by omega : (5 - ((k + 1 : Nat) : Int)) < 5), ite2_true]
    rw [Sort.partialIns_succ] at he
    unfold F185_j3
    have fin4 : ∀ (i : Nat) (d3 : Array T), lo < i → i ≤ hi → d3.size = n → Sort.partialIns (ltC cf) lo hi k i d3 = R →
        F185_j4 (some ⟨b, 0, none⟩) n c lo hi (.func (.func f) ⟨ga⟩ ⟨gb⟩) i (5 - ((k + 1 : Nat) : Int)) (HA hp0 b 9 sp (ssT en) d3) I K := by
      intro i d3 h1 h2 h3 h4
      unfold F185_j4
      have : IntKind.wrap .i64 (5 - ((k + 1 : Nat) : Int) + 1) = 5 - (k : Int) := by rw [w64 (by omega) (by omega)]; omega
      rw [this]
      exact hI k _ _ (by omega) ⟨i, d3, rfl, by omega, rfl, h3, h1, h2, h4⟩
    have fin6 : ∀ (i : Nat) (d2 : Array T), lo < i → i < hi → d2.size = n → Sort.partialIns (ltC cf) lo hi k i (Sort.fixUp (ltC cf) hi i d2) = R →
        F185_j6 (some ⟨b, 0, none⟩) n c lo hi (.func (.func f) ⟨ga⟩ ⟨gb⟩) i (5 - ((k + 1 : Nat) : Int)) (HA hp0 b 9 sp (ssT en) d2) I K := by
      intro i d2 h1 h2 h3 h4
      unfold F185_j6
      have v : IntKind.wrap .i64 ((hi : Int) - (i : Int)) = ((hi - i : Nat) : Int) := wi (by omega) (by omega)
      rw [v]
      unfold Sort.fixUp at h4
      by_cases h2' : hi - i ≥ 2
      · rw [if_pos h2'] at h4
        rw [decide_eq_true (by omega : ((hi - i : Nat) : Int) ≥ 2), ite2_true]
        unfold F185_j7
        have v1 : IntKind.wrap .i64 ((i : Int) + 1) = ((i + 1 : Nat) : Int) := wi (by omega) (by omega)
        rw [v1]
        refine LoopP.by (J := fun m (y : Int) hp => ∃ (j : Nat) (d3 : Array T), y = j ∧ hp = HA hp0 b 9 sp (ssT en) d3 ∧ d3.size = n ∧ i < j ∧ m = hi - j ∧ Sort.shiftUp (ltC cf) hi j d3 = Sort.shiftUp (ltC cf) hi (i + 1) d2) ?_
          (n := hi - (i + 1)) ⟨i + 1, d2, rfl, rfl, h3, by omega, rfl, rfl⟩
        rintro I8 m y hp ⟨j, d3, rfl, rfl, h5, h6, rfl, h7⟩ hI8
        unfold F185_l8
        rw [Sort.shiftUp] at h7
        by_cases hj : j < hi
        · rw [if_pos hj] at h7
          have v2 : IntKind.wrap .i64 ((j : Int) - 1) = ((j - 1 : Nat) : Int) := wi (by omega) (by omega)
          have v3 : IntKind.wrap .i64 ((j : Int) + 1) = ((j + 1 : Nat) : Int) := wi (by omega) (by omega)
          simp only [v2, v3]
          rw [decide_eq_true (by omega : (j : Int) < (hi : Int)), ite2_true]
          refine cmpP1 hc h5 (i := j) (j := j - 1) rfl rfl (by omega) (by omega) ?_
          have hl : decide (cf d3[j]! d3[j - 1]! < 0) = ltC cf d3[j]! d3[j - 1]! := rfl
          rw [hl]
          cases hlt : ltC cf d3[j]! d3[j - 1]!
          · rw [hlt] at h7
            simp only [Bool.not_false, if_true] at h7
            simp only [Bool.not_false, ite2_true]
            rw [← h7] at h4
            exact fin4 i d3 h1 (by omega) h5 h4
          · rw [hlt] at h7
            simp only [Bool.not_true, Bool.false_eq_true, if_false] at h7
            simp only [Bool.not_true, ite2_false]
            refine swapP1 h5 (i := j) (j := j - 1) rfl rfl (by omega) (by omega) ?_
            exact hI8 (hi - (j + 1)) _ _ (by omega) ⟨j + 1, _, rfl, rfl, by rw [swp_size]; exact h5, by omega, rfl, h7⟩
        · rw [if_neg hj] at h7
          rw [decide_eq_false (by omega : ¬ (j : Int) < (hi : Int)), ite2_false]
          rw [← h7] at h4
          exact fin4 i d3 h1 (by omega) h5 h4
      · rw [if_neg h2'] at h4
        rw [decide_eq_false (by omega : ¬ ((hi - i : Nat) : Int) ≥ 2), ite2_false]
        exact fin4 i d2 h1 (by omega) h3 h4
    have fin5 : ∀ (i : Nat), lo < i → i ≤ hi → Sort.scanSorted (ltC cf) d' hi i = i →
        (if i = hi then (d', true) else if hi - lo < 50 then (d', false) else Sort.partialIns (ltC cf) lo hi k i (Sort.fixUp (ltC cf) hi i (Sort.fixDown (ltC cf) lo i (Sort.swp d' i (i - 1))))) = R →
        F185_j5 (some ⟨b, 0, none⟩) n c lo hi (.func (.func f) ⟨ga⟩ ⟨gb⟩) i (5 - ((k + 1 : Nat) : Int)) (HA hp0 b 9 sp (ssT en) d') I K := by
      intro i h1 h2 _ h4
      unfold F185_j5
      by_cases hih : i = hi
      · rw [if_pos hih] at h4
        subst hih
        simp only [beq_self_eq_true, ite2_true]
        rw [← h4] at h
        exact h
      rw [if_neg hih] at h4
      have hb : ((i : Int) == (hi : Int)) = false := by
        rw [beq_eq_false_iff_ne]; omega
      rw [hb, ite2_false]
      have v : IntKind.wrap .i64 ((hi : Int) - (lo : Int)) = ((hi - lo : Nat) : Int) := wi (by omega) (by omega)
      rw [v]
      by_cases h50 : hi - lo < 50
      · rw [if_pos h50] at h4
        rw [decide_eq_true (by omega : ((hi - lo : Nat) : Int) < 50), ite2_true]
        rw [← h4] at h
        exact h
      rw [if_neg h50] at h4
      rw [decide_eq_false (by omega : ¬ ((hi - lo : Nat) : Int) < 50), ite2_false]
      have v2 : IntKind.wrap .i64 ((i : Int) - 1) = ((i - 1 : Nat) : Int) := wi (by omega) (by omega)
      have v3 : IntKind.wrap .i64 ((i : Int) - (lo : Int)) = ((i - lo : Nat) : Int) := wi (by omega) (by omega)
      simp only [v2, v3]
      refine swapP1 hs' (i := i) (j := i - 1) rfl rfl (by omega) (by omega) ?_
      have hs1 : (Sort.swp d' i (i - 1)).size = n := by rw [swp_size]; exact hs'
      generalize Sort.swp d' i (i - 1) = d1 at *
      unfold Sort.fixDown at h4
      by_cases hd : i - lo ≥ 2
      · rw [if_pos hd] at h4
        rw [decide_eq_true (by omega : ((i - lo : Nat) : Int) ≥ 2), ite2_true]
        unfold F185_j9
        refine LoopP.by (J := fun m (y : Int) hp => ∃ (d2 : Array T), y = m ∧ hp = HA hp0 b 9 sp (ssT en) d2 ∧ d2.size = n ∧ m < n ∧ Sort.shiftDown (ltC cf) m d2 = Sort.shiftDown (ltC cf) (i - 1) d1) ?_
          (n := i - 1) ⟨d1, rfl, rfl, hs1, by omega, rfl⟩
        rintro I10 m y hp ⟨d2, rfl, rfl, h5, h6, h7⟩ hI10
        unfold F185_l10
        cases m with
        | zero =>
          rw [Sort.shiftDown] at h7
          rw [decide_eq_false (by omega : ¬ ((0 : Nat) : Int) ≥ 1), ite2_false]
          rw [← h7] at h4
          exact fin6 i d2 h1 (by omega) h5 h4
        | succ m =>
          rw [Sort.shiftDown] at h7
          have v4 : IntKind.wrap .i64 (((m + 1 : Nat) : Int) - 1) = (m : Int) := wi (by omega) (by omega)
          simp only [v4]
          rw [decide_eq_true (by omega : ((m + 1 : Nat) : Int) ≥ 1), ite2_true]
          refine cmpP1 hc h5 (i := m + 1) (j := m) rfl rfl (by omega) (by omega) ?_
          have hl : decide (cf d2[m + 1]! d2[m]! < 0) = ltC cf d2[m + 1]! d2[m]! := rfl
          rw [hl]
          cases hlt : ltC cf d2[m + 1]! d2[m]!
          · rw [hlt] at h7
            simp only [Bool.not_false, if_true] at h7
            simp only [Bool.not_false, ite2_true]
            rw [← h7] at h4
            exact fin6 i d2 h1 (by omega) h5 h4
          · rw [hlt] at h7
            simp only [Bool.not_true, Bool.false_eq_true, if_false] at h7
            simp only [Bool.not_true, ite2_false]
            refine swapP1 h5 (i := m + 1) (j := m) rfl rfl (by omega) (by omega) ?_
            exact hI10 m _ _ (by omega) ⟨_, rfl, rfl, by rw [swp_size]; exact h5, by omega, h7⟩
      · rw [if_neg hd] at h4
        rw [decide_eq_false (by omega : ¬ ((i - lo : Nat) : Int) ≥ 2), ite2_false]
        exact fin6 i d1 h1 (by omega) hs1 h4
    refine LoopP.by (J := fun m (y : Int) hp => ∃ (i' : Nat), y = i' ∧ hp = HA hp0 b 9 sp (ssT en) d' ∧ lo < i' ∧ i' ≤ hi ∧ m = hi - i' ∧ Sort.scanSorted (ltC cf) d' hi i' = Sort.scanSorted (ltC cf) d' hi i) ?_
      (n := hi - i) ⟨i, rfl, rfl, hli, hih, rfl, rfl⟩
    rintro I11 m y hp ⟨i', rfl, rfl, h1, h2, rfl, h7⟩ hI11
    unfold F185_l11
    rw [← h7] at he
    have out : Sort.scanSorted (ltC cf) d' hi i' = i' → F185_j12 (some ⟨b, 0, none⟩) n c lo hi (.func (.func f) ⟨ga⟩ ⟨gb⟩) i' (5 - ((k + 1 : Nat) : Int)) false (HA hp0 b 9 sp (ssT en) d') I I11 K := by
      intro hq
      unfold F185_j12
      rw [ite2_false]
      rw [hq] at he
      exact fin5 i' h1 h2 hq he
    by_cases hj : i' < hi
    · have v2 : IntKind.wrap .i64 ((i' : Int) - 1) = ((i' - 1 : Nat) : Int) := wi (by omega) (by omega)
      simp only [v2]
      rw [decide_eq_true (by omega : (i' : Int) < (hi : Int)), ite2_true]
      refine cmpP1 hc hs' (i := i') (j := i' - 1) rfl rfl (by omega) (by omega) ?_
      have hl : decide (cf d'[i']! d'[i' - 1]! < 0) = ltC cf d'[i']! d'[i' - 1]! := rfl
      rw [hl]
      cases hlt : ltC cf d'[i']! d'[i' - 1]!
      · unfold F185_j12
        have v3 : IntKind.wrap .i64 ((i' : Int) + 1) = ((i' + 1 : Nat) : Int) := wi (by omega) (by omega)
        simp only [Bool.not_false, ite2_true, v3]
        refine hI11 (hi - (i' + 1)) _ _ (by omega) ⟨i' + 1, rfl, rfl, by omega, by omega, rfl, ?_⟩
        rw [← h7]
        rw [Sort.scanSorted.eq_def (ltC cf) d' hi i', hlt, decide_eq_true hj]
        simp
      · simp only [Bool.not_true]
        refine out ?_
        rw [Sort.scanSorted, hlt]
        simp
    · rw [decide_eq_false (by omega : ¬ (i' : Int) < (hi : Int)), ite2_false]
      refine out ?_
      rw [Sort.scanSorted, decide_eq_false hj]
      simp

end
end Go.Proofs

set_option linter.unusedVariables false
set_option maxRecDepth 20000
namespace Go.Proofs
open Go Go.HL
-- 186 slices.partitionEqualCmpFunc[string]
section
variable (e : Env) (x0a : Option Addr) (x0n x0c : Nat) (x1 x2 x3 : Int) (x4 : Value) (x11 x12 : Int) (hp : HP) (K : Env → PV → HP → Prop)
abbrev R186 (p : List Nat) (n : Nat) := RW Try.prog 90 [] (opsAt Try.f186 p) (List.range n)
theorem F186_r0 : R186 [0] 1 e V0 hp K =
    (K (upd e 10 (sI 0)) V0 hp) := by kernel_rfl
theorem F186_r1 : R186 [1, 0] 16 (upd (upd (upd e 3 (sI x3)) 1 (sI x1)) 0 (sS x0a x0n x0c)) V0 hp K =
    ((0 ≤ x3) ∧ (x3 < x0n) ∧ (ptrN x0a fun b1 o2 => (ldV (HP.cell hp b1 (o2 + Int.toNat x3 * 1)) fun v3 => (strV v3 fun s4 => ((0 ≤ x1) ∧ (x1 < x0n) ∧ (ptrN x0a fun b5 o6 => (ldV (HP.cell hp b5 (o6 + Int.toNat x1 * 1)) fun v7 => (strV v7 fun s8 => ((0 ≤ x1) ∧ (x1 < x0n) ∧ (ptrN x0a fun b9 o10 => (HP.st hp b9 (o10 + Int.toNat x1 * 1) (.string s4) fun h11 => ((0 ≤ x3) ∧ (x3 < x0n) ∧ (ptrN x0a fun b12 o13 => (HP.st h11 b12 (o13 + Int.toNat x3 * 1) (.string s8) fun h14 => (K (upd (upd (upd (upd (upd (upd (upd (upd (upd (upd (upd (upd (upd (upd (upd (upd (upd e 3 (sI x3)) 1 (sI x1)) 0 (sS x0a x0n x0c)) 13 (sS x0a x0n x0c)) 14 (sI x1)) 15 (sS x0a x0n x0c)) 16 (sI x3)) 17 (sS x0a x0n x0c)) 18 (sI x3)) 19 (sQ b1 (o2 + Int.toNat x3 * 1))) 20 (sV (.string s4))) 21 (sS x0a x0n x0c)) 22 (sI x1)) 23 (sQ b5 (o6 + Int.toNat x1 * 1))) 24 (sV (.string s8))) 25 (sQ b9 (o10 + Int.toNat x1 * 1))) 26 (sQ b12 (o13 + Int.toNat x3 * 1))) V0 h14))))))))))))))) := by kernel_rfl
theorem F186_r2 : R186 [1, 1, 1, 1, 0] 2 (upd e 11 (sI x11)) V0 hp K =
    (K (upd (upd (upd e 11 (sI x11)) 89 (sI x11)) 10 (sI x11)) V0 hp) := by kernel_rfl
def F186_j2 (x11 : Int) (hp : HP) (K : Value → HP → Prop) : Prop :=
  (K (.int .i64 x11) hp)
theorem F186_r3 : R186 [1, 1, 1, 0, 0, 0, 0, 1, 1, 0, 0] 3 (upd (upd e 12 (sI x12)) 11 (sI x11)) V0 hp K =
    (K (upd (upd (upd (upd (upd e 12 (sI x12)) 11 (sI x11)) 68 (sI x11)) 69 (sI x12)) 70 (sB (decide (x11 > x12)))) V0 hp) := by kernel_rfl
theorem F186_r4 : R186 [1, 1, 1, 0, 0, 0, 0, 1, 1, 1, 0] 16 (upd (upd (upd e 12 (sI x12)) 11 (sI x11)) 0 (sS x0a x0n x0c)) V0 hp K =
    ((0 ≤ x12) ∧ (x12 < x0n) ∧ (ptrN x0a fun b1 o2 => (ldV (HP.cell hp b1 (o2 + Int.toNat x12 * 1)) fun v3 => (strV v3 fun s4 => ((0 ≤ x11) ∧ (x11 < x0n) ∧ (ptrN x0a fun b5 o6 => (ldV (HP.cell hp b5 (o6 + Int.toNat x11 * 1)) fun v7 => (strV v7 fun s8 => ((0 ≤ x11) ∧ (x11 < x0n) ∧ (ptrN x0a fun b9 o10 => (HP.st hp b9 (o10 + Int.toNat x11 * 1) (.string s4) fun h11 => ((0 ≤ x12) ∧ (x12 < x0n) ∧ (ptrN x0a fun b12 o13 => (HP.st h11 b12 (o13 + Int.toNat x12 * 1) (.string s8) fun h14 => (K (upd (upd (upd (upd (upd (upd (upd (upd (upd (upd (upd (upd (upd (upd (upd (upd (upd e 12 (sI x12)) 11 (sI x11)) 0 (sS x0a x0n x0c)) 71 (sS x0a x0n x0c)) 72 (sI x11)) 73 (sS x0a x0n x0c)) 74 (sI x12)) 75 (sS x0a x0n x0c)) 76 (sI x12)) 77 (sQ b1 (o2 + Int.toNat x12 * 1))) 78 (sV (.string s4))) 79 (sS x0a x0n x0c)) 80 (sI x11)) 81 (sQ b5 (o6 + Int.toNat x11 * 1))) 82 (sV (.string s8))) 83 (sQ b9 (o10 + Int.toNat x11 * 1))) 84 (sQ b12 (o13 + Int.toNat x12 * 1))) V0 h14))))))))))))))) := by kernel_rfl
theorem F186_r5 : R186 [1, 1, 1, 0, 0, 0, 0, 1, 1, 1, 1, 0] 3 (upd e 11 (sI x11)) V0 hp K =
    (K (upd (upd (upd (upd e 11 (sI x11)) 85 (sI x11)) 86 (sI ((wr (x11 + 1))))) 11 (sI ((wr (x11 + 1))))) V0 hp) := by kernel_rfl
theorem F186_r6 : R186 [1, 1, 1, 0, 0, 0, 0, 1, 1, 1, 1, 1] 3 (upd e 12 (sI x12)) V0 hp K =
    (K (upd (upd (upd (upd e 12 (sI x12)) 87 (sI x12)) 88 (sI ((wr (x12 - 1))))) 12 (sI ((wr (x12 - 1))))) V0 hp) := by kernel_rfl
def F186_j5 (x0a : Option Addr) (x0n : Nat) (x0c : Nat) (x1 : Int) (x4 : Value) (x11 : Int) (x12 : Int) (hp : HP) (I3 : (Int × Int) → HP → Prop) (K : Value → HP → Prop) : Prop :=
  (ite2 (decide (x11 > x12)) (F186_j2 x11 hp  K) ((0 ≤ x12) ∧ (x12 < x0n) ∧ (ptrN x0a fun b_15 o_16 => (ldV (HP.cell hp b_15 (o_16 + Int.toNat x12 * 1)) fun v_17 => (strV v_17 fun s_18 => ((0 ≤ x11) ∧ (x11 < x0n) ∧ (ptrN x0a fun b_19 o_20 => (ldV (HP.cell hp b_19 (o_20 + Int.toNat x11 * 1)) fun v_21 => (strV v_21 fun s_22 => ((0 ≤ x11) ∧ (x11 < x0n) ∧ (ptrN x0a fun b_23 o_24 => (HP.st hp b_23 (o_24 + Int.toNat x11 * 1) (.string s_18) fun h_25 => ((0 ≤ x12) ∧ (x12 < x0n) ∧ (ptrN x0a fun b_26 o_27 => (HP.st h_25 b_26 (o_27 + Int.toNat x12 * 1) (.string s_22) fun h_28 => (I3 ((IntKind.wrap .i64 (x11 + 1)), (IntKind.wrap .i64 (x12 - 1))) h_28))))))))))))))))
theorem F186_r7 : R186 [1, 1, 1, 0, 0, 0, 0, 1, 0, 0, 0, 1, 0] 3 (upd e 12 (sI x12)) V0 hp K =
    (K (upd (upd (upd (upd e 12 (sI x12)) 66 (sI x12)) 67 (sI ((wr (x12 - 1))))) 12 (sI ((wr (x12 - 1))))) V0 hp) := by kernel_rfl
def F186_j7 (x0a : Option Addr) (x0n : Nat) (x0c : Nat) (x1 : Int) (x4 : Value) (x11 : Int) (x12 : Int) (x65 : Bool) (hp : HP) (I3 : (Int × Int) → HP → Prop) (I6 : (Int) → HP → Prop) (K : Value → HP → Prop) : Prop :=
  (ite2 x65 (I6 (IntKind.wrap .i64 (x12 - 1)) hp) (F186_j5 x0a x0n x0c x1 x4 x11 x12 hp I3 K))
theorem F186_r8 : R186 [1, 1, 1, 0, 0, 0, 0, 1, 0, 0, 0, 0, 0] 16 (upd (upd (upd (upd (upd e 12 (sI x12)) 11 (sI x11)) 4 (sV x4)) 1 (sI x1)) 0 (sS x0a x0n x0c)) V0 hp K =
    (ite2 (decide (x11 ≤ x12)) ((0 ≤ x1) ∧ (x1 < x0n) ∧ (ptrN x0a fun b1 o2 => (ldV (HP.cell hp b1 (o2 + Int.toNat x1 * 1)) fun v3 => (strV v3 fun s4 => ((0 ≤ x12) ∧ (x12 < x0n) ∧ (ptrN x0a fun b5 o6 => (ldV (HP.cell hp b5 (o6 + Int.toNat x12 * 1)) fun v7 => (strV v7 fun s8 => (fnV x4 fun f9 ga10 gb11 => (CF Try.prog f9 (ga10 ++ [(Value.string s4), (.string s8)] ++ gb11) hp fun u12 h13 => (intV u12 .i64 fun i14 => (K (upd (upd (upd (upd (upd (upd (upd (upd (upd (upd (upd (upd (upd (upd (upd (upd (upd (upd (upd (upd (upd e 12 (sI x12)) 11 (sI x11)) 4 (sV x4)) 1 (sI x1)) 0 (sS x0a x0n x0c)) 50 (sI x11)) 51 (sI x12)) 52 (sB (decide (x11 ≤ x12)))) 53 (sB true)) 54 (sV x4)) 55 (sS x0a x0n x0c)) 56 (sI x1)) 57 (sQ b1 (o2 + Int.toNat x1 * 1))) 58 (sV (.string s4))) 59 (sS x0a x0n x0c)) 60 (sI x12)) 61 (sQ b5 (o6 + Int.toNat x12 * 1))) 62 (sV (.string s8))) 63 (sI i14)) 64 (sB (decide (i14 < 0)))) 65 (sB (decide (i14 < 0)))) V0 h13)))))))))))) (K (upd (upd (upd (upd (upd (upd (upd (upd (upd (upd (upd (upd (upd (upd (upd (upd (upd (upd (upd (upd (upd e 12 (sI x12)) 11 (sI x11)) 4 (sV x4)) 1 (sI x1)) 0 (sS x0a x0n x0c)) 50 (sI x11)) 51 (sI x12)) 52 (sB (decide (x11 ≤ x12)))) 53 (sB false)) 54 sU) 55 sU) 56 sU) 57 sU) 58 sU) 59 sU) 60 sU) 61 sU) 62 sU) 63 sU) 64 sU) 65 (sB false)) V0 hp)) := by kernel_rfl
def F186_l6 (x0a : Option Addr) (x0n : Nat) (x0c : Nat) (x1 : Int) (x4 : Value) (x11 : Int) (I3 : (Int × Int) → HP → Prop) (K : Value → HP → Prop) (I6 : (Int) → HP → Prop) (x12 : Int) (hp : HP) : Prop :=
  (ite2 (decide (x11 ≤ x12)) ((0 ≤ x1) ∧ (x1 < x0n) ∧ (ptrN x0a fun b_29 o_30 => (ldV (HP.cell hp b_29 (o_30 + Int.toNat x1 * 1)) fun v_31 => (strV v_31 fun s_32 => ((0 ≤ x12) ∧ (x12 < x0n) ∧ (ptrN x0a fun b_33 o_34 => (ldV (HP.cell hp b_33 (o_34 + Int.toNat x12 * 1)) fun v_35 => (strV v_35 fun s_36 => (fnV x4 fun f_37 ga_38 gb_39 => (CF Try.prog f_37 (ga_38 ++ [(Value.string s_32), (.string s_36)] ++ gb_39) hp fun u_40 h_41 => (intV u_40 .i64 fun i_42 => (F186_j7 x0a x0n x0c x1 x4 x11 x12 (decide (i_42 < 0)) h_41 I3 I6 K)))))))))))) (F186_j7 x0a x0n x0c x1 x4 x11 x12 false hp I3 I6 K))
def F186_j4 (x0a : Option Addr) (x0n : Nat) (x0c : Nat) (x1 : Int) (x4 : Value) (x11 : Int) (x12 : Int) (hp : HP) (I3 : (Int × Int) → HP → Prop) (K : Value → HP → Prop) : Prop :=
  (LoopP (σ := Int) (fun I s hp => F186_l6 x0a x0n x0c x1 x4 x11 I3 K I s hp) x12 hp)
theorem F186_r9 : R186 [1, 1, 1, 0, 0, 0, 0, 0, 0, 0, 1, 0] 3 (upd e 11 (sI x11)) V0 hp K =
    (K (upd (upd (upd (upd e 11 (sI x11)) 48 (sI x11)) 49 (sI ((wr (x11 + 1))))) 11 (sI ((wr (x11 + 1))))) V0 hp) := by kernel_rfl
def F186_j9 (x0a : Option Addr) (x0n : Nat) (x0c : Nat) (x1 : Int) (x4 : Value) (x11 : Int) (x12 : Int) (x47 : Bool) (hp : HP) (I3 : (Int × Int) → HP → Prop) (I8 : (Int) → HP → Prop) (K : Value → HP → Prop) : Prop :=
  (ite2 x47 (I8 (IntKind.wrap .i64 (x11 + 1)) hp) (F186_j4 x0a x0n x0c x1 x4 x11 x12 hp I3 K))
theorem F186_r10 : R186 [1, 1, 1, 0, 0, 0, 0, 0, 0, 0, 0, 0] 17 (upd (upd (upd (upd (upd e 12 (sI x12)) 11 (sI x11)) 4 (sV x4)) 1 (sI x1)) 0 (sS x0a x0n x0c)) V0 hp K =
    (ite2 (decide (x11 ≤ x12)) ((0 ≤ x1) ∧ (x1 < x0n) ∧ (ptrN x0a fun b1 o2 => (ldV (HP.cell hp b1 (o2 + Int.toNat x1 * 1)) fun v3 => (strV v3 fun s4 => ((0 ≤ x11) ∧ (x11 < x0n) ∧ (ptrN x0a fun b5 o6 => (ldV (HP.cell hp b5 (o6 + Int.toNat x11 * 1)) fun v7 => (strV v7 fun s8 => (fnV x4 fun f9 ga10 gb11 => (CF Try.prog f9 (ga10 ++ [(Value.string s4), (.string s8)] ++ gb11) hp fun u12 h13 => (intV u12 .i64 fun i14 => (K (upd (upd (upd (upd (upd (upd (upd (upd (upd (upd (upd (upd (upd (upd (upd (upd (upd (upd (upd (upd (upd (upd e 12 (sI x12)) 11 (sI x11)) 4 (sV x4)) 1 (sI x1)) 0 (sS x0a x0n x0c)) 31 (sI x11)) 32 (sI x12)) 33 (sB (decide (x11 ≤ x12)))) 34 (sB true)) 35 (sV x4)) 36 (sS x0a x0n x0c)) 37 (sI x1)) 38 (sQ b1 (o2 + Int.toNat x1 * 1))) 39 (sV (.string s4))) 40 (sS x0a x0n x0c)) 41 (sI x11)) 42 (sQ b5 (o6 + Int.toNat x11 * 1))) 43 (sV (.string s8))) 44 (sI i14)) 45 (sB (decide (i14 < 0)))) 46 (sB ((!(decide (i14 < 0)))))) 47 (sB ((!(decide (i14 < 0)))))) V0 h13)))))))))))) (K (upd (upd (upd (upd (upd (upd (upd (upd (upd (upd (upd (upd (upd (upd (upd (upd (upd (upd (upd (upd (upd (upd e 12 (sI x12)) 11 (sI x11)) 4 (sV x4)) 1 (sI x1)) 0 (sS x0a x0n x0c)) 31 (sI x11)) 32 (sI x12)) 33 (sB (decide (x11 ≤ x12)))) 34 (sB false)) 35 sU) 36 sU) 37 sU) 38 sU) 39 sU) 40 sU) 41 sU) 42 sU) 43 sU) 44 sU) 45 sU) 46 sU) 47 (sB false)) V0 hp)) := by kernel_rfl
def F186_l8 (x0a : Option Addr) (x0n : Nat) (x0c : Nat) (x1 : Int) (x4 : Value) (x12 : Int) (I3 : (Int × Int) → HP → Prop) (K : Value → HP → Prop) (I8 : (Int) → HP → Prop) (x11 : Int) (hp : HP) : Prop :=
  (ite2 (decide (x11 ≤ x12)) ((0 ≤ x1) ∧ (x1 < x0n) ∧ (ptrN x0a fun b_43 o_44 => (ldV (HP.cell hp b_43 (o_44 + Int.toNat x1 * 1)) fun v_45 => (strV v_45 fun s_46 => ((0 ≤ x11) ∧ (x11 < x0n) ∧ (ptrN x0a fun b_47 o_48 => (ldV (HP.cell hp b_47 (o_48 + Int.toNat x11 * 1)) fun v_49 => (strV v_49 fun s_50 => (fnV x4 fun f_51 ga_52 gb_53 => (CF Try.prog f_51 (ga_52 ++ [(Value.string s_46), (.string s_50)] ++ gb_53) hp fun u_54 h_55 => (intV u_54 .i64 fun i_56 => (F186_j9 x0a x0n x0c x1 x4 x11 x12 (!(decide (i_56 < 0))) h_55 I3 I8 K)))))))))))) (F186_j9 x0a x0n x0c x1 x4 x11 x12 false hp I3 I8 K))
def F186_l3 (x0a : Option Addr) (x0n : Nat) (x0c : Nat) (x1 : Int) (x4 : Value) (K : Value → HP → Prop) (I3 : (Int × Int) → HP → Prop) (x11 : Int) (x12 : Int) (hp : HP) : Prop :=
  (LoopP (σ := Int) (fun I s hp => F186_l8 x0a x0n x0c x1 x4 x12 I3 K I s hp) x11 hp)
def F186_j1 (x0a : Option Addr) (x0n : Nat) (x0c : Nat) (x1 : Int) (x4 : Value) (x11 : Int) (x12 : Int) (hp : HP) (K : Value → HP → Prop) : Prop :=
  (LoopP (σ := Int × Int) (fun I s hp => F186_l3 x0a x0n x0c x1 x4  K I s.1 s.2 hp) (x11, x12) hp)
theorem F186_r11 : R186 [1, 1, 0] 6 (upd (upd e 2 (sI x2)) 1 (sI x1)) V0 hp K =
    (K (upd (upd (upd (upd (upd (upd (upd (upd e 2 (sI x2)) 1 (sI x1)) 27 (sI x1)) 28 (sI ((wr (x1 + 1))))) 29 (sI x2)) 30 (sI ((wr (x2 - 1))))) 11 (sI ((wr (x1 + 1))))) 12 (sI ((wr (x2 - 1))))) V0 hp) := by kernel_rfl
def F186 (x0a : Option Addr) (x0n : Nat) (x0c : Nat) (x1 : Int) (x2 : Int) (x3 : Int) (x4 : Value) (hp : HP) (K : Value → HP → Prop) : Prop :=
  ((0 ≤ x3) ∧ (x3 < x0n) ∧ (ptrN x0a fun b_1 o_2 => (ldV (HP.cell hp b_1 (o_2 + Int.toNat x3 * 1)) fun v_3 => (strV v_3 fun s_4 => ((0 ≤ x1) ∧ (x1 < x0n) ∧ (ptrN x0a fun b_5 o_6 => (ldV (HP.cell hp b_5 (o_6 + Int.toNat x1 * 1)) fun v_7 => (strV v_7 fun s_8 => ((0 ≤ x1) ∧ (x1 < x0n) ∧ (ptrN x0a fun b_9 o_10 => (HP.st hp b_9 (o_10 + Int.toNat x1 * 1) (.string s_4) fun h_11 => ((0 ≤ x3) ∧ (x3 < x0n) ∧ (ptrN x0a fun b_12 o_13 => (HP.st h_11 b_12 (o_13 + Int.toNat x3 * 1) (.string s_8) fun h_14 => (F186_j1 x0a x0n x0c x1 x4 (IntKind.wrap .i64 (x1 + 1)) (IntKind.wrap .i64 (x2 - 1)) h_14  K)))))))))))))))
noncomputable def F186_code : Code := (.seq (.region 0 (opsAt Try.f186 [0]) false) (.seq (.region 1 (opsAt Try.f186 [1, 0]) true) (.seq (.region 2 (opsAt Try.f186 [1, 1, 0]) false) (.seq (.block 0 (.loop (.block 1 (.seq (.block 2 (.loop (.seq (.seq (.region 3 (opsAt Try.f186 [1, 1, 1, 0, 0, 0, 0, 0, 0, 0, 0, 0]) true) (.cond (.tmp 47) .skip (.exit 2))) (.block 3 (.region 4 (opsAt Try.f186 [1, 1, 1, 0, 0, 0, 0, 0, 0, 0, 1, 0]) false))))) (.seq (.block 4 (.loop (.seq (.seq (.region 5 (opsAt Try.f186 [1, 1, 1, 0, 0, 0, 0, 1, 0, 0, 0, 0, 0]) true) (.cond (.tmp 65) .skip (.exit 4))) (.block 5 (.region 6 (opsAt Try.f186 [1, 1, 1, 0, 0, 0, 0, 1, 0, 0, 0, 1, 0]) false))))) (.seq (.seq (.region 7 (opsAt Try.f186 [1, 1, 1, 0, 0, 0, 0, 1, 1, 0, 0]) false) (.cond (.tmp 70) (.exit 0) .skip)) (.seq (.region 8 (opsAt Try.f186 [1, 1, 1, 0, 0, 0, 0, 1, 1, 1, 0]) true) (.seq (.region 9 (opsAt Try.f186 [1, 1, 1, 0, 0, 0, 0, 1, 1, 1, 1, 0]) false) (.region 10 (opsAt Try.f186 [1, 1, 1, 0, 0, 0, 0, 1, 1, 1, 1, 1]) false))))))))) (.seq (.region 11 (opsAt Try.f186 [1, 1, 1, 1, 0]) false) .ret)))))
theorem F186_body : Try.f186.body = some F186_code := by kernel_rfl
theorem F186_ok (x0a : Option Addr) (x0n : Nat) (x0c : Nat) (x1 : Int) (x2 : Int) (x3 : Int) (x4 : Value) (hp : HP) (K : Value → HP → Prop) (h : F186 x0a x0n x0c x1 x2 x3 x4 hp K) : CF Try.prog 186 [(.slice x0a x0n x0c), (.int .i64 x1), (.int .i64 x2), (.int .i64 x3), x4] hp K := by
 refine .inl ⟨by kernel_rfl, AC.intro (N := 90) Try.func186 F186_body rfl (Nat.le_of_ble_eq_true rfl) ?_⟩
 unfold F186 at h
 unfold F186_code
 refine AWP.seq' ?_
 refine AWP.rgn (F186_r0 (upd (upd (upd (upd (upd E0 4 (sV x4)) 3 (sI x3)) 2 (sI x2)) 1 (sI x1)) 0 (sS x0a x0n x0c))  hp _) ?_ (Ru 0 (Ru 1 (Ru 2 (Ru 3 (Ru 4 Rn))))) (Sc rfl (Sc rfl (Sc rfl (Sc rfl (Sc rfl Sn))))) Sn
 refine AWP.seq' ?_
 refine AWP.rgnD (by kernel_rfl) (by kernel_rfl) (F186_r1 (upd (upd E0 4 (sV x4)) 2 (sI x2)) x0a x0n x0c x1 x3 hp _) ?_ (Ru 0 (Ru 1 (Ru 3 (Ru 2 (Ru 4 Rn))))) (Sc rfl (Sc rfl (Sc rfl (Sc rfl (Sc rfl Sn))))) Sn
 refine ⟨h.1, h.2.1, mN h.2.2 (fun b_1 o_2 h => mV h (fun v_3 h => ms h (fun s_4 h => ⟨h.1, h.2.1, mN h.2.2 (fun b_5 o_6 h => mV h (fun v_7 h => ms h (fun s_8 h => ⟨h.1, h.2.1, mN h.2.2 (fun b_9 o_10 h => mw h (fun h_11 h => ⟨h.1, h.2.1, mN h.2.2 fun b_12 o_13 h => mw h fun h_14 h => ?_⟩))⟩)))⟩)))⟩
 refine AWP.seq (fun env pv hp => ∃ (x0a : Option Addr) (x0n : Nat) (x0c : Nat) (x1 : Int) (x4 : Value) (x11 : Int) (x12 : Int), Sub (upd (upd (upd (upd (upd E0 12 (sI x12)) 11 (sI x11)) 4 (sV x4)) 1 (sI x1)) 0 (sS x0a x0n x0c)) env ∧ Sub V0 pv ∧ (F186_j1 x0a x0n x0c x1 x4 x11 x12 hp  K)) ?_ ?_
 ·refine AWP.rgn (F186_r11 (upd (upd E0 4 (sV x4)) 0 (sS x0a x0n x0c)) x1 x2 h_14 _) ?_ (Ru 1 (Ru 2 (Ru 0 (Ru 4 Rn)))) (Sc rfl (Sc rfl (Sc rfl (Sc rfl Sn)))) Sn
  exact ⟨x0a, x0n, x0c, x1, x4, (wr (x1 + 1)), (wr (x2 - 1)), (Sc rfl (Sc rfl (Sc rfl (Sc rfl (Sc rfl Sn))))), Sn, h⟩
 ·rintro env pv hp ⟨x0a, x0n, x0c, x1, x4, x11, x12, he, hv, h⟩
  refine AWP.sub (env' := (upd (upd (upd (upd (upd E0 12 (sI x12)) 11 (sI x11)) 4 (sV x4)) 1 (sI x1)) 0 (sS x0a x0n x0c))) (pv' := V0) ?_ (Ru 0 (Ru 1 (Ru 4 (Ru 11 (Ru 12 Rn))))) he hv (HSub.refl _)
  clear he hv
  unfold F186_j1 at h
  refine AWP.seq (fun env pv hp => ∃ (x11 : Int), Sub (upd E0 11 (sI x11)) env ∧ Sub V0 pv ∧ (F186_j2 x11 hp  K)) ?_ ?_
  ·refine AWP.block ?_
   refine AWP.loop (σ := Int × Int) (fun I s hp => F186_l3 x0a x0n x0c x1 x4  K I s.1 s.2 hp) (fun s => (upd (upd (upd (upd (upd E0 12 (sI (s.2))) 11 (sI (s.1))) 4 (sV x4)) 1 (sI x1)) 0 (sS x0a x0n x0c))) (fun s => V0) (x11, x12) h (fun s => (Ru 0 (Ru 1 (Ru 4 (Ru 11 (Ru 12 Rn)))))) (Sc rfl (Sc rfl (Sc rfl (Sc rfl (Sc rfl Sn))))) Sn ?_
   intro I3 s hp h
   obtain ⟨x11, x12⟩ := s
   replace h : F186_l3 x0a x0n x0c x1 x4  K I3 x11 x12 hp := h
   unfold F186_l3 at h
   refine AWP.block ?_
   refine AWP.seq (fun env pv hp => ∃ (x11 : Int) (x12 : Int), Sub (upd (upd (upd (upd (upd E0 12 (sI x12)) 11 (sI x11)) 4 (sV x4)) 1 (sI x1)) 0 (sS x0a x0n x0c)) env ∧ Sub V0 pv ∧ (F186_j4 x0a x0n x0c x1 x4 x11 x12 hp I3 K)) ?_ ?_
   ·refine AWP.block ?_
    refine AWP.loop (σ := Int) (fun I s hp => F186_l8 x0a x0n x0c x1 x4 x12 I3 K I s hp) (fun s => (upd (upd (upd (upd (upd E0 12 (sI x12)) 11 (sI s)) 4 (sV x4)) 1 (sI x1)) 0 (sS x0a x0n x0c))) (fun s => V0) x11 h (fun s => (Ru 0 (Ru 1 (Ru 4 (Ru 11 (Ru 12 Rn)))))) (Sc rfl (Sc rfl (Sc rfl (Sc rfl (Sc rfl Sn))))) Sn ?_
    intro I8 s hp h
    obtain ⟨x11, hs⟩ : ∃ x, x = s := ⟨s, rfl⟩
    subst hs
    replace h : F186_l8 x0a x0n x0c x1 x4 x12 I3 K I8 x11 hp := h
    unfold F186_l8 at h
    refine AWP.seq' ?_
    refine AWP.seq (fun env pv hp => ∃ (x11 : Int) (x47 : Bool), Sub (upd (upd (upd (upd (upd (upd E0 47 (sB x47)) 12 (sI x12)) 11 (sI x11)) 4 (sV x4)) 1 (sI x1)) 0 (sS x0a x0n x0c)) env ∧ Sub V0 pv ∧ (F186_j9 x0a x0n x0c x1 x4 x11 x12 x47 hp I3 I8 K)) ?_ ?_
    ·refine AWP.rgnD (by kernel_rfl) (by kernel_rfl) (F186_r10 E0 x0a x0n x0c x1 x4 x11 x12 hp _) ?_ (Ru 0 (Ru 1 (Ru 4 (Ru 11 (Ru 12 Rn))))) (Sc rfl (Sc rfl (Sc rfl (Sc rfl (Sc rfl Sn))))) Sn
     refine mt h (fun h => ?_) (fun h => ?_)
     ·refine ⟨h.1, h.2.1, mN h.2.2 (fun b_43 o_44 h => mV h (fun v_45 h => ms h (fun s_46 h => ⟨h.1, h.2.1, mN h.2.2 fun b_47 o_48 h => mV h fun v_49 h => ms h fun s_50 h => mF h fun f_51 ga_52 gb_53 h => mC h fun u_54 h_55 h => mI h fun i_56 h => ?_⟩)))⟩
      exact ⟨x11, (!(decide (i_56 < 0))), (Sc rfl (Sc rfl (Sc rfl (Sc rfl (Sc rfl (Sc rfl Sn)))))), Sn, h⟩
     ·exact ⟨x11, false, (Sc rfl (Sc rfl (Sc rfl (Sc rfl (Sc rfl (Sc rfl Sn)))))), Sn, h⟩
    ·rintro env pv hp ⟨x11, x47, he, hv, h⟩
     refine AWP.sub (env' := (upd (upd (upd (upd (upd (upd E0 47 (sB x47)) 12 (sI x12)) 11 (sI x11)) 4 (sV x4)) 1 (sI x1)) 0 (sS x0a x0n x0c))) (pv' := V0) ?_ (Ru 0 (Ru 1 (Ru 4 (Ru 11 (Ru 12 (Ru 47 Rn)))))) he hv (HSub.refl _)
     clear he hv
     unfold F186_j9 at h
     refine AWP.cond (t := x47) rfl (fun e => ?_) (fun e => ?_)
     ·replace h := ite2_t h e
      refine AWP.skip ?_
      refine AWP.block ?_
      refine AWP.rgn (F186_r9 (upd (upd (upd (upd E0 12 (sI x12)) 4 (sV x4)) 1 (sI x1)) 0 (sS x0a x0n x0c)) x11 hp _) ?_ (Ru 11 (Ru 0 (Ru 1 (Ru 4 (Ru 12 Rn))))) (Sc rfl (Sc rfl (Sc rfl (Sc rfl (Sc rfl Sn))))) Sn
      exact ⟨(wr (x11 + 1)), (Sc rfl (Sc rfl (Sc rfl (Sc rfl (Sc rfl Sn))))), Sn, h⟩
     ·replace h := ite2_f h e
      refine AWP.exit ?_
      exact ⟨x11, x12, (Sc rfl (Sc rfl (Sc rfl (Sc rfl (Sc rfl Sn))))), Sn, h⟩
   ·rintro env pv hp ⟨x11, x12, he, hv, h⟩
    refine AWP.sub (env' := (upd (upd (upd (upd (upd E0 12 (sI x12)) 11 (sI x11)) 4 (sV x4)) 1 (sI x1)) 0 (sS x0a x0n x0c))) (pv' := V0) ?_ (Ru 0 (Ru 1 (Ru 4 (Ru 11 (Ru 12 Rn))))) he hv (HSub.refl _)
    clear he hv
    unfold F186_j4 at h
    refine AWP.seq (fun env pv hp => ∃ (x11 : Int) (x12 : Int), Sub (upd (upd (upd (upd (upd E0 12 (sI x12)) 11 (sI x11)) 4 (sV x4)) 1 (sI x1)) 0 (sS x0a x0n x0c)) env ∧ Sub V0 pv ∧ (F186_j5 x0a x0n x0c x1 x4 x11 x12 hp I3 K)) ?_ ?_
    ·refine AWP.block ?_
     refine AWP.loop (σ := Int) (fun I s hp => F186_l6 x0a x0n x0c x1 x4 x11 I3 K I s hp) (fun s => (upd (upd (upd (upd (upd E0 12 (sI s)) 11 (sI x11)) 4 (sV x4)) 1 (sI x1)) 0 (sS x0a x0n x0c))) (fun s => V0) x12 h (fun s => (Ru 0 (Ru 1 (Ru 4 (Ru 11 (Ru 12 Rn)))))) (Sc rfl (Sc rfl (Sc rfl (Sc rfl (Sc rfl Sn))))) Sn ?_
     intro I6 s hp h
     obtain ⟨x12, hs⟩ : ∃ x, x = s := ⟨s, rfl⟩
     subst hs
     replace h : F186_l6 x0a x0n x0c x1 x4 x11 I3 K I6 x12 hp := h
     unfold F186_l6 at h
     refine AWP.seq' ?_
     refine AWP.seq (fun env pv hp => ∃ (x12 : Int) (x65 : Bool), Sub (upd (upd (upd (upd (upd (upd E0 65 (sB x65)) 12 (sI x12)) 11 (sI x11)) 4 (sV x4)) 1 (sI x1)) 0 (sS x0a x0n x0c)) env ∧ Sub V0 pv ∧ (F186_j7 x0a x0n x0c x1 x4 x11 x12 x65 hp I3 I6 K)) ?_ ?_
     ·refine AWP.rgnD (by kernel_rfl) (by kernel_rfl) (F186_r8 E0 x0a x0n x0c x1 x4 x11 x12 hp _) ?_ (Ru 0 (Ru 1 (Ru 4 (Ru 11 (Ru 12 Rn))))) (Sc rfl (Sc rfl (Sc rfl (Sc rfl (Sc rfl Sn))))) Sn
      refine mt h (fun h => ?_) (fun h => ?_)
      ·refine ⟨h.1, h.2.1, mN h.2.2 (fun b_29 o_30 h => mV h (fun v_31 h => ms h (fun s_32 h => ⟨h.1, h.2.1, mN h.2.2 fun b_33 o_34 h => mV h fun v_35 h => ms h fun s_36 h => mF h fun f_37 ga_38 gb_39 h => mC h fun u_40 h_41 h => mI h fun i_42 h => ?_⟩)))⟩
       exact ⟨x12, (decide (i_42 < 0)), (Sc rfl (Sc rfl (Sc rfl (Sc rfl (Sc rfl (Sc rfl Sn)))))), Sn, h⟩
      ·exact ⟨x12, false, (Sc rfl (Sc rfl (Sc rfl (Sc rfl (Sc rfl (Sc rfl Sn)))))), Sn, h⟩
     ·rintro env pv hp ⟨x12, x65, he, hv, h⟩
      refine AWP.sub (env' := (upd (upd (upd (upd (upd (upd E0 65 (sB x65)) 12 (sI x12)) 11 (sI x11)) 4 (sV x4)) 1 (sI x1)) 0 (sS x0a x0n x0c))) (pv' := V0) ?_ (Ru 0 (Ru 1 (Ru 4 (Ru 11 (Ru 12 (Ru 65 Rn)))))) he hv (HSub.refl _)
      clear he hv
      unfold F186_j7 at h
      refine AWP.cond (t := x65) rfl (fun e => ?_) (fun e => ?_)
      ·replace h := ite2_t h e
       refine AWP.skip ?_
       refine AWP.block ?_
       refine AWP.rgn (F186_r7 (upd (upd (upd (upd E0 11 (sI x11)) 4 (sV x4)) 1 (sI x1)) 0 (sS x0a x0n x0c)) x12 hp _) ?_ (Ru 12 (Ru 0 (Ru 1 (Ru 4 (Ru 11 Rn))))) (Sc rfl (Sc rfl (Sc rfl (Sc rfl (Sc rfl Sn))))) Sn
       exact ⟨(wr (x12 - 1)), (Sc rfl (Sc rfl (Sc rfl (Sc rfl (Sc rfl Sn))))), Sn, h⟩
      ·replace h := ite2_f h e
       refine AWP.exit ?_
       exact ⟨x11, x12, (Sc rfl (Sc rfl (Sc rfl (Sc rfl (Sc rfl Sn))))), Sn, h⟩
    ·rintro env pv hp ⟨x11, x12, he, hv, h⟩
     refine AWP.sub (env' := (upd (upd (upd (upd (upd E0 12 (sI x12)) 11 (sI x11)) 4 (sV x4)) 1 (sI x1)) 0 (sS x0a x0n x0c))) (pv' := V0) ?_ (Ru 0 (Ru 1 (Ru 4 (Ru 11 (Ru 12 Rn))))) he hv (HSub.refl _)
     clear he hv
     unfold F186_j5 at h
     refine AWP.seq' ?_
     refine AWP.seq' ?_
     refine AWP.rgn (F186_r3 (upd (upd (upd E0 4 (sV x4)) 1 (sI x1)) 0 (sS x0a x0n x0c)) x11 x12 hp _) ?_ (Ru 11 (Ru 12 (Ru 0 (Ru 1 (Ru 4 Rn))))) (Sc rfl (Sc rfl (Sc rfl (Sc rfl (Sc rfl Sn))))) Sn
     refine AWP.cond (t := (decide (x11 > x12))) rfl (fun e => ?_) (fun e => ?_)
     ·replace h := ite2_t h e
      refine AWP.exit ?_
      exact ⟨x11, (Sc rfl Sn), Sn, h⟩
     ·replace h := ite2_f h e
      refine AWP.skip ?_
      refine AWP.seq' ?_
      refine AWP.rgnD (by kernel_rfl) (by kernel_rfl) (F186_r4 (upd (upd E0 4 (sV x4)) 1 (sI x1)) x0a x0n x0c x11 x12 hp _) ?_ (Ru 0 (Ru 11 (Ru 12 (Ru 1 (Ru 4 Rn))))) (Sc rfl (Sc rfl (Sc rfl (Sc rfl (Sc rfl Sn))))) Sn
      refine ⟨h.1, h.2.1, mN h.2.2 (fun b_15 o_16 h => mV h (fun v_17 h => ms h (fun s_18 h => ⟨h.1, h.2.1, mN h.2.2 (fun b_19 o_20 h => mV h (fun v_21 h => ms h (fun s_22 h => ⟨h.1, h.2.1, mN h.2.2 (fun b_23 o_24 h => mw h (fun h_25 h => ⟨h.1, h.2.1, mN h.2.2 fun b_26 o_27 h => mw h fun h_28 h => ?_⟩))⟩)))⟩)))⟩
      refine AWP.seq' ?_
      refine AWP.rgn (F186_r5 (upd (upd (upd (upd E0 12 (sI x12)) 4 (sV x4)) 1 (sI x1)) 0 (sS x0a x0n x0c)) x11 h_28 _) ?_ (Ru 11 (Ru 0 (Ru 1 (Ru 4 (Ru 12 Rn))))) (Sc rfl (Sc rfl (Sc rfl (Sc rfl (Sc rfl Sn))))) Sn
      refine AWP.rgn (F186_r6 (upd (upd (upd (upd E0 11 (sI ((wr (x11 + 1))))) 4 (sV x4)) 1 (sI x1)) 0 (sS x0a x0n x0c)) x12 h_28 _) ?_ (Ru 12 (Ru 0 (Ru 1 (Ru 4 (Ru 11 Rn))))) (Sc rfl (Sc rfl (Sc rfl (Sc rfl (Sc rfl Sn))))) Sn
      exact ⟨((wr (x11 + 1)), (wr (x12 - 1))), (Sc rfl (Sc rfl (Sc rfl (Sc rfl (Sc rfl Sn))))), Sn, h⟩
  ·rintro env pv hp ⟨x11, he, hv, h⟩
   refine AWP.sub (env' := (upd E0 11 (sI x11))) (pv' := V0) ?_ (Ru 11 Rn) he hv (HSub.refl _)
   clear he hv
   unfold F186_j2 at h
   refine AWP.seq' ?_
   refine AWP.rgn (F186_r2 E0 x11 hp _) ?_ (Ru 11 Rn) (Sc rfl Sn) Sn
   refine AWP.ret ?_
   exact h
end
-- 187 slices.partitionCmpFunc[string]
section
variable (e : Env) (x0a : Option Addr) (x0n x0c : Nat) (x1 x2 x3 : Int) (x4 : Value) (x12 x13 : Int) (hp : HP) (K : Env → PV → HP → Prop)
abbrev R187 (p : List Nat) (n : Nat) := RW Try.prog 178 [] (opsAt Try.f187 p) (List.range n)
theorem F187_r0 : R187 [0] 2 e V0 hp K =
    (K (upd (upd e 10 (sI 0)) 11 (sB false)) V0 hp) := by kernel_rfl
theorem F187_r1 : R187 [1, 0] 16 (upd (upd (upd e 3 (sI x3)) 1 (sI x1)) 0 (sS x0a x0n x0c)) V0 hp K =
    ((0 ≤ x3) ∧ (x3 < x0n) ∧ (ptrN x0a fun b1 o2 => (ldV (HP.cell hp b1 (o2 + Int.toNat x3 * 1)) fun v3 => (strV v3 fun s4 => ((0 ≤ x1) ∧ (x1 < x0n) ∧ (ptrN x0a fun b5 o6 => (ldV (HP.cell hp b5 (o6 + Int.toNat x1 * 1)) fun v7 => (strV v7 fun s8 => ((0 ≤ x1) ∧ (x1 < x0n) ∧ (ptrN x0a fun b9 o10 => (HP.st hp b9 (o10 + Int.toNat x1 * 1) (.string s4) fun h11 => ((0 ≤ x3) ∧ (x3 < x0n) ∧ (ptrN x0a fun b12 o13 => (HP.st h11 b12 (o13 + Int.toNat x3 * 1) (.string s8) fun h14 => (K (upd (upd (upd (upd (upd (upd (upd (upd (upd (upd (upd (upd (upd (upd (upd (upd (upd e 3 (sI x3)) 1 (sI x1)) 0 (sS x0a x0n x0c)) 14 (sS x0a x0n x0c)) 15 (sI x1)) 16 (sS x0a x0n x0c)) 17 (sI x3)) 18 (sS x0a x0n x0c)) 19 (sI x3)) 20 (sQ b1 (o2 + Int.toNat x3 * 1))) 21 (sV (.string s4))) 22 (sS x0a x0n x0c)) 23 (sI x1)) 24 (sQ b5 (o6 + Int.toNat x1 * 1))) 25 (sV (.string s8))) 26 (sQ b9 (o10 + Int.toNat x1 * 1))) 27 (sQ b12 (o13 + Int.toNat x3 * 1))) V0 h14))))))))))))))) := by kernel_rfl
theorem F187_r2 : R187 [1, 1, 1, 1, 1, 0, 0] 3 (upd (upd e 13 (sI x13)) 12 (sI x12)) V0 hp K =
    (K (upd (upd (upd (upd (upd e 13 (sI x13)) 12 (sI x12)) 69 (sI x12)) 70 (sI x13)) 71 (sB (decide (x12 > x13)))) V0 hp) := by kernel_rfl
theorem F187_r3 : R187 [1, 1, 1, 1, 1, 0, 1, 0, 0] 16 (upd (upd (upd e 13 (sI x13)) 1 (sI x1)) 0 (sS x0a x0n x0c)) V0 hp K =
    ((0 ≤ x1) ∧ (x1 < x0n) ∧ (ptrN x0a fun b1 o2 => (ldV (HP.cell hp b1 (o2 + Int.toNat x1 * 1)) fun v3 => (strV v3 fun s4 => ((0 ≤ x13) ∧ (x13 < x0n) ∧ (ptrN x0a fun b5 o6 => (ldV (HP.cell hp b5 (o6 + Int.toNat x13 * 1)) fun v7 => (strV v7 fun s8 => ((0 ≤ x13) ∧ (x13 < x0n) ∧ (ptrN x0a fun b9 o10 => (HP.st hp b9 (o10 + Int.toNat x13 * 1) (.string s4) fun h11 => ((0 ≤ x1) ∧ (x1 < x0n) ∧ (ptrN x0a fun b12 o13 => (HP.st h11 b12 (o13 + Int.toNat x1 * 1) (.string s8) fun h14 => (K (upd (upd (upd (upd (upd (upd (upd (upd (upd (upd (upd (upd (upd (upd (upd (upd (upd e 13 (sI x13)) 1 (sI x1)) 0 (sS x0a x0n x0c)) 72 (sS x0a x0n x0c)) 73 (sI x13)) 74 (sS x0a x0n x0c)) 75 (sI x1)) 76 (sS x0a x0n x0c)) 77 (sI x1)) 78 (sQ b1 (o2 + Int.toNat x1 * 1))) 79 (sV (.string s4))) 80 (sS x0a x0n x0c)) 81 (sI x13)) 82 (sQ b5 (o6 + Int.toNat x13 * 1))) 83 (sV (.string s8))) 84 (sQ b9 (o10 + Int.toNat x13 * 1))) 85 (sQ b12 (o13 + Int.toNat x1 * 1))) V0 h14))))))))))))))) := by kernel_rfl
theorem F187_r4 : R187 [1, 1, 1, 1, 1, 0, 1, 0, 1, 0] 3 (upd e 13 (sI x13)) V0 hp K =
    (K (upd (upd (upd (upd e 13 (sI x13)) 86 (sI x13)) 10 (sI x13)) 11 (sB true)) V0 hp) := by kernel_rfl
theorem F187_r5 : R187 [1, 1, 1, 1, 1, 1, 0] 16 (upd (upd (upd e 13 (sI x13)) 12 (sI x12)) 0 (sS x0a x0n x0c)) V0 hp K =
    ((0 ≤ x13) ∧ (x13 < x0n) ∧ (ptrN x0a fun b1 o2 => (ldV (HP.cell hp b1 (o2 + Int.toNat x13 * 1)) fun v3 => (strV v3 fun s4 => ((0 ≤ x12) ∧ (x12 < x0n) ∧ (ptrN x0a fun b5 o6 => (ldV (HP.cell hp b5 (o6 + Int.toNat x12 * 1)) fun v7 => (strV v7 fun s8 => ((0 ≤ x12) ∧ (x12 < x0n) ∧ (ptrN x0a fun b9 o10 => (HP.st hp b9 (o10 + Int.toNat x12 * 1) (.string s4) fun h11 => ((0 ≤ x13) ∧ (x13 < x0n) ∧ (ptrN x0a fun b12 o13 => (HP.st h11 b12 (o13 + Int.toNat x13 * 1) (.string s8) fun h14 => (K (upd (upd (upd (upd (upd (upd (upd (upd (upd (upd (upd (upd (upd (upd (upd (upd (upd e 13 (sI x13)) 12 (sI x12)) 0 (sS x0a x0n x0c)) 87 (sS x0a x0n x0c)) 88 (sI x12)) 89 (sS x0a x0n x0c)) 90 (sI x13)) 91 (sS x0a x0n x0c)) 92 (sI x13)) 93 (sQ b1 (o2 + Int.toNat x13 * 1))) 94 (sV (.string s4))) 95 (sS x0a x0n x0c)) 96 (sI x12)) 97 (sQ b5 (o6 + Int.toNat x12 * 1))) 98 (sV (.string s8))) 99 (sQ b9 (o10 + Int.toNat x12 * 1))) 100 (sQ b12 (o13 + Int.toNat x13 * 1))) V0 h14))))))))))))))) := by kernel_rfl
theorem F187_r6 : R187 [1, 1, 1, 1, 1, 1, 1, 0] 3 (upd e 12 (sI x12)) V0 hp K =
    (K (upd (upd (upd (upd e 12 (sI x12)) 101 (sI x12)) 102 (sI ((wr (x12 + 1))))) 12 (sI ((wr (x12 + 1))))) V0 hp) := by kernel_rfl
theorem F187_r7 : R187 [1, 1, 1, 1, 1, 1, 1, 1, 1, 1, 0] 16 (upd (upd (upd e 13 (sI x13)) 1 (sI x1)) 0 (sS x0a x0n x0c)) V0 hp K =
    ((0 ≤ x1) ∧ (x1 < x0n) ∧ (ptrN x0a fun b1 o2 => (ldV (HP.cell hp b1 (o2 + Int.toNat x1 * 1)) fun v3 => (strV v3 fun s4 => ((0 ≤ x13) ∧ (x13 < x0n) ∧ (ptrN x0a fun b5 o6 => (ldV (HP.cell hp b5 (o6 + Int.toNat x13 * 1)) fun v7 => (strV v7 fun s8 => ((0 ≤ x13) ∧ (x13 < x0n) ∧ (ptrN x0a fun b9 o10 => (HP.st hp b9 (o10 + Int.toNat x13 * 1) (.string s4) fun h11 => ((0 ≤ x1) ∧ (x1 < x0n) ∧ (ptrN x0a fun b12 o13 => (HP.st h11 b12 (o13 + Int.toNat x1 * 1) (.string s8) fun h14 => (K (upd (upd (upd (upd (upd (upd (upd (upd (upd (upd (upd (upd (upd (upd (upd (upd (upd e 13 (sI x13)) 1 (sI x1)) 0 (sS x0a x0n x0c)) 163 (sS x0a x0n x0c)) 164 (sI x13)) 165 (sS x0a x0n x0c)) 166 (sI x1)) 167 (sS x0a x0n x0c)) 168 (sI x1)) 169 (sQ b1 (o2 + Int.toNat x1 * 1))) 170 (sV (.string s4))) 171 (sS x0a x0n x0c)) 172 (sI x13)) 173 (sQ b5 (o6 + Int.toNat x13 * 1))) 174 (sV (.string s8))) 175 (sQ b9 (o10 + Int.toNat x13 * 1))) 176 (sQ b12 (o13 + Int.toNat x1 * 1))) V0 h14))))))))))))))) := by kernel_rfl
theorem F187_r8 : R187 [1, 1, 1, 1, 1, 1, 1, 1, 1, 1, 1, 0] 3 (upd e 13 (sI x13)) V0 hp K =
    (K (upd (upd (upd (upd e 13 (sI x13)) 177 (sI x13)) 10 (sI x13)) 11 (sB false)) V0 hp) := by kernel_rfl
def F187_j5 (x0a : Option Addr) (x0n : Nat) (x0c : Nat) (x1 : Int) (x13 : Int) (hp : HP) (K : Value → HP → Prop) : Prop :=
  ((0 ≤ x1) ∧ (x1 < x0n) ∧ (ptrN x0a fun b_43 o_44 => (ldV (HP.cell hp b_43 (o_44 + Int.toNat x1 * 1)) fun v_45 => (strV v_45 fun s_46 => ((0 ≤ x13) ∧ (x13 < x0n) ∧ (ptrN x0a fun b_47 o_48 => (ldV (HP.cell hp b_47 (o_48 + Int.toNat x13 * 1)) fun v_49 => (strV v_49 fun s_50 => ((0 ≤ x13) ∧ (x13 < x0n) ∧ (ptrN x0a fun b_51 o_52 => (HP.st hp b_51 (o_52 + Int.toNat x13 * 1) (.string s_46) fun h_53 => ((0 ≤ x1) ∧ (x1 < x0n) ∧ (ptrN x0a fun b_54 o_55 => (HP.st h_53 b_54 (o_55 + Int.toNat x1 * 1) (.string s_50) fun h_56 => (K (.tuple ⟨[(.int .i64 x13), .bool false]⟩) h_56)))))))))))))))
theorem F187_r9 : R187 [1, 1, 1, 1, 1, 1, 1, 1, 1, 0, 0, 0, 0, 1, 1, 0, 0] 3 (upd (upd e 13 (sI x13)) 12 (sI x12)) V0 hp K =
    (K (upd (upd (upd (upd (upd e 13 (sI x13)) 12 (sI x12)) 142 (sI x12)) 143 (sI x13)) 144 (sB (decide (x12 > x13)))) V0 hp) := by kernel_rfl
theorem F187_r10 : R187 [1, 1, 1, 1, 1, 1, 1, 1, 1, 0, 0, 0, 0, 1, 1, 1, 0] 16 (upd (upd (upd e 13 (sI x13)) 12 (sI x12)) 0 (sS x0a x0n x0c)) V0 hp K =
    ((0 ≤ x13) ∧ (x13 < x0n) ∧ (ptrN x0a fun b1 o2 => (ldV (HP.cell hp b1 (o2 + Int.toNat x13 * 1)) fun v3 => (strV v3 fun s4 => ((0 ≤ x12) ∧ (x12 < x0n) ∧ (ptrN x0a fun b5 o6 => (ldV (HP.cell hp b5 (o6 + Int.toNat x12 * 1)) fun v7 => (strV v7 fun s8 => ((0 ≤ x12) ∧ (x12 < x0n) ∧ (ptrN x0a fun b9 o10 => (HP.st hp b9 (o10 + Int.toNat x12 * 1) (.string s4) fun h11 => ((0 ≤ x13) ∧ (x13 < x0n) ∧ (ptrN x0a fun b12 o13 => (HP.st h11 b12 (o13 + Int.toNat x13 * 1) (.string s8) fun h14 => (K (upd (upd (upd (upd (upd (upd (upd (upd (upd (upd (upd (upd (upd (upd (upd (upd (upd e 13 (sI x13)) 12 (sI x12)) 0 (sS x0a x0n x0c)) 145 (sS x0a x0n x0c)) 146 (sI x12)) 147 (sS x0a x0n x0c)) 148 (sI x13)) 149 (sS x0a x0n x0c)) 150 (sI x13)) 151 (sQ b1 (o2 + Int.toNat x13 * 1))) 152 (sV (.string s4))) 153 (sS x0a x0n x0c)) 154 (sI x12)) 155 (sQ b5 (o6 + Int.toNat x12 * 1))) 156 (sV (.string s8))) 157 (sQ b9 (o10 + Int.toNat x12 * 1))) 158 (sQ b12 (o13 + Int.toNat x13 * 1))) V0 h14))))))))))))))) := by kernel_rfl
theorem F187_r11 : R187 [1, 1, 1, 1, 1, 1, 1, 1, 1, 0, 0, 0, 0, 1, 1, 1, 1, 0] 3 (upd e 12 (sI x12)) V0 hp K =
    (K (upd (upd (upd (upd e 12 (sI x12)) 159 (sI x12)) 160 (sI ((wr (x12 + 1))))) 12 (sI ((wr (x12 + 1))))) V0 hp) := by kernel_rfl
theorem F187_r12 : R187 [1, 1, 1, 1, 1, 1, 1, 1, 1, 0, 0, 0, 0, 1, 1, 1, 1, 1] 3 (upd e 13 (sI x13)) V0 hp K =
    (K (upd (upd (upd (upd e 13 (sI x13)) 161 (sI x13)) 162 (sI ((wr (x13 - 1))))) 13 (sI ((wr (x13 - 1))))) V0 hp) := by kernel_rfl
def F187_j8 (x0a : Option Addr) (x0n : Nat) (x0c : Nat) (x1 : Int) (x4 : Value) (x12 : Int) (x13 : Int) (hp : HP) (I6 : (Int × Int) → HP → Prop) (K : Value → HP → Prop) : Prop :=
  (ite2 (decide (x12 > x13)) (F187_j5 x0a x0n x0c x1 x13 hp  K) ((0 ≤ x13) ∧ (x13 < x0n) ∧ (ptrN x0a fun b_57 o_58 => (ldV (HP.cell hp b_57 (o_58 + Int.toNat x13 * 1)) fun v_59 => (strV v_59 fun s_60 => ((0 ≤ x12) ∧ (x12 < x0n) ∧ (ptrN x0a fun b_61 o_62 => (ldV (HP.cell hp b_61 (o_62 + Int.toNat x12 * 1)) fun v_63 => (strV v_63 fun s_64 => ((0 ≤ x12) ∧ (x12 < x0n) ∧ (ptrN x0a fun b_65 o_66 => (HP.st hp b_65 (o_66 + Int.toNat x12 * 1) (.string s_60) fun h_67 => ((0 ≤ x13) ∧ (x13 < x0n) ∧ (ptrN x0a fun b_68 o_69 => (HP.st h_67 b_68 (o_69 + Int.toNat x13 * 1) (.string s_64) fun h_70 => (I6 ((IntKind.wrap .i64 (x12 + 1)), (IntKind.wrap .i64 (x13 - 1))) h_70))))))))))))))))
theorem F187_r13 : R187 [1, 1, 1, 1, 1, 1, 1, 1, 1, 0, 0, 0, 0, 1, 0, 0, 0, 1, 0] 3 (upd e 13 (sI x13)) V0 hp K =
    (K (upd (upd (upd (upd e 13 (sI x13)) 140 (sI x13)) 141 (sI ((wr (x13 - 1))))) 13 (sI ((wr (x13 - 1))))) V0 hp) := by kernel_rfl
def F187_j10 (x0a : Option Addr) (x0n : Nat) (x0c : Nat) (x1 : Int) (x4 : Value) (x12 : Int) (x13 : Int) (x139 : Bool) (hp : HP) (I6 : (Int × Int) → HP → Prop) (I9 : (Int) → HP → Prop) (K : Value → HP → Prop) : Prop :=
  (ite2 x139 (I9 (IntKind.wrap .i64 (x13 - 1)) hp) (F187_j8 x0a x0n x0c x1 x4 x12 x13 hp I6 K))
theorem F187_r14 : R187 [1, 1, 1, 1, 1, 1, 1, 1, 1, 0, 0, 0, 0, 1, 0, 0, 0, 0, 0] 17 (upd (upd (upd (upd (upd e 13 (sI x13)) 12 (sI x12)) 4 (sV x4)) 1 (sI x1)) 0 (sS x0a x0n x0c)) V0 hp K =
    (ite2 (decide (x12 ≤ x13)) ((0 ≤ x13) ∧ (x13 < x0n) ∧ (ptrN x0a fun b1 o2 => (ldV (HP.cell hp b1 (o2 + Int.toNat x13 * 1)) fun v3 => (strV v3 fun s4 => ((0 ≤ x1) ∧ (x1 < x0n) ∧ (ptrN x0a fun b5 o6 => (ldV (HP.cell hp b5 (o6 + Int.toNat x1 * 1)) fun v7 => (strV v7 fun s8 => (fnV x4 fun f9 ga10 gb11 => (CF Try.prog f9 (ga10 ++ [(Value.string s4), (.string s8)] ++ gb11) hp fun u12 h13 => (intV u12 .i64 fun i14 => (K (upd (upd (upd (upd (upd (upd (upd (upd (upd (upd (upd (upd (upd (upd (upd (upd (upd (upd (upd (upd (upd (upd e 13 (sI x13)) 12 (sI x12)) 4 (sV x4)) 1 (sI x1)) 0 (sS x0a x0n x0c)) 123 (sI x12)) 124 (sI x13)) 125 (sB (decide (x12 ≤ x13)))) 126 (sB true)) 127 (sV x4)) 128 (sS x0a x0n x0c)) 129 (sI x13)) 130 (sQ b1 (o2 + Int.toNat x13 * 1))) 131 (sV (.string s4))) 132 (sS x0a x0n x0c)) 133 (sI x1)) 134 (sQ b5 (o6 + Int.toNat x1 * 1))) 135 (sV (.string s8))) 136 (sI i14)) 137 (sB (decide (i14 < 0)))) 138 (sB ((!(decide (i14 < 0)))))) 139 (sB ((!(decide (i14 < 0)))))) V0 h13)))))))))))) (K (upd (upd (upd (upd (upd (upd (upd (upd (upd (upd (upd (upd (upd (upd (upd (upd (upd (upd (upd (upd (upd (upd e 13 (sI x13)) 12 (sI x12)) 4 (sV x4)) 1 (sI x1)) 0 (sS x0a x0n x0c)) 123 (sI x12)) 124 (sI x13)) 125 (sB (decide (x12 ≤ x13)))) 126 (sB false)) 127 sU) 128 sU) 129 sU) 130 sU) 131 sU) 132 sU) 133 sU) 134 sU) 135 sU) 136 sU) 137 sU) 138 sU) 139 (sB false)) V0 hp)) := by kernel_rfl
def F187_l9 (x0a : Option Addr) (x0n : Nat) (x0c : Nat) (x1 : Int) (x4 : Value) (x12 : Int) (I6 : (Int × Int) → HP → Prop) (K : Value → HP → Prop) (I9 : (Int) → HP → Prop) (x13 : Int) (hp : HP) : Prop :=
  (ite2 (decide (x12 ≤ x13)) ((0 ≤ x13) ∧ (x13 < x0n) ∧ (ptrN x0a fun b_71 o_72 => (ldV (HP.cell hp b_71 (o_72 + Int.toNat x13 * 1)) fun v_73 => (strV v_73 fun s_74 => ((0 ≤ x1) ∧ (x1 < x0n) ∧ (ptrN x0a fun b_75 o_76 => (ldV (HP.cell hp b_75 (o_76 + Int.toNat x1 * 1)) fun v_77 => (strV v_77 fun s_78 => (fnV x4 fun f_79 ga_80 gb_81 => (CF Try.prog f_79 (ga_80 ++ [(Value.string s_74), (.string s_78)] ++ gb_81) hp fun u_82 h_83 => (intV u_82 .i64 fun i_84 => (F187_j10 x0a x0n x0c x1 x4 x12 x13 (!(decide (i_84 < 0))) h_83 I6 I9 K)))))))))))) (F187_j10 x0a x0n x0c x1 x4 x12 x13 false hp I6 I9 K))
def F187_j7 (x0a : Option Addr) (x0n : Nat) (x0c : Nat) (x1 : Int) (x4 : Value) (x12 : Int) (x13 : Int) (hp : HP) (I6 : (Int × Int) → HP → Prop) (K : Value → HP → Prop) : Prop :=
  (LoopP (σ := Int) (fun I s hp => F187_l9 x0a x0n x0c x1 x4 x12 I6 K I s hp) x13 hp)
theorem F187_r15 : R187 [1, 1, 1, 1, 1, 1, 1, 1, 1, 0, 0, 0, 0, 0, 0, 0, 1, 0] 3 (upd e 12 (sI x12)) V0 hp K =
    (K (upd (upd (upd (upd e 12 (sI x12)) 121 (sI x12)) 122 (sI ((wr (x12 + 1))))) 12 (sI ((wr (x12 + 1))))) V0 hp) := by kernel_rfl
def F187_j12 (x0a : Option Addr) (x0n : Nat) (x0c : Nat) (x1 : Int) (x4 : Value) (x12 : Int) (x13 : Int) (x120 : Bool) (hp : HP) (I6 : (Int × Int) → HP → Prop) (I11 : (Int) → HP → Prop) (K : Value → HP → Prop) : Prop :=
  (ite2 x120 (I11 (IntKind.wrap .i64 (x12 + 1)) hp) (F187_j7 x0a x0n x0c x1 x4 x12 x13 hp I6 K))
theorem F187_r16 : R187 [1, 1, 1, 1, 1, 1, 1, 1, 1, 0, 0, 0, 0, 0, 0, 0, 0, 0] 16 (upd (upd (upd (upd (upd e 13 (sI x13)) 12 (sI x12)) 4 (sV x4)) 1 (sI x1)) 0 (sS x0a x0n x0c)) V0 hp K =
    (ite2 (decide (x12 ≤ x13)) ((0 ≤ x12) ∧ (x12 < x0n) ∧ (ptrN x0a fun b1 o2 => (ldV (HP.cell hp b1 (o2 + Int.toNat x12 * 1)) fun v3 => (strV v3 fun s4 => ((0 ≤ x1) ∧ (x1 < x0n) ∧ (ptrN x0a fun b5 o6 => (ldV (HP.cell hp b5 (o6 + Int.toNat x1 * 1)) fun v7 => (strV v7 fun s8 => (fnV x4 fun f9 ga10 gb11 => (CF Try.prog f9 (ga10 ++ [(Value.string s4), (.string s8)] ++ gb11) hp fun u12 h13 => (intV u12 .i64 fun i14 => (K (upd (upd (upd (upd (upd (upd (upd (upd (upd (upd (upd (upd (upd (upd (upd (upd (upd (upd (upd (upd (upd e 13 (sI x13)) 12 (sI x12)) 4 (sV x4)) 1 (sI x1)) 0 (sS x0a x0n x0c)) 105 (sI x12)) 106 (sI x13)) 107 (sB (decide (x12 ≤ x13)))) 108 (sB true)) 109 (sV x4)) 110 (sS x0a x0n x0c)) 111 (sI x12)) 112 (sQ b1 (o2 + Int.toNat x12 * 1))) 113 (sV (.string s4))) 114 (sS x0a x0n x0c)) 115 (sI x1)) 116 (sQ b5 (o6 + Int.toNat x1 * 1))) 117 (sV (.string s8))) 118 (sI i14)) 119 (sB (decide (i14 < 0)))) 120 (sB (decide (i14 < 0)))) V0 h13)))))))))))) (K (upd (upd (upd (upd (upd (upd (upd (upd (upd (upd (upd (upd (upd (upd (upd (upd (upd (upd (upd (upd (upd e 13 (sI x13)) 12 (sI x12)) 4 (sV x4)) 1 (sI x1)) 0 (sS x0a x0n x0c)) 105 (sI x12)) 106 (sI x13)) 107 (sB (decide (x12 ≤ x13)))) 108 (sB false)) 109 sU) 110 sU) 111 sU) 112 sU) 113 sU) 114 sU) 115 sU) 116 sU) 117 sU) 118 sU) 119 sU) 120 (sB false)) V0 hp)) := by kernel_rfl
def F187_l11 (x0a : Option Addr) (x0n : Nat) (x0c : Nat) (x1 : Int) (x4 : Value) (x13 : Int) (I6 : (Int × Int) → HP → Prop) (K : Value → HP → Prop) (I11 : (Int) → HP → Prop) (x12 : Int) (hp : HP) : Prop :=
  (ite2 (decide (x12 ≤ x13)) ((0 ≤ x12) ∧ (x12 < x0n) ∧ (ptrN x0a fun b_85 o_86 => (ldV (HP.cell hp b_85 (o_86 + Int.toNat x12 * 1)) fun v_87 => (strV v_87 fun s_88 => ((0 ≤ x1) ∧ (x1 < x0n) ∧ (ptrN x0a fun b_89 o_90 => (ldV (HP.cell hp b_89 (o_90 + Int.toNat x1 * 1)) fun v_91 => (strV v_91 fun s_92 => (fnV x4 fun f_93 ga_94 gb_95 => (CF Try.prog f_93 (ga_94 ++ [(Value.string s_88), (.string s_92)] ++ gb_95) hp fun u_96 h_97 => (intV u_96 .i64 fun i_98 => (F187_j12 x0a x0n x0c x1 x4 x12 x13 (decide (i_98 < 0)) h_97 I6 I11 K)))))))))))) (F187_j12 x0a x0n x0c x1 x4 x12 x13 false hp I6 I11 K))
def F187_l6 (x0a : Option Addr) (x0n : Nat) (x0c : Nat) (x1 : Int) (x4 : Value) (K : Value → HP → Prop) (I6 : (Int × Int) → HP → Prop) (x12 : Int) (x13 : Int) (hp : HP) : Prop :=
  (LoopP (σ := Int) (fun I s hp => F187_l11 x0a x0n x0c x1 x4 x13 I6 K I s hp) x12 hp)
def F187_j4 (x0a : Option Addr) (x0n : Nat) (x0c : Nat) (x1 : Int) (x4 : Value) (x12 : Int) (x13 : Int) (hp : HP) (K : Value → HP → Prop) : Prop :=
  (LoopP (σ := Int × Int) (fun I s hp => F187_l6 x0a x0n x0c x1 x4  K I s.1 s.2 hp) (x12, x13) hp)
theorem F187_r17 : R187 [1, 1, 1, 1, 1, 1, 1, 1, 0] 3 (upd e 13 (sI x13)) V0 hp K =
    (K (upd (upd (upd (upd e 13 (sI x13)) 103 (sI x13)) 104 (sI ((wr (x13 - 1))))) 13 (sI ((wr (x13 - 1))))) V0 hp) := by kernel_rfl
def F187_j3 (x0a : Option Addr) (x0n : Nat) (x0c : Nat) (x1 : Int) (x4 : Value) (x12 : Int) (x13 : Int) (hp : HP) (K : Value → HP → Prop) : Prop :=
  (ite2 (decide (x12 > x13)) ((0 ≤ x1) ∧ (x1 < x0n) ∧ (ptrN x0a fun b_15 o_16 => (ldV (HP.cell hp b_15 (o_16 + Int.toNat x1 * 1)) fun v_17 => (strV v_17 fun s_18 => ((0 ≤ x13) ∧ (x13 < x0n) ∧ (ptrN x0a fun b_19 o_20 => (ldV (HP.cell hp b_19 (o_20 + Int.toNat x13 * 1)) fun v_21 => (strV v_21 fun s_22 => ((0 ≤ x13) ∧ (x13 < x0n) ∧ (ptrN x0a fun b_23 o_24 => (HP.st hp b_23 (o_24 + Int.toNat x13 * 1) (.string s_18) fun h_25 => ((0 ≤ x1) ∧ (x1 < x0n) ∧ (ptrN x0a fun b_26 o_27 => (HP.st h_25 b_26 (o_27 + Int.toNat x1 * 1) (.string s_22) fun h_28 => (K (.tuple ⟨[(.int .i64 x13), (.bool true)]⟩) h_28))))))))))))))) ((0 ≤ x13) ∧ (x13 < x0n) ∧ (ptrN x0a fun b_29 o_30 => (ldV (HP.cell hp b_29 (o_30 + Int.toNat x13 * 1)) fun v_31 => (strV v_31 fun s_32 => ((0 ≤ x12) ∧ (x12 < x0n) ∧ (ptrN x0a fun b_33 o_34 => (ldV (HP.cell hp b_33 (o_34 + Int.toNat x12 * 1)) fun v_35 => (strV v_35 fun s_36 => ((0 ≤ x12) ∧ (x12 < x0n) ∧ (ptrN x0a fun b_37 o_38 => (HP.st hp b_37 (o_38 + Int.toNat x12 * 1) (.string s_32) fun h_39 => ((0 ≤ x13) ∧ (x13 < x0n) ∧ (ptrN x0a fun b_40 o_41 => (HP.st h_39 b_40 (o_41 + Int.toNat x13 * 1) (.string s_36) fun h_42 => (F187_j4 x0a x0n x0c x1 x4 (IntKind.wrap .i64 (x12 + 1)) (IntKind.wrap .i64 (x13 - 1)) h_42  K))))))))))))))))
theorem F187_r18 : R187 [1, 1, 1, 1, 0, 0, 0, 1, 0] 3 (upd e 13 (sI x13)) V0 hp K =
    (K (upd (upd (upd (upd e 13 (sI x13)) 67 (sI x13)) 68 (sI ((wr (x13 - 1))))) 13 (sI ((wr (x13 - 1))))) V0 hp) := by kernel_rfl
def F187_j14 (x0a : Option Addr) (x0n : Nat) (x0c : Nat) (x1 : Int) (x4 : Value) (x12 : Int) (x13 : Int) (x66 : Bool) (hp : HP) (I13 : (Int) → HP → Prop) (K : Value → HP → Prop) : Prop :=
  (ite2 x66 (I13 (IntKind.wrap .i64 (x13 - 1)) hp) (F187_j3 x0a x0n x0c x1 x4 x12 x13 hp  K))
theorem F187_r19 : R187 [1, 1, 1, 1, 0, 0, 0, 0, 0] 17 (upd (upd (upd (upd (upd e 13 (sI x13)) 12 (sI x12)) 4 (sV x4)) 1 (sI x1)) 0 (sS x0a x0n x0c)) V0 hp K =
    (ite2 (decide (x12 ≤ x13)) ((0 ≤ x13) ∧ (x13 < x0n) ∧ (ptrN x0a fun b1 o2 => (ldV (HP.cell hp b1 (o2 + Int.toNat x13 * 1)) fun v3 => (strV v3 fun s4 => ((0 ≤ x1) ∧ (x1 < x0n) ∧ (ptrN x0a fun b5 o6 => (ldV (HP.cell hp b5 (o6 + Int.toNat x1 * 1)) fun v7 => (strV v7 fun s8 => (fnV x4 fun f9 ga10 gb11 => (CF Try.prog f9 (ga10 ++ [(Value.string s4), (.string s8)] ++ gb11) hp fun u12 h13 => (intV u12 .i64 fun i14 => (K (upd (upd (upd (upd (upd (upd (upd (upd (upd (upd (upd (upd (upd (upd (upd (upd (upd (upd (upd (upd (upd (upd e 13 (sI x13)) 12 (sI x12)) 4 (sV x4)) 1 (sI x1)) 0 (sS x0a x0n x0c)) 50 (sI x12)) 51 (sI x13)) 52 (sB (decide (x12 ≤ x13)))) 53 (sB true)) 54 (sV x4)) 55 (sS x0a x0n x0c)) 56 (sI x13)) 57 (sQ b1 (o2 + Int.toNat x13 * 1))) 58 (sV (.string s4))) 59 (sS x0a x0n x0c)) 60 (sI x1)) 61 (sQ b5 (o6 + Int.toNat x1 * 1))) 62 (sV (.string s8))) 63 (sI i14)) 64 (sB (decide (i14 < 0)))) 65 (sB ((!(decide (i14 < 0)))))) 66 (sB ((!(decide (i14 < 0)))))) V0 h13)))))))))))) (K (upd (upd (upd (upd (upd (upd (upd (upd (upd (upd (upd (upd (upd (upd (upd (upd (upd (upd (upd (upd (upd (upd e 13 (sI x13)) 12 (sI x12)) 4 (sV x4)) 1 (sI x1)) 0 (sS x0a x0n x0c)) 50 (sI x12)) 51 (sI x13)) 52 (sB (decide (x12 ≤ x13)))) 53 (sB false)) 54 sU) 55 sU) 56 sU) 57 sU) 58 sU) 59 sU) 60 sU) 61 sU) 62 sU) 63 sU) 64 sU) 65 sU) 66 (sB false)) V0 hp)) := by kernel_rfl
def F187_l13 (x0a : Option Addr) (x0n : Nat) (x0c : Nat) (x1 : Int) (x4 : Value) (x12 : Int) (K : Value → HP → Prop) (I13 : (Int) → HP → Prop) (x13 : Int) (hp : HP) : Prop :=
  (ite2 (decide (x12 ≤ x13)) ((0 ≤ x13) ∧ (x13 < x0n) ∧ (ptrN x0a fun b_99 o_100 => (ldV (HP.cell hp b_99 (o_100 + Int.toNat x13 * 1)) fun v_101 => (strV v_101 fun s_102 => ((0 ≤ x1) ∧ (x1 < x0n) ∧ (ptrN x0a fun b_103 o_104 => (ldV (HP.cell hp b_103 (o_104 + Int.toNat x1 * 1)) fun v_105 => (strV v_105 fun s_106 => (fnV x4 fun f_107 ga_108 gb_109 => (CF Try.prog f_107 (ga_108 ++ [(Value.string s_102), (.string s_106)] ++ gb_109) hp fun u_110 h_111 => (intV u_110 .i64 fun i_112 => (F187_j14 x0a x0n x0c x1 x4 x12 x13 (!(decide (i_112 < 0))) h_111 I13 K)))))))))))) (F187_j14 x0a x0n x0c x1 x4 x12 x13 false hp I13 K))
def F187_j2 (x0a : Option Addr) (x0n : Nat) (x0c : Nat) (x1 : Int) (x4 : Value) (x12 : Int) (x13 : Int) (hp : HP) (K : Value → HP → Prop) : Prop :=
  (LoopP (σ := Int) (fun I s hp => F187_l13 x0a x0n x0c x1 x4 x12  K I s hp) x13 hp)
theorem F187_r20 : R187 [1, 1, 1, 0, 0, 0, 1, 0] 3 (upd e 12 (sI x12)) V0 hp K =
    (K (upd (upd (upd (upd e 12 (sI x12)) 48 (sI x12)) 49 (sI ((wr (x12 + 1))))) 12 (sI ((wr (x12 + 1))))) V0 hp) := by kernel_rfl
def F187_j16 (x0a : Option Addr) (x0n : Nat) (x0c : Nat) (x1 : Int) (x4 : Value) (x12 : Int) (x13 : Int) (x47 : Bool) (hp : HP) (I15 : (Int) → HP → Prop) (K : Value → HP → Prop) : Prop :=
  (ite2 x47 (I15 (IntKind.wrap .i64 (x12 + 1)) hp) (F187_j2 x0a x0n x0c x1 x4 x12 x13 hp  K))
theorem F187_r21 : R187 [1, 1, 1, 0, 0, 0, 0, 0] 16 (upd (upd (upd (upd (upd e 13 (sI x13)) 12 (sI x12)) 4 (sV x4)) 1 (sI x1)) 0 (sS x0a x0n x0c)) V0 hp K =
    (ite2 (decide (x12 ≤ x13)) ((0 ≤ x12) ∧ (x12 < x0n) ∧ (ptrN x0a fun b1 o2 => (ldV (HP.cell hp b1 (o2 + Int.toNat x12 * 1)) fun v3 => (strV v3 fun s4 => ((0 ≤ x1) ∧ (x1 < x0n) ∧ (ptrN x0a fun b5 o6 => (ldV (HP.cell hp b5 (o6 + Int.toNat x1 * 1)) fun v7 => (strV v7 fun s8 => (fnV x4 fun f9 ga10 gb11 => (CF Try.prog f9 (ga10 ++ [(Value.string s4), (.string s8)] ++ gb11) hp fun u12 h13 => (intV u12 .i64 fun i14 => (K (upd (upd (upd (upd (upd (upd (upd (upd (upd (upd (upd (upd (upd (upd (upd (upd (upd (upd (upd (upd (upd e 13 (sI x13)) 12 (sI x12)) 4 (sV x4)) 1 (sI x1)) 0 (sS x0a x0n x0c)) 32 (sI x12)) 33 (sI x13)) 34 (sB (decide (x12 ≤ x13)))) 35 (sB true)) 36 (sV x4)) 37 (sS x0a x0n x0c)) 38 (sI x12)) 39 (sQ b1 (o2 + Int.toNat x12 * 1))) 40 (sV (.string s4))) 41 (sS x0a x0n x0c)) 42 (sI x1)) 43 (sQ b5 (o6 + Int.toNat x1 * 1))) 44 (sV (.string s8))) 45 (sI i14)) 46 (sB (decide (i14 < 0)))) 47 (sB (decide (i14 < 0)))) V0 h13)))))))))))) (K (upd (upd (upd (upd (upd (upd (upd (upd (upd (upd (upd (upd (upd (upd (upd (upd (upd (upd (upd (upd (upd e 13 (sI x13)) 12 (sI x12)) 4 (sV x4)) 1 (sI x1)) 0 (sS x0a x0n x0c)) 32 (sI x12)) 33 (sI x13)) 34 (sB (decide (x12 ≤ x13)))) 35 (sB false)) 36 sU) 37 sU) 38 sU) 39 sU) 40 sU) 41 sU) 42 sU) 43 sU) 44 sU) 45 sU) 46 sU) 47 (sB false)) V0 hp)) := by kernel_rfl
def F187_l15 (x0a : Option Addr) (x0n : Nat) (x0c : Nat) (x1 : Int) (x4 : Value) (x13 : Int) (K : Value → HP → Prop) (I15 : (Int) → HP → Prop) (x12 : Int) (hp : HP) : Prop :=
  (ite2 (decide (x12 ≤ x13)) ((0 ≤ x12) ∧ (x12 < x0n) ∧ (ptrN x0a fun b_113 o_114 => (ldV (HP.cell hp b_113 (o_114 + Int.toNat x12 * 1)) fun v_115 => (strV v_115 fun s_116 => ((0 ≤ x1) ∧ (x1 < x0n) ∧ (ptrN x0a fun b_117 o_118 => (ldV (HP.cell hp b_117 (o_118 + Int.toNat x1 * 1)) fun v_119 => (strV v_119 fun s_120 => (fnV x4 fun f_121 ga_122 gb_123 => (CF Try.prog f_121 (ga_122 ++ [(Value.string s_116), (.string s_120)] ++ gb_123) hp fun u_124 h_125 => (intV u_124 .i64 fun i_126 => (F187_j16 x0a x0n x0c x1 x4 x12 x13 (decide (i_126 < 0)) h_125 I15 K)))))))))))) (F187_j16 x0a x0n x0c x1 x4 x12 x13 false hp I15 K))
def F187_j1 (x0a : Option Addr) (x0n : Nat) (x0c : Nat) (x1 : Int) (x4 : Value) (x12 : Int) (x13 : Int) (hp : HP) (K : Value → HP → Prop) : Prop :=
  (LoopP (σ := Int) (fun I s hp => F187_l15 x0a x0n x0c x1 x4 x13  K I s hp) x12 hp)
theorem F187_r22 : R187 [1, 1, 0] 6 (upd (upd e 2 (sI x2)) 1 (sI x1)) V0 hp K =
    (K (upd (upd (upd (upd (upd (upd (upd (upd e 2 (sI x2)) 1 (sI x1)) 28 (sI x1)) 29 (sI ((wr (x1 + 1))))) 30 (sI x2)) 31 (sI ((wr (x2 - 1))))) 12 (sI ((wr (x1 + 1))))) 13 (sI ((wr (x2 - 1))))) V0 hp) := by kernel_rfl
def F187 (x0a : Option Addr) (x0n : Nat) (x0c : Nat) (x1 : Int) (x2 : Int) (x3 : Int) (x4 : Value) (hp : HP) (K : Value → HP → Prop) : Prop :=
  ((0 ≤ x3) ∧ (x3 < x0n) ∧ (ptrN x0a fun b_1 o_2 => (ldV (HP.cell hp b_1 (o_2 + Int.toNat x3 * 1)) fun v_3 => (strV v_3 fun s_4 => ((0 ≤ x1) ∧ (x1 < x0n) ∧ (ptrN x0a fun b_5 o_6 => (ldV (HP.cell hp b_5 (o_6 + Int.toNat x1 * 1)) fun v_7 => (strV v_7 fun s_8 => ((0 ≤ x1) ∧ (x1 < x0n) ∧ (ptrN x0a fun b_9 o_10 => (HP.st hp b_9 (o_10 + Int.toNat x1 * 1) (.string s_4) fun h_11 => ((0 ≤ x3) ∧ (x3 < x0n) ∧ (ptrN x0a fun b_12 o_13 => (HP.st h_11 b_12 (o_13 + Int.toNat x3 * 1) (.string s_8) fun h_14 => (F187_j1 x0a x0n x0c x1 x4 (IntKind.wrap .i64 (x1 + 1)) (IntKind.wrap .i64 (x2 - 1)) h_14  K)))))))))))))))
noncomputable def F187_code : Code := (.seq (.region 0 (opsAt Try.f187 [0]) false) (.seq (.region 1 (opsAt Try.f187 [1, 0]) true) (.seq (.region 2 (opsAt Try.f187 [1, 1, 0]) false) (.seq (.block 0 (.loop (.seq (.seq (.region 3 (opsAt Try.f187 [1, 1, 1, 0, 0, 0, 0, 0]) true) (.cond (.tmp 47) .skip (.exit 0))) (.block 1 (.region 4 (opsAt Try.f187 [1, 1, 1, 0, 0, 0, 1, 0]) false))))) (.seq (.block 2 (.loop (.seq (.seq (.region 5 (opsAt Try.f187 [1, 1, 1, 1, 0, 0, 0, 0, 0]) true) (.cond (.tmp 66) .skip (.exit 2))) (.block 3 (.region 6 (opsAt Try.f187 [1, 1, 1, 1, 0, 0, 0, 1, 0]) false))))) (.seq (.seq (.region 7 (opsAt Try.f187 [1, 1, 1, 1, 1, 0, 0]) false) (.cond (.tmp 71) (.seq (.region 8 (opsAt Try.f187 [1, 1, 1, 1, 1, 0, 1, 0, 0]) true) (.seq (.region 9 (opsAt Try.f187 [1, 1, 1, 1, 1, 0, 1, 0, 1, 0]) false) .ret)) .skip)) (.seq (.region 10 (opsAt Try.f187 [1, 1, 1, 1, 1, 1, 0]) true) (.seq (.region 11 (opsAt Try.f187 [1, 1, 1, 1, 1, 1, 1, 0]) false) (.seq (.region 12 (opsAt Try.f187 [1, 1, 1, 1, 1, 1, 1, 1, 0]) false) (.seq (.block 4 (.loop (.block 5 (.seq (.block 6 (.loop (.seq (.seq (.region 13 (opsAt Try.f187 [1, 1, 1, 1, 1, 1, 1, 1, 1, 0, 0, 0, 0, 0, 0, 0, 0, 0]) true) (.cond (.tmp 120) .skip (.exit 6))) (.block 7 (.region 14 (opsAt Try.f187 [1, 1, 1, 1, 1, 1, 1, 1, 1, 0, 0, 0, 0, 0, 0, 0, 1, 0]) false))))) (.seq (.block 8 (.loop (.seq (.seq (.region 15 (opsAt Try.f187 [1, 1, 1, 1, 1, 1, 1, 1, 1, 0, 0, 0, 0, 1, 0, 0, 0, 0, 0]) true) (.cond (.tmp 139) .skip (.exit 8))) (.block 9 (.region 16 (opsAt Try.f187 [1, 1, 1, 1, 1, 1, 1, 1, 1, 0, 0, 0, 0, 1, 0, 0, 0, 1, 0]) false))))) (.seq (.seq (.region 17 (opsAt Try.f187 [1, 1, 1, 1, 1, 1, 1, 1, 1, 0, 0, 0, 0, 1, 1, 0, 0]) false) (.cond (.tmp 144) (.exit 4) .skip)) (.seq (.region 18 (opsAt Try.f187 [1, 1, 1, 1, 1, 1, 1, 1, 1, 0, 0, 0, 0, 1, 1, 1, 0]) true) (.seq (.region 19 (opsAt Try.f187 [1, 1, 1, 1, 1, 1, 1, 1, 1, 0, 0, 0, 0, 1, 1, 1, 1, 0]) false) (.region 20 (opsAt Try.f187 [1, 1, 1, 1, 1, 1, 1, 1, 1, 0, 0, 0, 0, 1, 1, 1, 1, 1]) false))))))))) (.seq (.region 21 (opsAt Try.f187 [1, 1, 1, 1, 1, 1, 1, 1, 1, 1, 0]) true) (.seq (.region 22 (opsAt Try.f187 [1, 1, 1, 1, 1, 1, 1, 1, 1, 1, 1, 0]) false) .ret))))))))))))
theorem F187_body : Try.f187.body = some F187_code := by kernel_rfl
theorem F187_ok (x0a : Option Addr) (x0n : Nat) (x0c : Nat) (x1 : Int) (x2 : Int) (x3 : Int) (x4 : Value) (hp : HP) (K : Value → HP → Prop) (h : F187 x0a x0n x0c x1 x2 x3 x4 hp K) : CF Try.prog 187 [(.slice x0a x0n x0c), (.int .i64 x1), (.int .i64 x2), (.int .i64 x3), x4] hp K := by
 refine .inl ⟨by kernel_rfl, AC.intro (N := 178) Try.func187 F187_body rfl (Nat.le_of_ble_eq_true rfl) ?_⟩
 unfold F187 at h
 unfold F187_code
 refine AWP.seq' ?_
 refine AWP.rgn (F187_r0 (upd (upd (upd (upd (upd E0 4 (sV x4)) 3 (sI x3)) 2 (sI x2)) 1 (sI x1)) 0 (sS x0a x0n x0c))  hp _) ?_ (Ru 0 (Ru 1 (Ru 2 (Ru 3 (Ru 4 Rn))))) (Sc rfl (Sc rfl (Sc rfl (Sc rfl (Sc rfl Sn))))) Sn
 refine AWP.seq' ?_
 refine AWP.rgnD (by kernel_rfl) (by kernel_rfl) (F187_r1 (upd (upd E0 4 (sV x4)) 2 (sI x2)) x0a x0n x0c x1 x3 hp _) ?_ (Ru 0 (Ru 1 (Ru 3 (Ru 2 (Ru 4 Rn))))) (Sc rfl (Sc rfl (Sc rfl (Sc rfl (Sc rfl Sn))))) Sn
 refine ⟨h.1, h.2.1, mN h.2.2 (fun b_1 o_2 h => mV h (fun v_3 h => ms h (fun s_4 h => ⟨h.1, h.2.1, mN h.2.2 (fun b_5 o_6 h => mV h (fun v_7 h => ms h (fun s_8 h => ⟨h.1, h.2.1, mN h.2.2 (fun b_9 o_10 h => mw h (fun h_11 h => ⟨h.1, h.2.1, mN h.2.2 fun b_12 o_13 h => mw h fun h_14 h => ?_⟩))⟩)))⟩)))⟩
 refine AWP.seq (fun env pv hp => ∃ (x0a : Option Addr) (x0n : Nat) (x0c : Nat) (x1 : Int) (x4 : Value) (x12 : Int) (x13 : Int), Sub (upd (upd (upd (upd (upd E0 13 (sI x13)) 12 (sI x12)) 4 (sV x4)) 1 (sI x1)) 0 (sS x0a x0n x0c)) env ∧ Sub V0 pv ∧ (F187_j1 x0a x0n x0c x1 x4 x12 x13 hp  K)) ?_ ?_
 ·refine AWP.rgn (F187_r22 (upd (upd E0 4 (sV x4)) 0 (sS x0a x0n x0c)) x1 x2 h_14 _) ?_ (Ru 1 (Ru 2 (Ru 0 (Ru 4 Rn)))) (Sc rfl (Sc rfl (Sc rfl (Sc rfl Sn)))) Sn
  exact ⟨x0a, x0n, x0c, x1, x4, (wr (x1 + 1)), (wr (x2 - 1)), (Sc rfl (Sc rfl (Sc rfl (Sc rfl (Sc rfl Sn))))), Sn, h⟩
 ·rintro env pv hp ⟨x0a, x0n, x0c, x1, x4, x12, x13, he, hv, h⟩
  refine AWP.sub (env' := (upd (upd (upd (upd (upd E0 13 (sI x13)) 12 (sI x12)) 4 (sV x4)) 1 (sI x1)) 0 (sS x0a x0n x0c))) (pv' := V0) ?_ (Ru 0 (Ru 1 (Ru 4 (Ru 12 (Ru 13 Rn))))) he hv (HSub.refl _)
  clear he hv
  unfold F187_j1 at h
  refine AWP.seq (fun env pv hp => ∃ (x0a : Option Addr) (x0n : Nat) (x0c : Nat) (x1 : Int) (x4 : Value) (x12 : Int) (x13 : Int), Sub (upd (upd (upd (upd (upd E0 13 (sI x13)) 12 (sI x12)) 4 (sV x4)) 1 (sI x1)) 0 (sS x0a x0n x0c)) env ∧ Sub V0 pv ∧ (F187_j2 x0a x0n x0c x1 x4 x12 x13 hp  K)) ?_ ?_
  ·refine AWP.block ?_
   refine AWP.loop (σ := Int) (fun I s hp => F187_l15 x0a x0n x0c x1 x4 x13  K I s hp) (fun s => (upd (upd (upd (upd (upd E0 13 (sI x13)) 12 (sI s)) 4 (sV x4)) 1 (sI x1)) 0 (sS x0a x0n x0c))) (fun s => V0) x12 h (fun s => (Ru 0 (Ru 1 (Ru 4 (Ru 12 (Ru 13 Rn)))))) (Sc rfl (Sc rfl (Sc rfl (Sc rfl (Sc rfl Sn))))) Sn ?_
   intro I15 s hp h
   obtain ⟨x12, hs⟩ : ∃ x, x = s := ⟨s, rfl⟩
   subst hs
   replace h : F187_l15 x0a x0n x0c x1 x4 x13  K I15 x12 hp := h
   unfold F187_l15 at h
   refine AWP.seq' ?_
   refine AWP.seq (fun env pv hp => ∃ (x12 : Int) (x47 : Bool), Sub (upd (upd (upd (upd (upd (upd E0 47 (sB x47)) 13 (sI x13)) 12 (sI x12)) 4 (sV x4)) 1 (sI x1)) 0 (sS x0a x0n x0c)) env ∧ Sub V0 pv ∧ (F187_j16 x0a x0n x0c x1 x4 x12 x13 x47 hp I15 K)) ?_ ?_
   ·refine AWP.rgnD (by kernel_rfl) (by kernel_rfl) (F187_r21 E0 x0a x0n x0c x1 x4 x12 x13 hp _) ?_ (Ru 0 (Ru 1 (Ru 4 (Ru 12 (Ru 13 Rn))))) (Sc rfl (Sc rfl (Sc rfl (Sc rfl (Sc rfl Sn))))) Sn
    refine mt h (fun h => ?_) (fun h => ?_)
    ·refine ⟨h.1, h.2.1, mN h.2.2 (fun b_113 o_114 h => mV h (fun v_115 h => ms h (fun s_116 h => ⟨h.1, h.2.1, mN h.2.2 fun b_117 o_118 h => mV h fun v_119 h => ms h fun s_120 h => mF h fun f_121 ga_122 gb_123 h => mC h fun u_124 h_125 h => mI h fun i_126 h => ?_⟩)))⟩
     exact ⟨x12, (decide (i_126 < 0)), (Sc rfl (Sc rfl (Sc rfl (Sc rfl (Sc rfl (Sc rfl Sn)))))), Sn, h⟩
    ·exact ⟨x12, false, (Sc rfl (Sc rfl (Sc rfl (Sc rfl (Sc rfl (Sc rfl Sn)))))), Sn, h⟩
   ·rintro env pv hp ⟨x12, x47, he, hv, h⟩
    refine AWP.sub (env' := (upd (upd (upd (upd (upd (upd E0 47 (sB x47)) 13 (sI x13)) 12 (sI x12)) 4 (sV x4)) 1 (sI x1)) 0 (sS x0a x0n x0c))) (pv' := V0) ?_ (Ru 0 (Ru 1 (Ru 4 (Ru 12 (Ru 13 (Ru 47 Rn)))))) he hv (HSub.refl _)
    clear he hv
    unfold F187_j16 at h
    refine AWP.cond (t := x47) rfl (fun e => ?_) (fun e => ?_)
    ·replace h := ite2_t h e
     refine AWP.skip ?_
     refine AWP.block ?_
     refine AWP.rgn (F187_r20 (upd (upd (upd (upd E0 13 (sI x13)) 4 (sV x4)) 1 (sI x1)) 0 (sS x0a x0n x0c)) x12 hp _) ?_ (Ru 12 (Ru 0 (Ru 1 (Ru 4 (Ru 13 Rn))))) (Sc rfl (Sc rfl (Sc rfl (Sc rfl (Sc rfl Sn))))) Sn
     exact ⟨(wr (x12 + 1)), (Sc rfl (Sc rfl (Sc rfl (Sc rfl (Sc rfl Sn))))), Sn, h⟩
    ·replace h := ite2_f h e
     refine AWP.exit ?_
     exact ⟨x0a, x0n, x0c, x1, x4, x12, x13, (Sc rfl (Sc rfl (Sc rfl (Sc rfl (Sc rfl Sn))))), Sn, h⟩
  ·rintro env pv hp ⟨x0a, x0n, x0c, x1, x4, x12, x13, he, hv, h⟩
   refine AWP.sub (env' := (upd (upd (upd (upd (upd E0 13 (sI x13)) 12 (sI x12)) 4 (sV x4)) 1 (sI x1)) 0 (sS x0a x0n x0c))) (pv' := V0) ?_ (Ru 0 (Ru 1 (Ru 4 (Ru 12 (Ru 13 Rn))))) he hv (HSub.refl _)
   clear he hv
   unfold F187_j2 at h
   refine AWP.seq (fun env pv hp => ∃ (x0a : Option Addr) (x0n : Nat) (x0c : Nat) (x1 : Int) (x4 : Value) (x12 : Int) (x13 : Int), Sub (upd (upd (upd (upd (upd E0 13 (sI x13)) 12 (sI x12)) 4 (sV x4)) 1 (sI x1)) 0 (sS x0a x0n x0c)) env ∧ Sub V0 pv ∧ (F187_j3 x0a x0n x0c x1 x4 x12 x13 hp  K)) ?_ ?_
   ·refine AWP.block ?_
    refine AWP.loop (σ := Int) (fun I s hp => F187_l13 x0a x0n x0c x1 x4 x12  K I s hp) (fun s => (upd (upd (upd (upd (upd E0 13 (sI s)) 12 (sI x12)) 4 (sV x4)) 1 (sI x1)) 0 (sS x0a x0n x0c))) (fun s => V0) x13 h (fun s => (Ru 0 (Ru 1 (Ru 4 (Ru 12 (Ru 13 Rn)))))) (Sc rfl (Sc rfl (Sc rfl (Sc rfl (Sc rfl Sn))))) Sn ?_
    intro I13 s hp h
    obtain ⟨x13, hs⟩ : ∃ x, x = s := ⟨s, rfl⟩
    subst hs
    replace h : F187_l13 x0a x0n x0c x1 x4 x12  K I13 x13 hp := h
    unfold F187_l13 at h
    refine AWP.seq' ?_
    refine AWP.seq (fun env pv hp => ∃ (x13 : Int) (x66 : Bool), Sub (upd (upd (upd (upd (upd (upd E0 66 (sB x66)) 13 (sI x13)) 12 (sI x12)) 4 (sV x4)) 1 (sI x1)) 0 (sS x0a x0n x0c)) env ∧ Sub V0 pv ∧ (F187_j14 x0a x0n x0c x1 x4 x12 x13 x66 hp I13 K)) ?_ ?_
    ·refine AWP.rgnD (by kernel_rfl) (by kernel_rfl) (F187_r19 E0 x0a x0n x0c x1 x4 x12 x13 hp _) ?_ (Ru 0 (Ru 1 (Ru 4 (Ru 12 (Ru 13 Rn))))) (Sc rfl (Sc rfl (Sc rfl (Sc rfl (Sc rfl Sn))))) Sn
     refine mt h (fun h => ?_) (fun h => ?_)
     ·refine ⟨h.1, h.2.1, mN h.2.2 (fun b_99 o_100 h => mV h (fun v_101 h => ms h (fun s_102 h => ⟨h.1, h.2.1, mN h.2.2 fun b_103 o_104 h => mV h fun v_105 h => ms h fun s_106 h => mF h fun f_107 ga_108 gb_109 h => mC h fun u_110 h_111 h => mI h fun i_112 h => ?_⟩)))⟩
      exact ⟨x13, (!(decide (i_112 < 0))), (Sc rfl (Sc rfl (Sc rfl (Sc rfl (Sc rfl (Sc rfl Sn)))))), Sn, h⟩
     ·exact ⟨x13, false, (Sc rfl (Sc rfl (Sc rfl (Sc rfl (Sc rfl (Sc rfl Sn)))))), Sn, h⟩
    ·rintro env pv hp ⟨x13, x66, he, hv, h⟩
     refine AWP.sub (env' := (upd (upd (upd (upd (upd (upd E0 66 (sB x66)) 13 (sI x13)) 12 (sI x12)) 4 (sV x4)) 1 (sI x1)) 0 (sS x0a x0n x0c))) (pv' := V0) ?_ (Ru 0 (Ru 1 (Ru 4 (Ru 12 (Ru 13 (Ru 66 Rn)))))) he hv (HSub.refl _)
     clear he hv
     unfold F187_j14 at h
     refine AWP.cond (t := x66) rfl (fun e => ?_) (fun e => ?_)
     ·replace h := ite2_t h e
      refine AWP.skip ?_
      refine AWP.block ?_
      refine AWP.rgn (F187_r18 (upd (upd (upd (upd E0 12 (sI x12)) 4 (sV x4)) 1 (sI x1)) 0 (sS x0a x0n x0c)) x13 hp _) ?_ (Ru 13 (Ru 0 (Ru 1 (Ru 4 (Ru 12 Rn))))) (Sc rfl (Sc rfl (Sc rfl (Sc rfl (Sc rfl Sn))))) Sn
      exact ⟨(wr (x13 - 1)), (Sc rfl (Sc rfl (Sc rfl (Sc rfl (Sc rfl Sn))))), Sn, h⟩
     ·replace h := ite2_f h e
      refine AWP.exit ?_
      exact ⟨x0a, x0n, x0c, x1, x4, x12, x13, (Sc rfl (Sc rfl (Sc rfl (Sc rfl (Sc rfl Sn))))), Sn, h⟩
   ·rintro env pv hp ⟨x0a, x0n, x0c, x1, x4, x12, x13, he, hv, h⟩
    refine AWP.sub (env' := (upd (upd (upd (upd (upd E0 13 (sI x13)) 12 (sI x12)) 4 (sV x4)) 1 (sI x1)) 0 (sS x0a x0n x0c))) (pv' := V0) ?_ (Ru 0 (Ru 1 (Ru 4 (Ru 12 (Ru 13 Rn))))) he hv (HSub.refl _)
    clear he hv
    unfold F187_j3 at h
    refine AWP.seq' ?_
    refine AWP.seq' ?_
    refine AWP.rgn (F187_r2 (upd (upd (upd E0 4 (sV x4)) 1 (sI x1)) 0 (sS x0a x0n x0c)) x12 x13 hp _) ?_ (Ru 12 (Ru 13 (Ru 0 (Ru 1 (Ru 4 Rn))))) (Sc rfl (Sc rfl (Sc rfl (Sc rfl (Sc rfl Sn))))) Sn
    refine AWP.cond (t := (decide (x12 > x13))) rfl (fun e => ?_) (fun e => ?_)
    ·replace h := ite2_t h e
     refine AWP.seq' ?_
     refine AWP.rgnD (by kernel_rfl) (by kernel_rfl) (F187_r3 E0 x0a x0n x0c x1 x13 hp _) ?_ (Ru 0 (Ru 1 (Ru 13 Rn))) (Sc rfl (Sc rfl (Sc rfl Sn))) Sn
     refine ⟨h.1, h.2.1, mN h.2.2 (fun b_15 o_16 h => mV h (fun v_17 h => ms h (fun s_18 h => ⟨h.1, h.2.1, mN h.2.2 (fun b_19 o_20 h => mV h (fun v_21 h => ms h (fun s_22 h => ⟨h.1, h.2.1, mN h.2.2 (fun b_23 o_24 h => mw h (fun h_25 h => ⟨h.1, h.2.1, mN h.2.2 fun b_26 o_27 h => mw h fun h_28 h => ?_⟩))⟩)))⟩)))⟩
     refine AWP.seq' ?_
     refine AWP.rgn (F187_r4 E0 x13 h_28 _) ?_ (Ru 13 Rn) (Sc rfl Sn) Sn
     refine AWP.ret ?_
     exact h
    ·replace h := ite2_f h e
     refine AWP.skip ?_
     refine AWP.seq' ?_
     refine AWP.rgnD (by kernel_rfl) (by kernel_rfl) (F187_r5 (upd (upd E0 4 (sV x4)) 1 (sI x1)) x0a x0n x0c x12 x13 hp _) ?_ (Ru 0 (Ru 12 (Ru 13 (Ru 1 (Ru 4 Rn))))) (Sc rfl (Sc rfl (Sc rfl (Sc rfl (Sc rfl Sn))))) Sn
     refine ⟨h.1, h.2.1, mN h.2.2 (fun b_29 o_30 h => mV h (fun v_31 h => ms h (fun s_32 h => ⟨h.1, h.2.1, mN h.2.2 (fun b_33 o_34 h => mV h (fun v_35 h => ms h (fun s_36 h => ⟨h.1, h.2.1, mN h.2.2 (fun b_37 o_38 h => mw h (fun h_39 h => ⟨h.1, h.2.1, mN h.2.2 fun b_40 o_41 h => mw h fun h_42 h => ?_⟩))⟩)))⟩)))⟩
     refine AWP.seq' ?_
     refine AWP.rgn (F187_r6 (upd (upd (upd (upd E0 13 (sI x13)) 4 (sV x4)) 1 (sI x1)) 0 (sS x0a x0n x0c)) x12 h_42 _) ?_ (Ru 12 (Ru 0 (Ru 1 (Ru 4 (Ru 13 Rn))))) (Sc rfl (Sc rfl (Sc rfl (Sc rfl (Sc rfl Sn))))) Sn
     refine AWP.seq (fun env pv hp => ∃ (x0a : Option Addr) (x0n : Nat) (x0c : Nat) (x1 : Int) (x4 : Value) (x12 : Int) (x13 : Int), Sub (upd (upd (upd (upd (upd E0 13 (sI x13)) 12 (sI x12)) 4 (sV x4)) 1 (sI x1)) 0 (sS x0a x0n x0c)) env ∧ Sub V0 pv ∧ (F187_j4 x0a x0n x0c x1 x4 x12 x13 hp  K)) ?_ ?_
     ·refine AWP.rgn (F187_r17 (upd (upd (upd (upd E0 12 (sI ((wr (x12 + 1))))) 4 (sV x4)) 1 (sI x1)) 0 (sS x0a x0n x0c)) x13 h_42 _) ?_ (Ru 13 (Ru 0 (Ru 1 (Ru 4 (Ru 12 Rn))))) (Sc rfl (Sc rfl (Sc rfl (Sc rfl (Sc rfl Sn))))) Sn
      exact ⟨x0a, x0n, x0c, x1, x4, (wr (x12 + 1)), (wr (x13 - 1)), (Sc rfl (Sc rfl (Sc rfl (Sc rfl (Sc rfl Sn))))), Sn, h⟩
     ·rintro env pv hp ⟨x0a, x0n, x0c, x1, x4, x12, x13, he, hv, h⟩
      refine AWP.sub (env' := (upd (upd (upd (upd (upd E0 13 (sI x13)) 12 (sI x12)) 4 (sV x4)) 1 (sI x1)) 0 (sS x0a x0n x0c))) (pv' := V0) ?_ (Ru 0 (Ru 1 (Ru 4 (Ru 12 (Ru 13 Rn))))) he hv (HSub.refl _)
      clear he hv
      unfold F187_j4 at h
      refine AWP.seq (fun env pv hp => ∃ (x0a : Option Addr) (x0n : Nat) (x0c : Nat) (x1 : Int) (x13 : Int), Sub (upd (upd (upd E0 13 (sI x13)) 1 (sI x1)) 0 (sS x0a x0n x0c)) env ∧ Sub V0 pv ∧ (F187_j5 x0a x0n x0c x1 x13 hp  K)) ?_ ?_
      ·refine AWP.block ?_
       refine AWP.loop (σ := Int × Int) (fun I s hp => F187_l6 x0a x0n x0c x1 x4  K I s.1 s.2 hp) (fun s => (upd (upd (upd (upd (upd E0 13 (sI (s.2))) 12 (sI (s.1))) 4 (sV x4)) 1 (sI x1)) 0 (sS x0a x0n x0c))) (fun s => V0) (x12, x13) h (fun s => (Ru 0 (Ru 1 (Ru 4 (Ru 12 (Ru 13 Rn)))))) (Sc rfl (Sc rfl (Sc rfl (Sc rfl (Sc rfl Sn))))) Sn ?_
       intro I6 s hp h
       obtain ⟨x12, x13⟩ := s
       replace h : F187_l6 x0a x0n x0c x1 x4  K I6 x12 x13 hp := h
       unfold F187_l6 at h
       refine AWP.block ?_
       refine AWP.seq (fun env pv hp => ∃ (x12 : Int) (x13 : Int), Sub (upd (upd (upd (upd (upd E0 13 (sI x13)) 12 (sI x12)) 4 (sV x4)) 1 (sI x1)) 0 (sS x0a x0n x0c)) env ∧ Sub V0 pv ∧ (F187_j7 x0a x0n x0c x1 x4 x12 x13 hp I6 K)) ?_ ?_
       ·refine AWP.block ?_
        refine AWP.loop (σ := Int) (fun I s hp => F187_l11 x0a x0n x0c x1 x4 x13 I6 K I s hp) (fun s => (upd (upd (upd (upd (upd E0 13 (sI x13)) 12 (sI s)) 4 (sV x4)) 1 (sI x1)) 0 (sS x0a x0n x0c))) (fun s => V0) x12 h (fun s => (Ru 0 (Ru 1 (Ru 4 (Ru 12 (Ru 13 Rn)))))) (Sc rfl (Sc rfl (Sc rfl (Sc rfl (Sc rfl Sn))))) Sn ?_
        intro I11 s hp h
        obtain ⟨x12, hs⟩ : ∃ x, x = s := ⟨s, rfl⟩
        subst hs
        replace h : F187_l11 x0a x0n x0c x1 x4 x13 I6 K I11 x12 hp := h
        unfold F187_l11 at h
        refine AWP.seq' ?_
        refine AWP.seq (fun env pv hp => ∃ (x12 : Int) (x120 : Bool), Sub (upd (upd (upd (upd (upd (upd E0 120 (sB x120)) 13 (sI x13)) 12 (sI x12)) 4 (sV x4)) 1 (sI x1)) 0 (sS x0a x0n x0c)) env ∧ Sub V0 pv ∧ (F187_j12 x0a x0n x0c x1 x4 x12 x13 x120 hp I6 I11 K)) ?_ ?_
        ·refine AWP.rgnD (by kernel_rfl) (by kernel_rfl) (F187_r16 E0 x0a x0n x0c x1 x4 x12 x13 hp _) ?_ (Ru 0 (Ru 1 (Ru 4 (Ru 12 (Ru 13 Rn))))) (Sc rfl (Sc rfl (Sc rfl (Sc rfl (Sc rfl Sn))))) Sn
         refine mt h (fun h => ?_) (fun h => ?_)
         ·refine ⟨h.1, h.2.1, mN h.2.2 (fun b_85 o_86 h => mV h (fun v_87 h => ms h (fun s_88 h => ⟨h.1, h.2.1, mN h.2.2 fun b_89 o_90 h => mV h fun v_91 h => ms h fun s_92 h => mF h fun f_93 ga_94 gb_95 h => mC h fun u_96 h_97 h => mI h fun i_98 h => ?_⟩)))⟩
          exact ⟨x12, (decide (i_98 < 0)), (Sc rfl (Sc rfl (Sc rfl (Sc rfl (Sc rfl (Sc rfl Sn)))))), Sn, h⟩
         ·exact ⟨x12, false, (Sc rfl (Sc rfl (Sc rfl (Sc rfl (Sc rfl (Sc rfl Sn)))))), Sn, h⟩
        ·rintro env pv hp ⟨x12, x120, he, hv, h⟩
         refine AWP.sub (env' := (upd (upd (upd (upd (upd (upd E0 120 (sB x120)) 13 (sI x13)) 12 (sI x12)) 4 (sV x4)) 1 (sI x1)) 0 (sS x0a x0n x0c))) (pv' := V0) ?_ (Ru 0 (Ru 1 (Ru 4 (Ru 12 (Ru 13 (Ru 120 Rn)))))) he hv (HSub.refl _)
         clear he hv
         unfold F187_j12 at h
         refine AWP.cond (t := x120) rfl (fun e => ?_) (fun e => ?_)
         ·replace h := ite2_t h e
          refine AWP.skip ?_
          refine AWP.block ?_
          refine AWP.rgn (F187_r15 (upd (upd (upd (upd E0 13 (sI x13)) 4 (sV x4)) 1 (sI x1)) 0 (sS x0a x0n x0c)) x12 hp _) ?_ (Ru 12 (Ru 0 (Ru 1 (Ru 4 (Ru 13 Rn))))) (Sc rfl (Sc rfl (Sc rfl (Sc rfl (Sc rfl Sn))))) Sn
          exact ⟨(wr (x12 + 1)), (Sc rfl (Sc rfl (Sc rfl (Sc rfl (Sc rfl Sn))))), Sn, h⟩
         ·replace h := ite2_f h e
          refine AWP.exit ?_
          exact ⟨x12, x13, (Sc rfl (Sc rfl (Sc rfl (Sc rfl (Sc rfl Sn))))), Sn, h⟩
       ·rintro env pv hp ⟨x12, x13, he, hv, h⟩
        refine AWP.sub (env' := (upd (upd (upd (upd (upd E0 13 (sI x13)) 12 (sI x12)) 4 (sV x4)) 1 (sI x1)) 0 (sS x0a x0n x0c))) (pv' := V0) ?_ (Ru 0 (Ru 1 (Ru 4 (Ru 12 (Ru 13 Rn))))) he hv (HSub.refl _)
        clear he hv
        unfold F187_j7 at h
        refine AWP.seq (fun env pv hp => ∃ (x12 : Int) (x13 : Int), Sub (upd (upd (upd (upd (upd E0 13 (sI x13)) 12 (sI x12)) 4 (sV x4)) 1 (sI x1)) 0 (sS x0a x0n x0c)) env ∧ Sub V0 pv ∧ (F187_j8 x0a x0n x0c x1 x4 x12 x13 hp I6 K)) ?_ ?_
        ·refine AWP.block ?_
         refine AWP.loop (σ := Int) (fun I s hp => F187_l9 x0a x0n x0c x1 x4 x12 I6 K I s hp) (fun s => (upd (upd (upd (upd (upd E0 13 (sI s)) 12 (sI x12)) 4 (sV x4)) 1 (sI x1)) 0 (sS x0a x0n x0c))) (fun s => V0) x13 h (fun s => (Ru 0 (Ru 1 (Ru 4 (Ru 12 (Ru 13 Rn)))))) (Sc rfl (Sc rfl (Sc rfl (Sc rfl (Sc rfl Sn))))) Sn ?_
         intro I9 s hp h
         obtain ⟨x13, hs⟩ : ∃ x, x = s := ⟨s, rfl⟩
         subst hs
         replace h : F187_l9 x0a x0n x0c x1 x4 x12 I6 K I9 x13 hp := h
         unfold F187_l9 at h
         refine AWP.seq' ?_
         refine AWP.seq (fun env pv hp => ∃ (x13 : Int) (x139 : Bool), Sub (upd (upd (upd (upd (upd (upd E0 139 (sB x139)) 13 (sI x13)) 12 (sI x12)) 4 (sV x4)) 1 (sI x1)) 0 (sS x0a x0n x0c)) env ∧ Sub V0 pv ∧ (F187_j10 x0a x0n x0c x1 x4 x12 x13 x139 hp I6 I9 K)) ?_ ?_
         ·refine AWP.rgnD (by kernel_rfl) (by kernel_rfl) (F187_r14 E0 x0a x0n x0c x1 x4 x12 x13 hp _) ?_ (Ru 0 (Ru 1 (Ru 4 (Ru 12 (Ru 13 Rn))))) (Sc rfl (Sc rfl (Sc rfl (Sc rfl (Sc rfl Sn))))) Sn
          refine mt h (fun h => ?_) (fun h => ?_)
          ·refine ⟨h.1, h.2.1, mN h.2.2 (fun b_71 o_72 h => mV h (fun v_73 h => ms h (fun s_74 h => ⟨h.1, h.2.1, mN h.2.2 fun b_75 o_76 h => mV h fun v_77 h => ms h fun s_78 h => mF h fun f_79 ga_80 gb_81 h => mC h fun u_82 h_83 h => mI h fun i_84 h => ?_⟩)))⟩
           exact ⟨x13, (!(decide (i_84 < 0))), (Sc rfl (Sc rfl (Sc rfl (Sc rfl (Sc rfl (Sc rfl Sn)))))), Sn, h⟩
          ·exact ⟨x13, false, (Sc rfl (Sc rfl (Sc rfl (Sc rfl (Sc rfl (Sc rfl Sn)))))), Sn, h⟩
         ·rintro env pv hp ⟨x13, x139, he, hv, h⟩
          refine AWP.sub (env' := (upd (upd (upd (upd (upd (upd E0 139 (sB x139)) 13 (sI x13)) 12 (sI x12)) 4 (sV x4)) 1 (sI x1)) 0 (sS x0a x0n x0c))) (pv' := V0) ?_ (Ru 0 (Ru 1 (Ru 4 (Ru 12 (Ru 13 (Ru 139 Rn)))))) he hv (HSub.refl _)
          clear he hv
          unfold F187_j10 at h
          refine AWP.cond (t := x139) rfl (fun e => ?_) (fun e => ?_)
          ·replace h := ite2_t h e
           refine AWP.skip ?_
           refine AWP.block ?_
           refine AWP.rgn (F187_r13 (upd (upd (upd (upd E0 12 (sI x12)) 4 (sV x4)) 1 (sI x1)) 0 (sS x0a x0n x0c)) x13 hp _) ?_ (Ru 13 (Ru 0 (Ru 1 (Ru 4 (Ru 12 Rn))))) (Sc rfl (Sc rfl (Sc rfl (Sc rfl (Sc rfl Sn))))) Sn
           exact ⟨(wr (x13 - 1)), (Sc rfl (Sc rfl (Sc rfl (Sc rfl (Sc rfl Sn))))), Sn, h⟩
          ·replace h := ite2_f h e
           refine AWP.exit ?_
           exact ⟨x12, x13, (Sc rfl (Sc rfl (Sc rfl (Sc rfl (Sc rfl Sn))))), Sn, h⟩
        ·rintro env pv hp ⟨x12, x13, he, hv, h⟩
         refine AWP.sub (env' := (upd (upd (upd (upd (upd E0 13 (sI x13)) 12 (sI x12)) 4 (sV x4)) 1 (sI x1)) 0 (sS x0a x0n x0c))) (pv' := V0) ?_ (Ru 0 (Ru 1 (Ru 4 (Ru 12 (Ru 13 Rn))))) he hv (HSub.refl _)
         clear he hv
         unfold F187_j8 at h
         refine AWP.seq' ?_
         refine AWP.seq' ?_
         refine AWP.rgn (F187_r9 (upd (upd (upd E0 4 (sV x4)) 1 (sI x1)) 0 (sS x0a x0n x0c)) x12 x13 hp _) ?_ (Ru 12 (Ru 13 (Ru 0 (Ru 1 (Ru 4 Rn))))) (Sc rfl (Sc rfl (Sc rfl (Sc rfl (Sc rfl Sn))))) Sn
         refine AWP.cond (t := (decide (x12 > x13))) rfl (fun e => ?_) (fun e => ?_)
         ·replace h := ite2_t h e
          refine AWP.exit ?_
          exact ⟨x0a, x0n, x0c, x1, x13, (Sc rfl (Sc rfl (Sc rfl Sn))), Sn, h⟩
         ·replace h := ite2_f h e
          refine AWP.skip ?_
          refine AWP.seq' ?_
          refine AWP.rgnD (by kernel_rfl) (by kernel_rfl) (F187_r10 (upd (upd E0 4 (sV x4)) 1 (sI x1)) x0a x0n x0c x12 x13 hp _) ?_ (Ru 0 (Ru 12 (Ru 13 (Ru 1 (Ru 4 Rn))))) (Sc rfl (Sc rfl (Sc rfl (Sc rfl (Sc rfl Sn))))) Sn
          refine ⟨h.1, h.2.1, mN h.2.2 (fun b_57 o_58 h => mV h (fun v_59 h => ms h (fun s_60 h => ⟨h.1, h.2.1, mN h.2.2 (fun b_61 o_62 h => mV h (fun v_63 h => ms h (fun s_64 h => ⟨h.1, h.2.1, mN h.2.2 (fun b_65 o_66 h => mw h (fun h_67 h => ⟨h.1, h.2.1, mN h.2.2 fun b_68 o_69 h => mw h fun h_70 h => ?_⟩))⟩)))⟩)))⟩
          refine AWP.seq' ?_
          refine AWP.rgn (F187_r11 (upd (upd (upd (upd E0 13 (sI x13)) 4 (sV x4)) 1 (sI x1)) 0 (sS x0a x0n x0c)) x12 h_70 _) ?_ (Ru 12 (Ru 0 (Ru 1 (Ru 4 (Ru 13 Rn))))) (Sc rfl (Sc rfl (Sc rfl (Sc rfl (Sc rfl Sn))))) Sn
          refine AWP.rgn (F187_r12 (upd (upd (upd (upd E0 12 (sI ((wr (x12 + 1))))) 4 (sV x4)) 1 (sI x1)) 0 (sS x0a x0n x0c)) x13 h_70 _) ?_ (Ru 13 (Ru 0 (Ru 1 (Ru 4 (Ru 12 Rn))))) (Sc rfl (Sc rfl (Sc rfl (Sc rfl (Sc rfl Sn))))) Sn
          exact ⟨((wr (x12 + 1)), (wr (x13 - 1))), (Sc rfl (Sc rfl (Sc rfl (Sc rfl (Sc rfl Sn))))), Sn, h⟩
      ·rintro env pv hp ⟨x0a, x0n, x0c, x1, x13, he, hv, h⟩
       refine AWP.sub (env' := (upd (upd (upd E0 13 (sI x13)) 1 (sI x1)) 0 (sS x0a x0n x0c))) (pv' := V0) ?_ (Ru 0 (Ru 1 (Ru 13 Rn))) he hv (HSub.refl _)
       clear he hv
       unfold F187_j5 at h
       refine AWP.seq' ?_
       refine AWP.rgnD (by kernel_rfl) (by kernel_rfl) (F187_r7 E0 x0a x0n x0c x1 x13 hp _) ?_ (Ru 0 (Ru 1 (Ru 13 Rn))) (Sc rfl (Sc rfl (Sc rfl Sn))) Sn
       refine ⟨h.1, h.2.1, mN h.2.2 (fun b_43 o_44 h => mV h (fun v_45 h => ms h (fun s_46 h => ⟨h.1, h.2.1, mN h.2.2 (fun b_47 o_48 h => mV h (fun v_49 h => ms h (fun s_50 h => ⟨h.1, h.2.1, mN h.2.2 (fun b_51 o_52 h => mw h (fun h_53 h => ⟨h.1, h.2.1, mN h.2.2 fun b_54 o_55 h => mw h fun h_56 h => ?_⟩))⟩)))⟩)))⟩
       refine AWP.seq' ?_
       refine AWP.rgn (F187_r8 E0 x13 h_56 _) ?_ (Ru 13 Rn) (Sc rfl Sn) Sn
       refine AWP.ret ?_
       exact h
end
end Go.Proofs

set_option linter.unusedVariables false
set_option maxRecDepth 20000
namespace Go.Proofs
open Go Go.HL

section
variable {f : FuncId} {ga gb : List Value} {hp0 : HP} {b sp n c : Nat} {T : Type} [Inhabited T] {en : T → ByteArray} {cf : T → T → Int}

theorem S186 (hc : CmpOk1 Try.prog f ga gb hp0 b 9 sp n cf en) {d : Array T} {lo hi pv : Nat} {K : Value → HP → Prop} (hs : d.size = n) (hlo : lo < hi) (hf : hi ≤ n) (hp : pv < n) (hn : n ≤ 1000000000)
    (h : K (.int .i64 ((Sort.partitionEqual (ltC cf) d lo hi pv).1 : Nat)) (HA hp0 b 9 sp (ssT en) (Sort.partitionEqual (ltC cf) d lo hi pv).2)) :
    CF Try.prog 186 [.slice (some ⟨b, 0, none⟩) n c, .int .i64 lo, .int .i64 hi, .int .i64 pv, .func (.func f) ⟨ga⟩ ⟨gb⟩] (HA hp0 b 9 sp (ssT en) d) K := by
  refine F186_ok _ n c lo hi pv _ _ K ?_
  unfold F186
  refine swapP1 hs (i := lo) (j := pv) rfl rfl (by omega) (by omega) ?_
  unfold Sort.partitionEqual at h
  have hs1 : (Sort.swp d lo pv).size = n := by rw [swp_size]; exact hs
  generalize Sort.swp d lo pv = d1 at *
  have w1 : IntKind.wrap .i64 ((lo : Int) + 1) = ((lo + 1 : Nat) : Int) := wi (by omega) (by omega)
  have w2 : IntKind.wrap .i64 ((hi : Int) - 1) = ((hi - 1 : Nat) : Int) := wi (by omega) (by omega)
  rw [w1, w2]
  generalize hR : Sort.partEqLoop (ltC cf) lo (lo + 1) (hi - 1) d1 = R at h
  unfold F186_j1
  refine LoopP.by (J := fun k (s : Int × Int) hp => ∃ (i j : Nat) (d' : Array T), s = ((i : Int), (j : Int)) ∧ hp = HA hp0 b 9 sp (ssT en) d' ∧ d'.size = n ∧ lo < i ∧ i ≤ j + 2 ∧ j < n ∧ k = j + 1 - i ∧ Sort.partEqLoop (ltC cf) lo i j d' = R) ?_
    (n := hi - 1 + 1 - (lo + 1)) ⟨lo + 1, hi - 1, d1, rfl, rfl, hs1, by omega, by omega, by omega, rfl, hR⟩
  rintro I k x hp ⟨i, j, d', rfl, rfl, hs', hli, hij, hj, rfl, he⟩ hI
  unfold F186_l3
  simp only []
  rw [Sort.partEqLoop_eq] at he
  refine LoopP.by (J := fun m (y : Int) hp => ∃ (i' : Nat), y = i' ∧ hp = HA hp0 b 9 sp (ssT en) d' ∧ i ≤ i' ∧ i' ≤ j + 2 ∧ m = j + 2 - i' ∧ Sort.scanUp (fun x => !ltC cf d'[lo]! x) d' j i' = Sort.scanUp (fun x => !ltC cf d'[lo]! x) d' j i) ?_
    (n := j + 2 - i) ⟨i, rfl, rfl, Nat.le_refl _, hij, rfl, rfl⟩
  rintro I8 m y hp ⟨i', rfl, rfl, h1, h2, rfl, h7⟩ hI8
  unfold F186_l8
  rw [← h7] at he
  have out : Sort.scanUp (fun x => !ltC cf d'[lo]! x) d' j i' = i' → F186_j9 (some ⟨b, 0, none⟩) n c lo (.func (.func f) ⟨ga⟩ ⟨gb⟩) i' j false (HA hp0 b 9 sp (ssT en) d') I I8 K := by
    intro hq
    rw [hq] at he
    unfold F186_j9 F186_j4
    rw [ite2_false]
    refine LoopP.by (J := fun m (y : Int) hp => ∃ (j' : Nat), y = j' ∧ hp = HA hp0 b 9 sp (ssT en) d' ∧ j' ≤ j ∧ m = j' ∧ Sort.scanDown (fun x => ltC cf d'[lo]! x) d' i' j' = Sort.scanDown (fun x => ltC cf d'[lo]! x) d' i' j) ?_
      (n := j) ⟨j, rfl, rfl, Nat.le_refl _, rfl, rfl⟩
    rintro I6 m y hp ⟨j', rfl, rfl, g1, rfl, g7⟩ hI6
    unfold F186_l6
    rw [← g7] at he
    have out2 : Sort.scanDown (fun x => ltC cf d'[lo]! x) d' i' m = m → F186_j7 (some ⟨b, 0, none⟩) n c lo (.func (.func f) ⟨ga⟩ ⟨gb⟩) i' m false (HA hp0 b 9 sp (ssT en) d') I I6 K := by
      intro hq2
      rw [hq2] at he
      unfold F186_j7 F186_j5
      rw [ite2_false]
      by_cases hgt : i' > m
      · rw [if_pos hgt] at he
        rw [decide_eq_true (by omega : (i' : Int) > (m : Int)), ite2_true]
        unfold F186_j2
        rw [← he] at h
        exact h
      · rw [if_neg hgt] at he
        rw [decide_eq_false (by omega : ¬ (i' : Int) > (m : Int)), ite2_false]
        refine swapP1 hs' (i := i') (j := m) rfl rfl (by omega) (by omega) ?_
        have v1 : IntKind.wrap .i64 ((i' : Int) + 1) = ((i' + 1 : Nat) : Int) := wi (by omega) (by omega)
        have v2 : IntKind.wrap .i64 ((m : Int) - 1) = ((m - 1 : Nat) : Int) := wi (by omega) (by omega)
        rw [v1, v2]
        exact hI (m - 1 + 1 - (i' + 1)) _ _ (by omega) ⟨i' + 1, m - 1, _, rfl, rfl, by rw [swp_size]; exact hs', by omega, by omega, by omega, rfl, he⟩
    by_cases hle : i' ≤ m
    · rw [decide_eq_true (by omega : (i' : Int) ≤ (m : Int)), ite2_true]
      refine cmpP1 hc hs' (i := lo) (j := m) rfl rfl (by omega) (by omega) ?_
      have hl : decide (cf d'[lo]! d'[m]! < 0) = ltC cf d'[lo]! d'[m]! := rfl
      rw [hl]
      obtain ⟨m, rfl⟩ : ∃ m', m = m' + 1 := ⟨m - 1, by omega⟩
      cases hlt : ltC cf d'[lo]! d'[m + 1]!
      · refine out2 ?_
        rw [Sort.scanDown, hlt]
        simp
      · unfold F186_j7
        have v2 : IntKind.wrap .i64 (((m + 1 : Nat) : Int) - 1) = (m : Int) := wi (by omega) (by omega)
        rw [ite2_true, v2]
        refine hI6 m _ _ (by omega) ⟨m, rfl, rfl, by omega, rfl, ?_⟩
        rw [← g7, Sort.scanDown.eq_def _ _ _ (m + 1)]
        simp only [hlt, decide_eq_true hle, Bool.and_self, if_true]
    · rw [decide_eq_false (by omega : ¬ (i' : Int) ≤ (m : Int)), ite2_false]
      refine out2 ?_
      cases m with
      | zero => rw [Sort.scanDown]
      | succ m => rw [Sort.scanDown, decide_eq_false hle]; simp
  by_cases hle : i' ≤ j
  · rw [decide_eq_true (by omega : (i' : Int) ≤ (j : Int)), ite2_true]
    refine cmpP1 hc hs' (i := lo) (j := i') rfl rfl (by omega) (by omega) ?_
    have hl : decide (cf d'[lo]! d'[i']! < 0) = ltC cf d'[lo]! d'[i']! := rfl
    rw [hl]
    cases hlt : ltC cf d'[lo]! d'[i']!
    · unfold F186_j9
      have v2 : IntKind.wrap .i64 ((i' : Int) + 1) = ((i' + 1 : Nat) : Int) := wi (by omega) (by omega)
      simp only [Bool.not_false, ite2_true, v2]
      refine hI8 (j + 2 - (i' + 1)) _ _ (by omega) ⟨i' + 1, rfl, rfl, by omega, by omega, rfl, ?_⟩
      rw [← h7, Sort.scanUp.eq_def _ _ _ i']
      simp only [hlt, decide_eq_true hle, Bool.not_false, Bool.and_self, if_true]
    · simp only [Bool.not_true]
      refine out ?_
      rw [Sort.scanUp, hlt]
      simp
  · rw [decide_eq_false (by omega : ¬ (i' : Int) ≤ (j : Int)), ite2_false]
    refine out ?_
    rw [Sort.scanUp, decide_eq_false hle]
    simp

end
end Go.Proofs

set_option linter.unusedVariables false
set_option maxRecDepth 20000
namespace Go.Proofs
open Go Go.HL

section
variable {f : FuncId} {ga gb : List Value} {hp0 : HP} {b sp n c : Nat} {T : Type} [Inhabited T] {en : T → ByteArray} {cf : T → T → Int}

theorem S187 (hc : CmpOk1 Try.prog f ga gb hp0 b 9 sp n cf en) {d : Array T} {lo hi pv : Nat} {K : Value → HP → Prop} (hs : d.size = n) (hlo : lo < hi) (hf : hi ≤ n) (hp : pv < n) (hn : n ≤ 1000000000)
    (h : K (.tuple ⟨[.int .i64 ((Sort.partition (ltC cf) d lo hi pv).1 : Nat), .bool (Sort.partition (ltC cf) d lo hi pv).2.1]⟩) (HA hp0 b 9 sp (ssT en) (Sort.partition (ltC cf) d lo hi pv).2.2)) :
    CF Try.prog 187 [.slice (some ⟨b, 0, none⟩) n c, .int .i64 lo, .int .i64 hi, .int .i64 pv, .func (.func f) ⟨ga⟩ ⟨gb⟩] (HA hp0 b 9 sp (ssT en) d) K := by
  refine F187_ok _ n c lo hi pv _ _ K ?_
  unfold F187
  refine swapP1 hs (i := lo) (j := pv) rfl rfl (by omega) (by omega) ?_
  unfold Sort.partition at h
  have hs' : (Sort.swp d lo pv).size = n := by rw [swp_size]; exact hs
  generalize Sort.swp d lo pv = d' at *
  have w1 : IntKind.wrap .i64 ((lo : Int) + 1) = ((lo + 1 : Nat) : Int) := wi (by omega) (by omega)
  have w2 : IntKind.wrap .i64 ((hi : Int) - 1) = ((hi - 1 : Nat) : Int) := wi (by omega) (by omega)
  rw [w1, w2]
  simp only [] at h
  have hij : lo + 1 ≤ hi - 1 + 2 := by omega
  have hjn : hi - 1 < n := by omega
  have hli : lo < lo + 1 := by omega
  generalize hi0 : lo + 1 = i at *
  generalize hj0 : hi - 1 = j at *
  unfold F187_j1
  -- behind the first two scans
  have fin : ∀ (i' m : Nat), Sort.scanUp (fun x => ltC cf x d'[lo]!) d' j i = i' → Sort.scanDown (fun x => !ltC cf x d'[lo]!) d' i' j = m → i ≤ i' → i' ≤ j + 2 → m ≤ j → F187_j3 (some ⟨b, 0, none⟩) n c lo (.func (.func f) ⟨ga⟩ ⟨gb⟩) i' m (HA hp0 b 9 sp (ssT en) d') K := by
    intro i' m hq hq2 h1 h2 h3
    rw [hq, hq2] at h
    unfold F187_j3
    by_cases hgt : i' > m
    · rw [if_pos hgt] at h
      rw [decide_eq_true (by omega : (i' : Int) > (m : Int)), ite2_true]
      refine swapP1 hs' (i := m) (j := lo) rfl rfl (by omega) (by omega) ?_
      exact h
    rw [if_neg hgt] at h
    rw [decide_eq_false (by omega : ¬ (i' : Int) > (m : Int)), ite2_false]
    refine swapP1 hs' (i := i') (j := m) rfl rfl (by omega) (by omega) ?_
    have v1 : IntKind.wrap .i64 ((i' : Int) + 1) = ((i' + 1 : Nat) : Int) := wi (by omega) (by omega)
    have v2 : IntKind.wrap .i64 ((m : Int) - 1) = ((m - 1 : Nat) : Int) := wi (by omega) (by omega)
    rw [v1, v2]
    have hs2 : (Sort.swp d' i' m).size = n := by rw [swp_size]; exact hs'
    generalize Sort.swp d' i' m = d2 at *
    generalize hR : Sort.partLoop (ltC cf) lo (i' + 1) (m - 1) d2 = R at h
    unfold F187_j4
    refine LoopP.by (J := fun k (s : Int × Int) hp => ∃ (i j : Nat) (d' : Array T), s = ((i : Int), (j : Int)) ∧ hp = HA hp0 b 9 sp (ssT en) d' ∧ d'.size = n ∧ lo < i ∧ i ≤ j + 2 ∧ j < n ∧ k = j + 1 - i ∧ Sort.partLoop (ltC cf) lo i j d' = R) ?_
      (n := m - 1 + 1 - (i' + 1)) ⟨i' + 1, m - 1, d2, rfl, rfl, hs2, by omega, by omega, by omega, rfl, hR⟩
    clear hs' hij hjn hli hq hq2 h1 h2 h3 hR
    clear hi0 hj0
    rintro I6 k x hp ⟨i, j, d', rfl, rfl, hs', hli, hij, hj, rfl, he⟩ hI
    unfold F187_l6
    simp only []
    rw [Sort.partLoop_eq] at he
    have fin2 : ∀ (i' m : Nat), Sort.scanUp (fun x => ltC cf x d'[lo]!) d' j i = i' → Sort.scanDown (fun x => !ltC cf x d'[lo]!) d' i' j = m → i ≤ i' → i' ≤ j + 2 → m ≤ j → F187_j8 (some ⟨b, 0, none⟩) n c lo (.func (.func f) ⟨ga⟩ ⟨gb⟩) i' m (HA hp0 b 9 sp (ssT en) d') I6 K := by
      intro i' m hq hq2 h1 h2 h3
      rw [hq, hq2] at he
      unfold F187_j8
      by_cases hgt : i' > m
      · rw [if_pos hgt] at he
        rw [decide_eq_true (by omega : (i' : Int) > (m : Int)), ite2_true]
        unfold F187_j5
        rw [← he] at h
        refine swapP1 hs' (i := m) (j := lo) rfl rfl (by omega) (by omega) ?_
        exact h
      · rw [if_neg hgt] at he
        rw [decide_eq_false (by omega : ¬ (i' : Int) > (m : Int)), ite2_false]
        refine swapP1 hs' (i := i') (j := m) rfl rfl (by omega) (by omega) ?_
        have v1 : IntKind.wrap .i64 ((i' : Int) + 1) = ((i' + 1 : Nat) : Int) := wi (by omega) (by omega)
        have v2 : IntKind.wrap .i64 ((m : Int) - 1) = ((m - 1 : Nat) : Int) := wi (by omega) (by omega)
        rw [v1, v2]
        exact hI (m - 1 + 1 - (i' + 1)) _ _ (by omega) ⟨i' + 1, m - 1, _, rfl, rfl, by rw [swp_size]; exact hs', by omega, by omega, by omega, rfl, he⟩
    clear he
    refine LoopP.by (J := fun m (y : Int) hp => ∃ (i' : Nat), y = i' ∧ hp = HA hp0 b 9 sp (ssT en) d' ∧ i ≤ i' ∧ i' ≤ j + 2 ∧ m = j + 2 - i' ∧ Sort.scanUp (fun x => ltC cf x d'[lo]!) d' j i' = Sort.scanUp (fun x => ltC cf x d'[lo]!) d' j i) ?_
      (n := j + 2 - i) ⟨i, rfl, rfl, Nat.le_refl _, hij, rfl, rfl⟩
    rintro I11 m y hp ⟨i', rfl, rfl, h1, h2, rfl, h7⟩ hI11
    unfold F187_l11
    have out : Sort.scanUp (fun x => ltC cf x d'[lo]!) d' j i' = i' → F187_j12 (some ⟨b, 0, none⟩) n c lo (.func (.func f) ⟨ga⟩ ⟨gb⟩) i' j false (HA hp0 b 9 sp (ssT en) d') I6 I11 K := by
      intro hq
      rw [hq] at h7
      unfold F187_j12 F187_j7
      rw [ite2_false]
      refine LoopP.by (J := fun m (y : Int) hp => ∃ (j' : Nat), y = j' ∧ hp = HA hp0 b 9 sp (ssT en) d' ∧ j' ≤ j ∧ m = j' ∧ Sort.scanDown (fun x => !ltC cf x d'[lo]!) d' i' j' = Sort.scanDown (fun x => !ltC cf x d'[lo]!) d' i' j) ?_
        (n := j) ⟨j, rfl, rfl, Nat.le_refl _, rfl, rfl⟩
      rintro I9 m y hp ⟨j', rfl, rfl, g1, rfl, g7⟩ hI9
      unfold F187_l9
      have out2 : Sort.scanDown (fun x => !ltC cf x d'[lo]!) d' i' m = m → F187_j10 (some ⟨b, 0, none⟩) n c lo (.func (.func f) ⟨ga⟩ ⟨gb⟩) i' m false (HA hp0 b 9 sp (ssT en) d') I6 I9 K := by
        intro hq2
        rw [hq2] at g7
        unfold F187_j10
        rw [ite2_false]
        exact fin2 i' m h7.symm g7.symm h1 h2 g1
      by_cases hle : i' ≤ m
      · rw [decide_eq_true (by omega : (i' : Int) ≤ (m : Int)), ite2_true]
        refine cmpP1 hc hs' (i := m) (j := lo) rfl rfl (by omega) (by omega) ?_
        have hl : decide (cf d'[m]! d'[lo]! < 0) = ltC cf d'[m]! d'[lo]! := rfl
        rw [hl]
        obtain ⟨m, rfl⟩ : ∃ m', m = m' + 1 := ⟨m - 1, by omega⟩
        cases hlt : ltC cf d'[m + 1]! d'[lo]!
        · unfold F187_j10
          have v2 : IntKind.wrap .i64 (((m + 1 : Nat) : Int) - 1) = (m : Int) := wi (by omega) (by omega)
          simp only [Bool.not_false, ite2_true, v2]
          refine hI9 m _ _ (by omega) ⟨m, rfl, rfl, by omega, rfl, ?_⟩
          rw [← g7, Sort.scanDown.eq_def _ _ _ (m + 1)]
          simp only [hlt, decide_eq_true hle, Bool.not_false, Bool.and_self, if_true]
        · simp only [Bool.not_true]
          refine out2 ?_
          rw [Sort.scanDown, hlt]
          simp
      · rw [decide_eq_false (by omega : ¬ (i' : Int) ≤ (m : Int)), ite2_false]
        refine out2 ?_
        cases m with
        | zero => rw [Sort.scanDown]
        | succ m => rw [Sort.scanDown, decide_eq_false hle]; simp
    by_cases hle : i' ≤ j
    · rw [decide_eq_true (by omega : (i' : Int) ≤ (j : Int)), ite2_true]
      refine cmpP1 hc hs' (i := i') (j := lo) rfl rfl (by omega) (by omega) ?_
      have hl : decide (cf d'[i']! d'[lo]! < 0) = ltC cf d'[i']! d'[lo]! := rfl
      rw [hl]
      cases hlt : ltC cf d'[i']! d'[lo]!
      · refine out ?_
        rw [Sort.scanUp, hlt]
        simp
      · unfold F187_j12
        have v2 : IntKind.wrap .i64 ((i' : Int) + 1) = ((i' + 1 : Nat) : Int) := wi (by omega) (by omega)
        simp only [ite2_true, v2]
        refine hI11 (j + 2 - (i' + 1)) _ _ (by omega) ⟨i' + 1, rfl, rfl, by omega, by omega, rfl, ?_⟩
        rw [← h7, Sort.scanUp.eq_def _ _ _ i']
        simp only [hlt, decide_eq_true hle, Bool.and_self, if_true]
    · rw [decide_eq_false (by omega : ¬ (i' : Int) ≤ (j : Int)), ite2_false]
      refine out ?_
      rw [Sort.scanUp, decide_eq_false hle]
      simp
  refine LoopP.by (J := fun m (y : Int) hp => ∃ (i' : Nat), y = i' ∧ hp = HA hp0 b 9 sp (ssT en) d' ∧ i ≤ i' ∧ i' ≤ j + 2 ∧ m = j + 2 - i' ∧ Sort.scanUp (fun x => ltC cf x d'[lo]!) d' j i' = Sort.scanUp (fun x => ltC cf x d'[lo]!) d' j i) ?_
    (n := j + 2 - i) ⟨i, rfl, rfl, Nat.le_refl _, hij, rfl, rfl⟩
  rintro I15 m y hp ⟨i', rfl, rfl, h1, h2, rfl, h7⟩ hI15
  unfold F187_l15
  have out : Sort.scanUp (fun x => ltC cf x d'[lo]!) d' j i' = i' → F187_j16 (some ⟨b, 0, none⟩) n c lo (.func (.func f) ⟨ga⟩ ⟨gb⟩) i' j false (HA hp0 b 9 sp (ssT en) d')  I15 K := by
    intro hq
    rw [hq] at h7
    unfold F187_j16 F187_j2
    rw [ite2_false]
    refine LoopP.by (J := fun m (y : Int) hp => ∃ (j' : Nat), y = j' ∧ hp = HA hp0 b 9 sp (ssT en) d' ∧ j' ≤ j ∧ m = j' ∧ Sort.scanDown (fun x => !ltC cf x d'[lo]!) d' i' j' = Sort.scanDown (fun x => !ltC cf x d'[lo]!) d' i' j) ?_
      (n := j) ⟨j, rfl, rfl, Nat.le_refl _, rfl, rfl⟩
    rintro I13 m y hp ⟨j', rfl, rfl, g1, rfl, g7⟩ hI13
    unfold F187_l13
    have out2 : Sort.scanDown (fun x => !ltC cf x d'[lo]!) d' i' m = m → F187_j14 (some ⟨b, 0, none⟩) n c lo (.func (.func f) ⟨ga⟩ ⟨gb⟩) i' m false (HA hp0 b 9 sp (ssT en) d')  I13 K := by
      intro hq2
      rw [hq2] at g7
      unfold F187_j14
      rw [ite2_false]
      exact fin i' m h7.symm g7.symm h1 h2 g1
    by_cases hle : i' ≤ m
    · rw [decide_eq_true (by omega : (i' : Int) ≤ (m : Int)), ite2_true]
      refine cmpP1 hc hs' (i := m) (j := lo) rfl rfl (by omega) (by omega) ?_
      have hl : decide (cf d'[m]! d'[lo]! < 0) = ltC cf d'[m]! d'[lo]! := rfl
      rw [hl]
      obtain ⟨m, rfl⟩ : ∃ m', m = m' + 1 := ⟨m - 1, by omega⟩
      cases hlt : ltC cf d'[m + 1]! d'[lo]!
      · unfold F187_j14
        have v2 : IntKind.wrap .i64 (((m + 1 : Nat) : Int) - 1) = (m : Int) := wi (by omega) (by omega)
        simp only [Bool.not_false, ite2_true, v2]
        refine hI13 m _ _ (by omega) ⟨m, rfl, rfl, by omega, rfl, ?_⟩
        rw [← g7, Sort.scanDown.eq_def _ _ _ (m + 1)]
        simp only [hlt, decide_eq_true hle, Bool.not_false, Bool.and_self, if_true]
      · simp only [Bool.not_true]
        refine out2 ?_
        rw [Sort.scanDown, hlt]
        simp
    · rw [decide_eq_false (by omega : ¬ (i' : Int) ≤ (m : Int)), ite2_false]
      refine out2 ?_
      cases m with
      | zero => rw [Sort.scanDown]
      | succ m => rw [Sort.scanDown, decide_eq_false hle]; simp
  by_cases hle : i' ≤ j
  · rw [decide_eq_true (by omega : (i' : Int) ≤ (j : Int)), ite2_true]
    refine cmpP1 hc hs' (i := i') (j := lo) rfl rfl (by omega) (by omega) ?_
    have hl : decide (cf d'[i']! d'[lo]! < 0) = ltC cf d'[i']! d'[lo]! := rfl
    rw [hl]
    cases hlt : ltC cf d'[i']! d'[lo]!
    · refine out ?_
      rw [Sort.scanUp, hlt]
      simp
    · unfold F187_j16
      have v2 : IntKind.wrap .i64 ((i' : Int) + 1) = ((i' + 1 : Nat) : Int) := wi (by omega) (by omega)
      simp only [ite2_true, v2]
      refine hI15 (j + 2 - (i' + 1)) _ _ (by omega) ⟨i' + 1, rfl, rfl, by omega, by omega, rfl, ?_⟩
      rw [← h7, Sort.scanUp.eq_def _ _ _ i']
      simp only [hlt, decide_eq_true hle, Bool.and_self, if_true]
  · rw [decide_eq_false (by omega : ¬ (i' : Int) ≤ (j : Int)), ite2_false]
    refine out ?_
    rw [Sort.scanUp, decide_eq_false hle]
    simp

end
end Go.Proofs

set_option linter.unusedVariables false
set_option maxRecDepth 20000
namespace Go.Proofs
open Go Go.HL
-- 183 slices.choosePivotCmpFunc[string]
section
variable (e : Env) (x0a : Option Addr) (x0n x0c : Nat) (x1 x2 : Int) (x3 : Value) (x10 : Int) (x11 : Option Addr) (x12 x13 x14 x55 : Int) (hp : HP) (K : Env → PV → HP → Prop)
abbrev R183 (p : List Nat) (n : Nat) := RW Try.prog 63 [] (opsAt Try.f183 p) (List.range n)
theorem F183_r0 : R183 [0] 2 e V0 hp K =
    (K (upd (upd e 8 (sI 0)) 9 (sI 0)) V0 hp) := by kernel_rfl
theorem F183_r1 : R183 [1, 0] 4 (upd (upd e 2 (sI x2)) 1 (sI x1)) V0 hp K =
    (K (upd (upd (upd (upd (upd (upd e 2 (sI x2)) 1 (sI x1)) 15 (sI x2)) 16 (sI x1)) 17 (sI ((wr (x2 - x1))))) 10 (sI ((wr (x2 - x1))))) V0 hp) := by kernel_rfl
theorem F183_r2 : R183 [1, 1, 0] 1 e V0 hp K =
    (∀ b1 : Nat, hp b1 = .none → (K (upd e 11 (sQ b1 0)) V0 (HP.set hp b1 (.cells 3 [.int .i64 0] 0)))) := by kernel_rfl
theorem F183_r3 : R183 [1, 1, 1, 0] 6 (upd (upd e 10 (sI x10)) 1 (sI x1)) V0 hp K =
    (((4 : Int) ≠ 0) ∧ (K (upd (upd (upd (upd (upd (upd (upd (upd e 10 (sI x10)) 1 (sI x1)) 18 (sI x1)) 19 (sI x10)) 20 (sI ((wr (Int.tdiv x10 4))))) 21 (sI ((wr ((wr (Int.tdiv x10 4)) * 1))))) 22 (sI ((wr (x1 + (wr ((wr (Int.tdiv x10 4)) * 1))))))) 12 (sI ((wr (x1 + (wr ((wr (Int.tdiv x10 4)) * 1))))))) V0 hp)) := by kernel_rfl
theorem F183_r4 : R183 [1, 1, 1, 1, 0] 6 (upd (upd e 10 (sI x10)) 1 (sI x1)) V0 hp K =
    (((4 : Int) ≠ 0) ∧ (K (upd (upd (upd (upd (upd (upd (upd (upd e 10 (sI x10)) 1 (sI x1)) 23 (sI x1)) 24 (sI x10)) 25 (sI ((wr (Int.tdiv x10 4))))) 26 (sI ((wr ((wr (Int.tdiv x10 4)) * 2))))) 27 (sI ((wr (x1 + (wr ((wr (Int.tdiv x10 4)) * 2))))))) 13 (sI ((wr (x1 + (wr ((wr (Int.tdiv x10 4)) * 2))))))) V0 hp)) := by kernel_rfl
theorem F183_r5 : R183 [1, 1, 1, 1, 1, 0] 6 (upd (upd e 10 (sI x10)) 1 (sI x1)) V0 hp K =
    (((4 : Int) ≠ 0) ∧ (K (upd (upd (upd (upd (upd (upd (upd (upd e 10 (sI x10)) 1 (sI x1)) 28 (sI x1)) 29 (sI x10)) 30 (sI ((wr (Int.tdiv x10 4))))) 31 (sI ((wr ((wr (Int.tdiv x10 4)) * 3))))) 32 (sI ((wr (x1 + (wr ((wr (Int.tdiv x10 4)) * 3))))))) 14 (sI ((wr (x1 + (wr ((wr (Int.tdiv x10 4)) * 3))))))) V0 hp)) := by kernel_rfl
theorem F183_r6 : R183 [1, 1, 1, 1, 1, 1, 1, 0] 1 (upd e 11 (sP x11)) V0 hp K =
    (ptrN x11 fun b1 o2 => (ldV (HP.cell hp b1 o2) fun v3 => (intV v3 .i64 fun i4 => (K (upd (upd e 11 (sP x11)) 55 (sI i4)) V0 hp)))) := by kernel_rfl
theorem F183_r7 : R183 [1, 1, 1, 1, 1, 1, 1, 1, 0, 0] 2 (upd e 55 (sI x55)) V0 hp K =
    (K (upd (upd (upd e 55 (sI x55)) 58 (sB ((x55 == 0)))) 57 (sB ((x55 == 0)))) V0 hp) := by kernel_rfl
theorem F183_r8 : R183 [1, 1, 1, 1, 1, 1, 1, 1, 0, 1, 0, 0] 3 (upd e 13 (sI x13)) V0 hp K =
    (K (upd (upd (upd (upd e 13 (sI x13)) 59 (sI x13)) 8 (sI x13)) 9 (sI 1)) V0 hp) := by kernel_rfl
theorem F183_r9 : R183 [1, 1, 1, 1, 1, 1, 1, 1, 0, 1, 1, 0] 2 (upd e 55 (sI x55)) V0 hp K =
    (K (upd (upd (upd e 55 (sI x55)) 61 (sB ((x55 == 12)))) 60 (sB ((x55 == 12)))) V0 hp) := by kernel_rfl
theorem F183_r10 : R183 [1, 1, 1, 1, 1, 1, 1, 1, 0, 1, 1, 1, 0, 0] 3 (upd e 13 (sI x13)) V0 hp K =
    (K (upd (upd (upd (upd e 13 (sI x13)) 62 (sI x13)) 8 (sI x13)) 9 (sI 2)) V0 hp) := by kernel_rfl
theorem F183_r11 : R183 [1, 1, 1, 1, 1, 1, 1, 1, 0, 1, 1, 1, 1, 0] 3 (upd e 13 (sI x13)) V0 hp K =
    (K (upd (upd (upd (upd e 13 (sI x13)) 56 (sI x13)) 8 (sI x13)) 9 (sI 0)) V0 hp) := by kernel_rfl
def F183_j1 (x11 : Option Addr) (x13 : Int) (hp : HP) (K : Value → HP → Prop) : Prop :=
  (ptrN x11 fun b_2 o_3 => (ldV (HP.cell hp b_2 o_3) fun v_4 => (intV v_4 .i64 fun i_5 => (ite2 (i_5 == 0) (K (.tuple ⟨[(.int .i64 x13), (.int .i64 1)]⟩) hp) (ite2 (i_5 == 12) (K (.tuple ⟨[(.int .i64 x13), (.int .i64 2)]⟩) hp) (K (.tuple ⟨[(.int .i64 x13), .int .i64 0]⟩) hp))))))
theorem F183_r12 : R183 [1, 1, 1, 1, 1, 1, 0, 0] 2 (upd e 10 (sI x10)) V0 hp K =
    (K (upd (upd (upd e 10 (sI x10)) 33 (sI x10)) 34 (sB (decide (x10 ≥ 8)))) V0 hp) := by kernel_rfl
theorem F183_r13 : R183 [1, 1, 1, 1, 1, 1, 0, 1, 0, 1] 7 (upd (upd (upd (upd (upd (upd e 14 (sI x14)) 13 (sI x13)) 12 (sI x12)) 11 (sP x11)) 3 (sV x3)) 0 (sS x0a x0n x0c)) V0 hp K =
    (CF Try.prog 194 [(.slice x0a x0n x0c), (.int .i64 x12), (.int .i64 x13), (.int .i64 x14), (.pointer x11), x3] hp fun u1 h2 => (intV u1 .i64 fun i3 => (K (upd (upd (upd (upd (upd (upd (upd (upd (upd (upd (upd (upd (upd e 14 (sI x14)) 13 (sI x13)) 12 (sI x12)) 11 (sP x11)) 3 (sV x3)) 0 (sS x0a x0n x0c)) 49 (sS x0a x0n x0c)) 50 (sI x12)) 51 (sI x13)) 52 (sI x14)) 53 (sV x3)) 54 (sI i3)) 13 (sI i3)) V0 h2))) := by kernel_rfl
def F183_j2 (x0a : Option Addr) (x0n : Nat) (x0c : Nat) (x3 : Value) (x11 : Option Addr) (x12 : Int) (x13 : Int) (x14 : Int) (hp : HP) (K : Value → HP → Prop) : Prop :=
  (CF Try.prog 194 [(.slice x0a x0n x0c), (.int .i64 x12), (.int .i64 x13), (.int .i64 x14), (.pointer x11), x3] hp fun u_6 h_7 => (intV u_6 .i64 fun i_8 => (F183_j1 x11 i_8 h_7  K)))
theorem F183_r14 : R183 [1, 1, 1, 1, 1, 1, 0, 1, 0, 0, 0] 2 (upd e 10 (sI x10)) V0 hp K =
    (K (upd (upd (upd e 10 (sI x10)) 35 (sI x10)) 36 (sB (decide (x10 ≥ 50)))) V0 hp) := by kernel_rfl
theorem F183_r15 : R183 [1, 1, 1, 1, 1, 1, 0, 1, 0, 0, 1, 0, 0] 5 (upd (upd (upd (upd e 12 (sI x12)) 11 (sP x11)) 3 (sV x3)) 0 (sS x0a x0n x0c)) V0 hp K =
    (CF Try.prog 193 [(.slice x0a x0n x0c), (.int .i64 x12), (.pointer x11), x3] hp fun u1 h2 => (intV u1 .i64 fun i3 => (K (upd (upd (upd (upd (upd (upd (upd (upd (upd e 12 (sI x12)) 11 (sP x11)) 3 (sV x3)) 0 (sS x0a x0n x0c)) 37 (sS x0a x0n x0c)) 38 (sI x12)) 39 (sV x3)) 40 (sI i3)) 12 (sI i3)) V0 h2))) := by kernel_rfl
theorem F183_r16 : R183 [1, 1, 1, 1, 1, 1, 0, 1, 0, 0, 1, 0, 1, 0] 5 (upd (upd (upd (upd e 13 (sI x13)) 11 (sP x11)) 3 (sV x3)) 0 (sS x0a x0n x0c)) V0 hp K =
    (CF Try.prog 193 [(.slice x0a x0n x0c), (.int .i64 x13), (.pointer x11), x3] hp fun u1 h2 => (intV u1 .i64 fun i3 => (K (upd (upd (upd (upd (upd (upd (upd (upd (upd e 13 (sI x13)) 11 (sP x11)) 3 (sV x3)) 0 (sS x0a x0n x0c)) 41 (sS x0a x0n x0c)) 42 (sI x13)) 43 (sV x3)) 44 (sI i3)) 13 (sI i3)) V0 h2))) := by kernel_rfl
theorem F183_r17 : R183 [1, 1, 1, 1, 1, 1, 0, 1, 0, 0, 1, 0, 1, 1] 5 (upd (upd (upd (upd e 14 (sI x14)) 11 (sP x11)) 3 (sV x3)) 0 (sS x0a x0n x0c)) V0 hp K =
    (CF Try.prog 193 [(.slice x0a x0n x0c), (.int .i64 x14), (.pointer x11), x3] hp fun u1 h2 => (intV u1 .i64 fun i3 => (K (upd (upd (upd (upd (upd (upd (upd (upd (upd e 14 (sI x14)) 11 (sP x11)) 3 (sV x3)) 0 (sS x0a x0n x0c)) 45 (sS x0a x0n x0c)) 46 (sI x14)) 47 (sV x3)) 48 (sI i3)) 14 (sI i3)) V0 h2))) := by kernel_rfl
def F183 (x0a : Option Addr) (x0n : Nat) (x0c : Nat) (x1 : Int) (x2 : Int) (x3 : Value) (hp : HP) (K : Value → HP → Prop) : Prop :=
  (∀ b_1 : Nat, hp b_1 = .none → (((4 : Int) ≠ 0) ∧ (((4 : Int) ≠ 0) ∧ (((4 : Int) ≠ 0) ∧ (ite2 (decide (((IntKind.wrap .i64 (x2 - x1)) : Int) ≥ 8)) (ite2 (decide (((IntKind.wrap .i64 (x2 - x1)) : Int) ≥ 50)) (CF Try.prog 193 [(.slice x0a x0n x0c), (.int .i64 (IntKind.wrap .i64 (x1 + (IntKind.wrap .i64 ((IntKind.wrap .i64 (Int.tdiv (IntKind.wrap .i64 (x2 - x1)) 4)) * 1))))), (.pointer (some ⟨b_1, 0, none⟩)), x3] (HP.set hp b_1 (.cells 3 [.int .i64 0] 0)) fun u_9 h_10 => (intV u_9 .i64 fun i_11 => (CF Try.prog 193 [(.slice x0a x0n x0c), (.int .i64 (IntKind.wrap .i64 (x1 + (IntKind.wrap .i64 ((IntKind.wrap .i64 (Int.tdiv (IntKind.wrap .i64 (x2 - x1)) 4)) * 2))))), (.pointer (some ⟨b_1, 0, none⟩)), x3] h_10 fun u_12 h_13 => (intV u_12 .i64 fun i_14 => (CF Try.prog 193 [(.slice x0a x0n x0c), (.int .i64 (IntKind.wrap .i64 (x1 + (IntKind.wrap .i64 ((IntKind.wrap .i64 (Int.tdiv (IntKind.wrap .i64 (x2 - x1)) 4)) * 3))))), (.pointer (some ⟨b_1, 0, none⟩)), x3] h_13 fun u_15 h_16 => (intV u_15 .i64 fun i_17 => (F183_j2 x0a x0n x0c x3 (some ⟨b_1, 0, none⟩) i_11 i_14 i_17 h_16  K))))))) (F183_j2 x0a x0n x0c x3 (some ⟨b_1, 0, none⟩) (IntKind.wrap .i64 (x1 + (IntKind.wrap .i64 ((IntKind.wrap .i64 (Int.tdiv (IntKind.wrap .i64 (x2 - x1)) 4)) * 1)))) (IntKind.wrap .i64 (x1 + (IntKind.wrap .i64 ((IntKind.wrap .i64 (Int.tdiv (IntKind.wrap .i64 (x2 - x1)) 4)) * 2)))) (IntKind.wrap .i64 (x1 + (IntKind.wrap .i64 ((IntKind.wrap .i64 (Int.tdiv (IntKind.wrap .i64 (x2 - x1)) 4)) * 3)))) (HP.set hp b_1 (.cells 3 [.int .i64 0] 0))  K)) (F183_j1 (some ⟨b_1, 0, none⟩) (IntKind.wrap .i64 (x1 + (IntKind.wrap .i64 ((IntKind.wrap .i64 (Int.tdiv (IntKind.wrap .i64 (x2 - x1)) 4)) * 2)))) (HP.set hp b_1 (.cells 3 [.int .i64 0] 0))  K))))))
noncomputable def F183_code : Code := (.seq (.region 0 (opsAt Try.f183 [0]) false) (.seq (.region 1 (opsAt Try.f183 [1, 0]) false) (.seq (.region 2 (opsAt Try.f183 [1, 1, 0]) false) (.seq (.region 3 (opsAt Try.f183 [1, 1, 1, 0]) false) (.seq (.region 4 (opsAt Try.f183 [1, 1, 1, 1, 0]) false) (.seq (.region 5 (opsAt Try.f183 [1, 1, 1, 1, 1, 0]) false) (.seq (.seq (.region 6 (opsAt Try.f183 [1, 1, 1, 1, 1, 1, 0, 0]) false) (.cond (.tmp 34) (.seq (.seq (.region 7 (opsAt Try.f183 [1, 1, 1, 1, 1, 1, 0, 1, 0, 0, 0]) false) (.cond (.tmp 36) (.seq (.region 8 (opsAt Try.f183 [1, 1, 1, 1, 1, 1, 0, 1, 0, 0, 1, 0, 0]) false) (.seq (.region 9 (opsAt Try.f183 [1, 1, 1, 1, 1, 1, 0, 1, 0, 0, 1, 0, 1, 0]) false) (.region 10 (opsAt Try.f183 [1, 1, 1, 1, 1, 1, 0, 1, 0, 0, 1, 0, 1, 1]) false))) .skip)) (.region 11 (opsAt Try.f183 [1, 1, 1, 1, 1, 1, 0, 1, 0, 1]) false)) .skip)) (.seq (.region 12 (opsAt Try.f183 [1, 1, 1, 1, 1, 1, 1, 0]) false) (.block 0 (.seq (.region 14 (opsAt Try.f183 [1, 1, 1, 1, 1, 1, 1, 1, 0, 0]) false) (.cond (.tmp 57) (.seq (.region 15 (opsAt Try.f183 [1, 1, 1, 1, 1, 1, 1, 1, 0, 1, 0, 0]) false) .ret) (.seq (.region 16 (opsAt Try.f183 [1, 1, 1, 1, 1, 1, 1, 1, 0, 1, 1, 0]) false) (.cond (.tmp 60) (.seq (.region 17 (opsAt Try.f183 [1, 1, 1, 1, 1, 1, 1, 1, 0, 1, 1, 1, 0, 0]) false) .ret) (.seq (.region 13 (opsAt Try.f183 [1, 1, 1, 1, 1, 1, 1, 1, 0, 1, 1, 1, 1, 0]) false) .ret))))))))))))))
theorem F183_body : Try.f183.body = some F183_code := by kernel_rfl
theorem F183_ok (x0a : Option Addr) (x0n : Nat) (x0c : Nat) (x1 : Int) (x2 : Int) (x3 : Value) (hp : HP) (K : Value → HP → Prop) (h : F183 x0a x0n x0c x1 x2 x3 hp K) : CF Try.prog 183 [(.slice x0a x0n x0c), (.int .i64 x1), (.int .i64 x2), x3] hp K := by
 refine .inl ⟨by kernel_rfl, AC.intro (N := 63) Try.func183 F183_body rfl (Nat.le_of_ble_eq_true rfl) ?_⟩
 unfold F183 at h
 unfold F183_code
 refine AWP.seq' ?_
 refine AWP.rgn (F183_r0 (upd (upd (upd (upd E0 3 (sV x3)) 2 (sI x2)) 1 (sI x1)) 0 (sS x0a x0n x0c))  hp _) ?_ (Ru 0 (Ru 1 (Ru 2 (Ru 3 Rn)))) (Sc rfl (Sc rfl (Sc rfl (Sc rfl Sn)))) Sn
 refine AWP.seq' ?_
 refine AWP.rgn (F183_r1 (upd (upd E0 3 (sV x3)) 0 (sS x0a x0n x0c)) x1 x2 hp _) ?_ (Ru 1 (Ru 2 (Ru 0 (Ru 3 Rn)))) (Sc rfl (Sc rfl (Sc rfl (Sc rfl Sn)))) Sn
 refine AWP.seq' ?_
 refine AWP.rgn (F183_r2 (upd (upd (upd (upd E0 10 (sI ((wr (x2 - x1))))) 3 (sV x3)) 1 (sI x1)) 0 (sS x0a x0n x0c))  hp _) ?_ (Ru 0 (Ru 1 (Ru 3 (Ru 10 Rn)))) (Sc rfl (Sc rfl (Sc rfl (Sc rfl Sn)))) Sn
 refine fun b_1 hb_b_1 => ?_
 replace h := h b_1 hb_b_1
 refine AWP.seq' ?_
 refine AWP.rgn (F183_r3 (upd (upd (upd E0 11 (sV (.pointer (some ⟨b_1, 0, none⟩)))) 3 (sV x3)) 0 (sS x0a x0n x0c)) x1 (wr (x2 - x1)) (HP.set hp b_1 (.cells 3 [.int .i64 0] 0)) _) ?_ (Ru 1 (Ru 10 (Ru 0 (Ru 3 (Ru 11 Rn))))) (Sc rfl (Sc rfl (Sc rfl (Sc rfl (Sc rfl Sn))))) Sn
 refine ⟨h.1, ?_⟩
 replace h := h.2
 refine AWP.seq' ?_
 refine AWP.rgn (F183_r4 (upd (upd (upd (upd E0 12 (sI ((wr (x1 + (wr ((wr (Int.tdiv (wr (x2 - x1)) 4)) * 1))))))) 11 (sV (.pointer (some ⟨b_1, 0, none⟩)))) 3 (sV x3)) 0 (sS x0a x0n x0c)) x1 (wr (x2 - x1)) (HP.set hp b_1 (.cells 3 [.int .i64 0] 0)) _) ?_ (Ru 1 (Ru 10 (Ru 0 (Ru 3 (Ru 11 (Ru 12 Rn)))))) (Sc rfl (Sc rfl (Sc rfl (Sc rfl (Sc rfl (Sc rfl Sn)))))) Sn
 refine ⟨h.1, ?_⟩
 replace h := h.2
 refine AWP.seq' ?_
 refine AWP.rgn (F183_r5 (upd (upd (upd (upd (upd E0 13 (sI ((wr (x1 + (wr ((wr (Int.tdiv (wr (x2 - x1)) 4)) * 2))))))) 12 (sI ((wr (x1 + (wr ((wr (Int.tdiv (wr (x2 - x1)) 4)) * 1))))))) 11 (sV (.pointer (some ⟨b_1, 0, none⟩)))) 3 (sV x3)) 0 (sS x0a x0n x0c)) x1 (wr (x2 - x1)) (HP.set hp b_1 (.cells 3 [.int .i64 0] 0)) _) ?_ (Ru 1 (Ru 10 (Ru 0 (Ru 3 (Ru 11 (Ru 12 (Ru 13 Rn))))))) (Sc rfl (Sc rfl (Sc rfl (Sc rfl (Sc rfl (Sc rfl (Sc rfl Sn))))))) Sn
 refine ⟨h.1, ?_⟩
 replace h := h.2
 refine AWP.seq (fun env pv hp => ∃ (x11 : Option Addr) (x13 : Int), Sub (upd (upd E0 13 (sI x13)) 11 (sP x11)) env ∧ Sub V0 pv ∧ (F183_j1 x11 x13 hp  K)) ?_ ?_
 ·refine AWP.seq' ?_
  refine AWP.rgn (F183_r12 (upd (upd (upd (upd (upd (upd E0 14 (sI ((wr (x1 + (wr ((wr (Int.tdiv (wr (x2 - x1)) 4)) * 3))))))) 13 (sI ((wr (x1 + (wr ((wr (Int.tdiv (wr (x2 - x1)) 4)) * 2))))))) 12 (sI ((wr (x1 + (wr ((wr (Int.tdiv (wr (x2 - x1)) 4)) * 1))))))) 11 (sV (.pointer (some ⟨b_1, 0, none⟩)))) 3 (sV x3)) 0 (sS x0a x0n x0c)) (wr (x2 - x1)) (HP.set hp b_1 (.cells 3 [.int .i64 0] 0)) _) ?_ (Ru 10 (Ru 0 (Ru 3 (Ru 11 (Ru 12 (Ru 13 (Ru 14 Rn))))))) (Sc rfl (Sc rfl (Sc rfl (Sc rfl (Sc rfl (Sc rfl (Sc rfl Sn))))))) Sn
  refine AWP.cond (t := (decide (((wr (x2 - x1)) : Int) ≥ 8))) rfl (fun e => ?_) (fun e => ?_)
  ·replace h := ite2_t h e
   refine AWP.seq (fun env pv hp => ∃ (x0a : Option Addr) (x0n : Nat) (x0c : Nat) (x3 : Value) (x11 : Option Addr) (x12 : Int) (x13 : Int) (x14 : Int), Sub (upd (upd (upd (upd (upd (upd E0 14 (sI x14)) 13 (sI x13)) 12 (sI x12)) 11 (sP x11)) 3 (sV x3)) 0 (sS x0a x0n x0c)) env ∧ Sub V0 pv ∧ (F183_j2 x0a x0n x0c x3 x11 x12 x13 x14 hp  K)) ?_ ?_
   ·refine AWP.seq' ?_
    refine AWP.rgn (F183_r14 (upd (upd (upd (upd (upd (upd E0 14 (sI ((wr (x1 + (wr ((wr (Int.tdiv (wr (x2 - x1)) 4)) * 3))))))) 13 (sI ((wr (x1 + (wr ((wr (Int.tdiv (wr (x2 - x1)) 4)) * 2))))))) 12 (sI ((wr (x1 + (wr ((wr (Int.tdiv (wr (x2 - x1)) 4)) * 1))))))) 11 (sV (.pointer (some ⟨b_1, 0, none⟩)))) 3 (sV x3)) 0 (sS x0a x0n x0c)) (wr (x2 - x1)) (HP.set hp b_1 (.cells 3 [.int .i64 0] 0)) _) ?_ (Ru 10 (Ru 0 (Ru 3 (Ru 11 (Ru 12 (Ru 13 (Ru 14 Rn))))))) (Sc rfl (Sc rfl (Sc rfl (Sc rfl (Sc rfl (Sc rfl (Sc rfl Sn))))))) Sn
    refine AWP.cond (t := (decide (((wr (x2 - x1)) : Int) ≥ 50))) rfl (fun e => ?_) (fun e => ?_)
    ·replace h := ite2_t h e
     refine AWP.seq' ?_
     refine AWP.rgn (F183_r15 (upd (upd E0 14 (sI ((wr (x1 + (wr ((wr (Int.tdiv (wr (x2 - x1)) 4)) * 3))))))) 13 (sI ((wr (x1 + (wr ((wr (Int.tdiv (wr (x2 - x1)) 4)) * 2))))))) x0a x0n x0c x3 (some ⟨b_1, 0, none⟩) (wr (x1 + (wr ((wr (Int.tdiv (wr (x2 - x1)) 4)) * 1)))) (HP.set hp b_1 (.cells 3 [.int .i64 0] 0)) _) ?_ (Ru 0 (Ru 3 (Ru 11 (Ru 12 (Ru 13 (Ru 14 Rn)))))) (Sc rfl (Sc rfl (Sc rfl (Sc rfl (Sc rfl (Sc rfl Sn)))))) Sn
     refine mC h fun u_9 h_10 h => mI h fun i_11 h => ?_
     refine AWP.seq' ?_
     refine AWP.rgn (F183_r16 (upd (upd E0 14 (sI ((wr (x1 + (wr ((wr (Int.tdiv (wr (x2 - x1)) 4)) * 3))))))) 12 (sI i_11)) x0a x0n x0c x3 (some ⟨b_1, 0, none⟩) (wr (x1 + (wr ((wr (Int.tdiv (wr (x2 - x1)) 4)) * 2)))) h_10 _) ?_ (Ru 0 (Ru 3 (Ru 11 (Ru 13 (Ru 12 (Ru 14 Rn)))))) (Sc rfl (Sc rfl (Sc rfl (Sc rfl (Sc rfl (Sc rfl Sn)))))) Sn
     refine mC h fun u_12 h_13 h => mI h fun i_14 h => ?_
     refine AWP.rgn (F183_r17 (upd (upd E0 13 (sI i_14)) 12 (sI i_11)) x0a x0n x0c x3 (some ⟨b_1, 0, none⟩) (wr (x1 + (wr ((wr (Int.tdiv (wr (x2 - x1)) 4)) * 3)))) h_13 _) ?_ (Ru 0 (Ru 3 (Ru 11 (Ru 14 (Ru 12 (Ru 13 Rn)))))) (Sc rfl (Sc rfl (Sc rfl (Sc rfl (Sc rfl (Sc rfl Sn)))))) Sn
     refine mC h fun u_15 h_16 h => mI h fun i_17 h => ?_
     exact ⟨x0a, x0n, x0c, x3, (some ⟨b_1, 0, none⟩), i_11, i_14, i_17, (Sc rfl (Sc rfl (Sc rfl (Sc rfl (Sc rfl (Sc rfl Sn)))))), Sn, h⟩
    ·replace h := ite2_f h e
     refine AWP.skip ?_
     exact ⟨x0a, x0n, x0c, x3, (some ⟨b_1, 0, none⟩), (wr (x1 + (wr ((wr (Int.tdiv (wr (x2 - x1)) 4)) * 1)))), (wr (x1 + (wr ((wr (Int.tdiv (wr (x2 - x1)) 4)) * 2)))), (wr (x1 + (wr ((wr (Int.tdiv (wr (x2 - x1)) 4)) * 3)))), (Sc rfl (Sc rfl (Sc rfl (Sc rfl (Sc rfl (Sc rfl Sn)))))), Sn, h⟩
   ·rintro env pv hp ⟨x0a, x0n, x0c, x3, x11, x12, x13, x14, he, hv, h⟩
    refine AWP.sub (env' := (upd (upd (upd (upd (upd (upd E0 14 (sI x14)) 13 (sI x13)) 12 (sI x12)) 11 (sP x11)) 3 (sV x3)) 0 (sS x0a x0n x0c))) (pv' := V0) ?_ (Ru 0 (Ru 3 (Ru 11 (Ru 12 (Ru 13 (Ru 14 Rn)))))) he hv (HSub.refl _)
    clear he hv
    unfold F183_j2 at h
    refine AWP.rgn (F183_r13 E0 x0a x0n x0c x3 x11 x12 x13 x14 hp _) ?_ (Ru 0 (Ru 3 (Ru 11 (Ru 12 (Ru 13 (Ru 14 Rn)))))) (Sc rfl (Sc rfl (Sc rfl (Sc rfl (Sc rfl (Sc rfl Sn)))))) Sn
    refine mC h fun u_6 h_7 h => mI h fun i_8 h => ?_
    exact ⟨x11, i_8, (Sc rfl (Sc rfl Sn)), Sn, h⟩
  ·replace h := ite2_f h e
   refine AWP.skip ?_
   exact ⟨(some ⟨b_1, 0, none⟩), (wr (x1 + (wr ((wr (Int.tdiv (wr (x2 - x1)) 4)) * 2)))), (Sc rfl (Sc rfl Sn)), Sn, h⟩
 ·rintro env pv hp ⟨x11, x13, he, hv, h⟩
  refine AWP.sub (env' := (upd (upd E0 13 (sI x13)) 11 (sP x11))) (pv' := V0) ?_ (Ru 11 (Ru 13 Rn)) he hv (HSub.refl _)
  clear he hv
  unfold F183_j1 at h
  refine AWP.seq' ?_
  refine AWP.rgn (F183_r6 (upd E0 13 (sI x13)) x11 hp _) ?_ (Ru 11 (Ru 13 Rn)) (Sc rfl (Sc rfl Sn)) Sn
  refine mN h fun b_2 o_3 h => mV h fun v_4 h => mI h fun i_5 h => ?_
  refine AWP.block ?_
  refine AWP.seq' ?_
  refine AWP.rgn (F183_r7 (upd E0 13 (sI x13)) i_5 hp _) ?_ (Ru 55 (Ru 13 Rn)) (Sc rfl (Sc rfl Sn)) Sn
  refine AWP.cond (t := (i_5 == 0)) rfl (fun e => ?_) (fun e => ?_)
  ·replace h := ite2_t h e
   refine AWP.seq' ?_
   refine AWP.rgn (F183_r8 E0 x13 hp _) ?_ (Ru 13 Rn) (Sc rfl Sn) Sn
   refine AWP.ret ?_
   exact h
  ·replace h := ite2_f h e
   refine AWP.seq' ?_
   refine AWP.rgn (F183_r9 (upd E0 13 (sI x13)) i_5 hp _) ?_ (Ru 55 (Ru 13 Rn)) (Sc rfl (Sc rfl Sn)) Sn
   refine AWP.cond (t := (i_5 == 12)) rfl (fun e => ?_) (fun e => ?_)
   ·replace h := ite2_t h e
    refine AWP.seq' ?_
    refine AWP.rgn (F183_r10 E0 x13 hp _) ?_ (Ru 13 Rn) (Sc rfl Sn) Sn
    refine AWP.ret ?_
    exact h
   ·replace h := ite2_f h e
    refine AWP.seq' ?_
    refine AWP.rgn (F183_r11 E0 x13 hp _) ?_ (Ru 13 Rn) (Sc rfl Sn) Sn
    refine AWP.ret ?_
    exact h
end
-- 193 slices.medianAdjacentCmpFunc[string]
section
variable (e : Env) (x0a : Option Addr) (x0n x0c : Nat) (x1 : Int) (x2 : Option Addr) (x3 : Value) (hp : HP) (K : Env → PV → HP → Prop)
abbrev R193 (p : List Nat) (n : Nat) := RW Try.prog 18 [] (opsAt Try.f193 p) (List.range n)
theorem F193_r0 : R193 [0] 1 e V0 hp K =
    (K (upd e 8 (sI 0)) V0 hp) := by kernel_rfl
theorem F193_r1 : R193 [1, 0] 10 (upd (upd (upd (upd e 3 (sV x3)) 2 (sP x2)) 1 (sI x1)) 0 (sS x0a x0n x0c)) V0 hp K =
    (CF Try.prog 194 [(.slice x0a x0n x0c), (.int .i64 (wr (x1 - 1))), (.int .i64 x1), (.int .i64 (wr (x1 + 1))), (.pointer x2), x3] hp fun u1 h2 => (intV u1 .i64 fun i3 => (K (upd (upd (upd (upd (upd (upd (upd (upd (upd (upd (upd (upd (upd (upd e 3 (sV x3)) 2 (sP x2)) 1 (sI x1)) 0 (sS x0a x0n x0c)) 9 (sS x0a x0n x0c)) 10 (sI x1)) 11 (sI ((wr (x1 - 1))))) 12 (sI x1)) 13 (sI x1)) 14 (sI ((wr (x1 + 1))))) 15 (sP x2)) 16 (sV x3)) 17 (sI i3)) 8 (sI i3)) V0 h2))) := by kernel_rfl
def F193 (x0a : Option Addr) (x0n : Nat) (x0c : Nat) (x1 : Int) (x2 : Option Addr) (x3 : Value) (hp : HP) (K : Value → HP → Prop) : Prop :=
  (CF Try.prog 194 [(.slice x0a x0n x0c), (.int .i64 (IntKind.wrap .i64 (x1 - 1))), (.int .i64 x1), (.int .i64 (IntKind.wrap .i64 (x1 + 1))), (.pointer x2), x3] hp fun u_1 h_2 => (intV u_1 .i64 fun i_3 => (K (.int .i64 i_3) h_2)))
noncomputable def F193_code : Code := (.seq (.region 0 (opsAt Try.f193 [0]) false) (.seq (.region 1 (opsAt Try.f193 [1, 0]) false) .ret))
theorem F193_body : Try.f193.body = some F193_code := by kernel_rfl
theorem F193_ok (x0a : Option Addr) (x0n : Nat) (x0c : Nat) (x1 : Int) (x2 : Option Addr) (x3 : Value) (hp : HP) (K : Value → HP → Prop) (h : F193 x0a x0n x0c x1 x2 x3 hp K) : CF Try.prog 193 [(.slice x0a x0n x0c), (.int .i64 x1), (.pointer x2), x3] hp K := by
 refine .inl ⟨by kernel_rfl, AC.intro (N := 18) Try.func193 F193_body rfl (Nat.le_of_ble_eq_true rfl) ?_⟩
 unfold F193 at h
 unfold F193_code
 refine AWP.seq' ?_
 refine AWP.rgn (F193_r0 (upd (upd (upd (upd E0 3 (sV x3)) 2 (sP x2)) 1 (sI x1)) 0 (sS x0a x0n x0c))  hp _) ?_ (Ru 0 (Ru 1 (Ru 2 (Ru 3 Rn)))) (Sc rfl (Sc rfl (Sc rfl (Sc rfl Sn)))) Sn
 refine AWP.seq' ?_
 refine AWP.rgn (F193_r1 E0 x0a x0n x0c x1 x2 x3 hp _) ?_ (Ru 0 (Ru 1 (Ru 2 (Ru 3 Rn)))) (Sc rfl (Sc rfl (Sc rfl (Sc rfl Sn)))) Sn
 refine mC h fun u_1 h_2 h => mI h fun i_3 h => ?_
 refine AWP.ret ?_
 exact h
end
-- 194 slices.medianCmpFunc[string]
section
variable (e : Env) (x0a : Option Addr) (x0n x0c : Nat) (x1 x2 x3 : Int) (x4 : Option Addr) (x5 : Value) (hp : HP) (K : Env → PV → HP → Prop)
abbrev R194 (p : List Nat) (n : Nat) := RW Try.prog 41 [] (opsAt Try.f194 p) (List.range n)
theorem F194_r0 : R194 [0] 1 e V0 hp K =
    (K (upd e 12 (sI 0)) V0 hp) := by kernel_rfl
theorem F194_r1 : R194 [1, 0] 11 (upd (upd (upd (upd (upd e 5 (sV x5)) 4 (sP x4)) 2 (sI x2)) 1 (sI x1)) 0 (sS x0a x0n x0c)) V0 hp K =
    (CF Try.prog 196 [(.slice x0a x0n x0c), (.int .i64 x1), (.int .i64 x2), (.pointer x4), x5] hp fun u1 h2 => (tup2V u1 fun u3 u4 => (intV u3 .i64 fun i5 => (intV u4 .i64 fun i6 => (K (upd (upd (upd (upd (upd (upd (upd (upd (upd (upd (upd (upd (upd (upd (upd (upd e 5 (sV x5)) 4 (sP x4)) 2 (sI x2)) 1 (sI x1)) 0 (sS x0a x0n x0c)) 14 (sS x0a x0n x0c)) 15 (sI x1)) 16 (sI x2)) 17 (sP x4)) 18 (sV x5)) 19 (sV (.tuple ⟨[(.int .i64 i5), (.int .i64 i6)]⟩))) 13 (sV (.tuple ⟨[(.int .i64 i5), (.int .i64 i6)]⟩))) 20 (sI i5)) 21 (sI i6)) 1 (sI i5)) 2 (sI i6)) V0 h2))))) := by kernel_rfl
theorem F194_r2 : R194 [1, 1, 0] 11 (upd (upd (upd (upd (upd e 5 (sV x5)) 4 (sP x4)) 3 (sI x3)) 2 (sI x2)) 0 (sS x0a x0n x0c)) V0 hp K =
    (CF Try.prog 196 [(.slice x0a x0n x0c), (.int .i64 x2), (.int .i64 x3), (.pointer x4), x5] hp fun u1 h2 => (tup2V u1 fun u3 u4 => (intV u3 .i64 fun i5 => (intV u4 .i64 fun i6 => (K (upd (upd (upd (upd (upd (upd (upd (upd (upd (upd (upd (upd (upd (upd (upd (upd e 5 (sV x5)) 4 (sP x4)) 3 (sI x3)) 2 (sI x2)) 0 (sS x0a x0n x0c)) 23 (sS x0a x0n x0c)) 24 (sI x2)) 25 (sI x3)) 26 (sP x4)) 27 (sV x5)) 28 (sV (.tuple ⟨[(.int .i64 i5), (.int .i64 i6)]⟩))) 22 (sV (.tuple ⟨[(.int .i64 i5), (.int .i64 i6)]⟩))) 29 (sI i5)) 30 (sI i6)) 2 (sI i5)) 3 (sI i6)) V0 h2))))) := by kernel_rfl
theorem F194_r3 : R194 [1, 1, 1, 0] 11 (upd (upd (upd (upd (upd e 5 (sV x5)) 4 (sP x4)) 2 (sI x2)) 1 (sI x1)) 0 (sS x0a x0n x0c)) V0 hp K =
    (CF Try.prog 196 [(.slice x0a x0n x0c), (.int .i64 x1), (.int .i64 x2), (.pointer x4), x5] hp fun u1 h2 => (tup2V u1 fun u3 u4 => (intV u3 .i64 fun i5 => (intV u4 .i64 fun i6 => (K (upd (upd (upd (upd (upd (upd (upd (upd (upd (upd (upd (upd (upd (upd (upd (upd e 5 (sV x5)) 4 (sP x4)) 2 (sI x2)) 1 (sI x1)) 0 (sS x0a x0n x0c)) 32 (sS x0a x0n x0c)) 33 (sI x1)) 34 (sI x2)) 35 (sP x4)) 36 (sV x5)) 37 (sV (.tuple ⟨[(.int .i64 i5), (.int .i64 i6)]⟩))) 31 (sV (.tuple ⟨[(.int .i64 i5), (.int .i64 i6)]⟩))) 38 (sI i5)) 39 (sI i6)) 1 (sI i5)) 2 (sI i6)) V0 h2))))) := by kernel_rfl
theorem F194_r4 : R194 [1, 1, 1, 1, 0] 2 (upd e 2 (sI x2)) V0 hp K =
    (K (upd (upd (upd e 2 (sI x2)) 40 (sI x2)) 12 (sI x2)) V0 hp) := by kernel_rfl
def F194 (x0a : Option Addr) (x0n : Nat) (x0c : Nat) (x1 : Int) (x2 : Int) (x3 : Int) (x4 : Option Addr) (x5 : Value) (hp : HP) (K : Value → HP → Prop) : Prop :=
  (CF Try.prog 196 [(.slice x0a x0n x0c), (.int .i64 x1), (.int .i64 x2), (.pointer x4), x5] hp fun u_1 h_2 => (tup2V u_1 fun u_3 u_4 => (intV u_3 .i64 fun i_5 => (intV u_4 .i64 fun i_6 => (CF Try.prog 196 [(.slice x0a x0n x0c), (.int .i64 i_6), (.int .i64 x3), (.pointer x4), x5] h_2 fun u_7 h_8 => (tup2V u_7 fun u_9 u_10 => (intV u_9 .i64 fun i_11 => (intV u_10 .i64 fun i_12 => (CF Try.prog 196 [(.slice x0a x0n x0c), (.int .i64 i_5), (.int .i64 i_11), (.pointer x4), x5] h_8 fun u_13 h_14 => (tup2V u_13 fun u_15 u_16 => (intV u_15 .i64 fun i_17 => (intV u_16 .i64 fun i_18 => (K (.int .i64 i_18) h_14)))))))))))))
noncomputable def F194_code : Code := (.seq (.region 0 (opsAt Try.f194 [0]) false) (.seq (.region 1 (opsAt Try.f194 [1, 0]) false) (.seq (.region 2 (opsAt Try.f194 [1, 1, 0]) false) (.seq (.region 3 (opsAt Try.f194 [1, 1, 1, 0]) false) (.seq (.region 4 (opsAt Try.f194 [1, 1, 1, 1, 0]) false) .ret)))))
theorem F194_body : Try.f194.body = some F194_code := by kernel_rfl
theorem F194_ok (x0a : Option Addr) (x0n : Nat) (x0c : Nat) (x1 : Int) (x2 : Int) (x3 : Int) (x4 : Option Addr) (x5 : Value) (hp : HP) (K : Value → HP → Prop) (h : F194 x0a x0n x0c x1 x2 x3 x4 x5 hp K) : CF Try.prog 194 [(.slice x0a x0n x0c), (.int .i64 x1), (.int .i64 x2), (.int .i64 x3), (.pointer x4), x5] hp K := by
 refine .inl ⟨by kernel_rfl, AC.intro (N := 41) Try.func194 F194_body rfl (Nat.le_of_ble_eq_true rfl) ?_⟩
 unfold F194 at h
 unfold F194_code
 refine AWP.seq' ?_
 refine AWP.rgn (F194_r0 (upd (upd (upd (upd (upd (upd E0 5 (sV x5)) 4 (sP x4)) 3 (sI x3)) 2 (sI x2)) 1 (sI x1)) 0 (sS x0a x0n x0c))  hp _) ?_ (Ru 0 (Ru 1 (Ru 2 (Ru 3 (Ru 4 (Ru 5 Rn)))))) (Sc rfl (Sc rfl (Sc rfl (Sc rfl (Sc rfl (Sc rfl Sn)))))) Sn
 refine AWP.seq' ?_
 refine AWP.rgn (F194_r1 (upd E0 3 (sI x3)) x0a x0n x0c x1 x2 x4 x5 hp _) ?_ (Ru 0 (Ru 1 (Ru 2 (Ru 4 (Ru 5 (Ru 3 Rn)))))) (Sc rfl (Sc rfl (Sc rfl (Sc rfl (Sc rfl (Sc rfl Sn)))))) Sn
 refine mC h fun u_1 h_2 h => mT h fun u_3 u_4 h => mI h fun i_5 h => mI h fun i_6 h => ?_
 refine AWP.seq' ?_
 refine AWP.rgn (F194_r2 (upd E0 1 (sI i_5)) x0a x0n x0c i_6 x3 x4 x5 h_2 _) ?_ (Ru 0 (Ru 2 (Ru 3 (Ru 4 (Ru 5 (Ru 1 Rn)))))) (Sc rfl (Sc rfl (Sc rfl (Sc rfl (Sc rfl (Sc rfl Sn)))))) Sn
 refine mC h fun u_7 h_8 h => mT h fun u_9 u_10 h => mI h fun i_11 h => mI h fun i_12 h => ?_
 refine AWP.seq' ?_
 refine AWP.rgn (F194_r3 E0 x0a x0n x0c i_5 i_11 x4 x5 h_8 _) ?_ (Ru 0 (Ru 1 (Ru 2 (Ru 4 (Ru 5 Rn))))) (Sc rfl (Sc rfl (Sc rfl (Sc rfl (Sc rfl Sn))))) Sn
 refine mC h fun u_13 h_14 h => mT h fun u_15 u_16 h => mI h fun i_17 h => mI h fun i_18 h => ?_
 refine AWP.seq' ?_
 refine AWP.rgn (F194_r4 E0 i_18 h_14 _) ?_ (Ru 2 Rn) (Sc rfl Sn) Sn
 refine AWP.ret ?_
 exact h
end
-- 196 slices.order2CmpFunc[string]
section
variable (e : Env) (x0a : Option Addr) (x0n x0c : Nat) (x1 x2 : Int) (x3 : Option Addr) (x4 : Value) (hp : HP) (K : Env → PV → HP → Prop)
abbrev R196 (p : List Nat) (n : Nat) := RW Try.prog 32 [] (opsAt Try.f196 p) (List.range n)
theorem F196_r0 : R196 [0] 2 e V0 hp K =
    (K (upd (upd e 10 (sI 0)) 11 (sI 0)) V0 hp) := by kernel_rfl
theorem F196_r1 : R196 [1, 0, 0] 11 (upd (upd (upd (upd e 4 (sV x4)) 2 (sI x2)) 1 (sI x1)) 0 (sS x0a x0n x0c)) V0 hp K =
    ((0 ≤ x2) ∧ (x2 < x0n) ∧ (ptrN x0a fun b1 o2 => (ldV (HP.cell hp b1 (o2 + Int.toNat x2 * 1)) fun v3 => (strV v3 fun s4 => ((0 ≤ x1) ∧ (x1 < x0n) ∧ (ptrN x0a fun b5 o6 => (ldV (HP.cell hp b5 (o6 + Int.toNat x1 * 1)) fun v7 => (strV v7 fun s8 => (fnV x4 fun f9 ga10 gb11 => (CF Try.prog f9 (ga10 ++ [(Value.string s4), (.string s8)] ++ gb11) hp fun u12 h13 => (intV u12 .i64 fun i14 => (K (upd (upd (upd (upd (upd (upd (upd (upd (upd (upd (upd (upd (upd (upd (upd e 4 (sV x4)) 2 (sI x2)) 1 (sI x1)) 0 (sS x0a x0n x0c)) 12 (sV x4)) 13 (sS x0a x0n x0c)) 14 (sI x2)) 15 (sQ b1 (o2 + Int.toNat x2 * 1))) 16 (sV (.string s4))) 17 (sS x0a x0n x0c)) 18 (sI x1)) 19 (sQ b5 (o6 + Int.toNat x1 * 1))) 20 (sV (.string s8))) 21 (sI i14)) 22 (sB (decide (i14 < 0)))) V0 h13)))))))))))) := by kernel_rfl
theorem F196_r2 : R196 [1, 0, 1, 0, 0] 6 (upd e 3 (sP x3)) V0 hp K =
    (ptrN x3 fun b1 o2 => (ldV (HP.cell hp b1 o2) fun v3 => (intV v3 .i64 fun i4 => (ptrN x3 fun b5 o6 => (HP.st hp b5 o6 (.int .i64 (wr (i4 + 1))) fun h7 => (K (upd (upd (upd (upd (upd (upd e 3 (sP x3)) 23 (sP x3)) 24 (sQ b1 o2)) 25 (sI i4)) 26 (sI ((wr (i4 + 1))))) 27 (sQ b5 o6)) V0 h7)))))) := by kernel_rfl
theorem F196_r3 : R196 [1, 0, 1, 0, 1, 0] 4 (upd (upd e 2 (sI x2)) 1 (sI x1)) V0 hp K =
    (K (upd (upd (upd (upd (upd (upd e 2 (sI x2)) 1 (sI x1)) 28 (sI x2)) 29 (sI x1)) 10 (sI x2)) 11 (sI x1)) V0 hp) := by kernel_rfl
theorem F196_r4 : R196 [1, 1, 0] 4 (upd (upd e 2 (sI x2)) 1 (sI x1)) V0 hp K =
    (K (upd (upd (upd (upd (upd (upd e 2 (sI x2)) 1 (sI x1)) 30 (sI x1)) 31 (sI x2)) 10 (sI x1)) 11 (sI x2)) V0 hp) := by kernel_rfl
def F196 (x0a : Option Addr) (x0n : Nat) (x0c : Nat) (x1 : Int) (x2 : Int) (x3 : Option Addr) (x4 : Value) (hp : HP) (K : Value → HP → Prop) : Prop :=
  ((0 ≤ x2) ∧ (x2 < x0n) ∧ (ptrN x0a fun b_1 o_2 => (ldV (HP.cell hp b_1 (o_2 + Int.toNat x2 * 1)) fun v_3 => (strV v_3 fun s_4 => ((0 ≤ x1) ∧ (x1 < x0n) ∧ (ptrN x0a fun b_5 o_6 => (ldV (HP.cell hp b_5 (o_6 + Int.toNat x1 * 1)) fun v_7 => (strV v_7 fun s_8 => (fnV x4 fun f_9 ga_10 gb_11 => (CF Try.prog f_9 (ga_10 ++ [(Value.string s_4), (.string s_8)] ++ gb_11) hp fun u_12 h_13 => (intV u_12 .i64 fun i_14 => (ite2 (decide (i_14 < 0)) (ptrN x3 fun b_15 o_16 => (ldV (HP.cell h_13 b_15 o_16) fun v_17 => (intV v_17 .i64 fun i_18 => (ptrN x3 fun b_19 o_20 => (HP.st h_13 b_19 o_20 (.int .i64 (IntKind.wrap .i64 (i_18 + 1))) fun h_21 => (K (.tuple ⟨[(.int .i64 x2), (.int .i64 x1)]⟩) h_21)))))) (K (.tuple ⟨[(.int .i64 x1), (.int .i64 x2)]⟩) h_13)))))))))))))
noncomputable def F196_code : Code := (.seq (.region 0 (opsAt Try.f196 [0]) false) (.seq (.seq (.region 1 (opsAt Try.f196 [1, 0, 0]) true) (.cond (.tmp 22) (.seq (.region 2 (opsAt Try.f196 [1, 0, 1, 0, 0]) false) (.seq (.region 3 (opsAt Try.f196 [1, 0, 1, 0, 1, 0]) false) .ret)) .skip)) (.seq (.region 4 (opsAt Try.f196 [1, 1, 0]) false) .ret)))
theorem F196_body : Try.f196.body = some F196_code := by kernel_rfl
theorem F196_ok (x0a : Option Addr) (x0n : Nat) (x0c : Nat) (x1 : Int) (x2 : Int) (x3 : Option Addr) (x4 : Value) (hp : HP) (K : Value → HP → Prop) (h : F196 x0a x0n x0c x1 x2 x3 x4 hp K) : CF Try.prog 196 [(.slice x0a x0n x0c), (.int .i64 x1), (.int .i64 x2), (.pointer x3), x4] hp K := by
 refine .inl ⟨by kernel_rfl, AC.intro (N := 32) Try.func196 F196_body rfl (Nat.le_of_ble_eq_true rfl) ?_⟩
 unfold F196 at h
 unfold F196_code
 refine AWP.seq' ?_
 refine AWP.rgn (F196_r0 (upd (upd (upd (upd (upd E0 4 (sV x4)) 3 (sP x3)) 2 (sI x2)) 1 (sI x1)) 0 (sS x0a x0n x0c))  hp _) ?_ (Ru 0 (Ru 1 (Ru 2 (Ru 3 (Ru 4 Rn))))) (Sc rfl (Sc rfl (Sc rfl (Sc rfl (Sc rfl Sn))))) Sn
 refine AWP.seq' ?_
 refine AWP.seq' ?_
 refine AWP.rgnD (by kernel_rfl) (by kernel_rfl) (F196_r1 (upd E0 3 (sP x3)) x0a x0n x0c x1 x2 x4 hp _) ?_ (Ru 0 (Ru 1 (Ru 2 (Ru 4 (Ru 3 Rn))))) (Sc rfl (Sc rfl (Sc rfl (Sc rfl (Sc rfl Sn))))) Sn
 refine ⟨h.1, h.2.1, mN h.2.2 (fun b_1 o_2 h => mV h (fun v_3 h => ms h (fun s_4 h => ⟨h.1, h.2.1, mN h.2.2 fun b_5 o_6 h => mV h fun v_7 h => ms h fun s_8 h => mF h fun f_9 ga_10 gb_11 h => mC h fun u_12 h_13 h => mI h fun i_14 h => ?_⟩)))⟩
 refine AWP.cond (t := (decide (i_14 < 0))) rfl (fun e => ?_) (fun e => ?_)
 ·replace h := ite2_t h e
  refine AWP.seq' ?_
  refine AWP.rgn (F196_r2 (upd (upd E0 2 (sI x2)) 1 (sI x1)) x3 h_13 _) ?_ (Ru 3 (Ru 1 (Ru 2 Rn))) (Sc rfl (Sc rfl (Sc rfl Sn))) Sn
  refine mN h fun b_15 o_16 h => mV h fun v_17 h => mI h fun i_18 h => mN h fun b_19 o_20 h => mw h fun h_21 h => ?_
  refine AWP.seq' ?_
  refine AWP.rgn (F196_r3 E0 x1 x2 h_21 _) ?_ (Ru 1 (Ru 2 Rn)) (Sc rfl (Sc rfl Sn)) Sn
  refine AWP.ret ?_
  exact h
 ·replace h := ite2_f h e
  refine AWP.skip ?_
  refine AWP.seq' ?_
  refine AWP.rgn (F196_r4 E0 x1 x2 h_13 _) ?_ (Ru 1 (Ru 2 Rn)) (Sc rfl (Sc rfl Sn)) Sn
  refine AWP.ret ?_
  exact h
end
-- 166 slices.pdqsortCmpFunc[string]
section
variable (e : Env) (x0a : Option Addr) (x0n x0c : Nat) (x1 x2 x3 : Int) (x4 : Value) (x10 x11 : Bool) (x12 x13 x14 x15 x16 : Int) (x17 : Bool) (x18 x19 x20 : Int) (hp : HP) (K : Env → PV → HP → Prop)
abbrev R166 (p : List Nat) (n : Nat) := RW Try.prog 148 [] (opsAt Try.f166 p) (List.range n)
theorem F166_r0 : R166 [0] 1 e V0 hp K =
    (K (upd e 10 (sB true)) V0 hp) := by kernel_rfl
theorem F166_r1 : R166 [1, 1, 0, 0, 0, 0] 4 (upd (upd e 2 (sI x2)) 1 (sI x1)) V0 hp K =
    (K (upd (upd (upd (upd (upd (upd e 2 (sI x2)) 1 (sI x1)) 21 (sI x2)) 22 (sI x1)) 23 (sI ((wr (x2 - x1))))) 12 (sI ((wr (x2 - x1))))) V0 hp) := by kernel_rfl
theorem F166_r2 : R166 [1, 1, 0, 0, 0, 1, 0, 0] 2 (upd e 12 (sI x12)) V0 hp K =
    (K (upd (upd (upd e 12 (sI x12)) 24 (sI x12)) 25 (sB (decide (x12 ≤ 12)))) V0 hp) := by kernel_rfl
theorem F166_r3 : R166 [1, 1, 0, 0, 0, 1, 0, 1, 0, 0] 5 (upd (upd (upd (upd e 4 (sV x4)) 2 (sI x2)) 1 (sI x1)) 0 (sS x0a x0n x0c)) V0 hp K =
    (CF Try.prog 180 [(.slice x0a x0n x0c), (.int .i64 x1), (.int .i64 x2), x4] hp fun u1 h2 => (K (upd (upd (upd (upd (upd (upd (upd (upd (upd e 4 (sV x4)) 2 (sI x2)) 1 (sI x1)) 0 (sS x0a x0n x0c)) 26 (sS x0a x0n x0c)) 27 (sI x1)) 28 (sI x2)) 29 (sV x4)) 30 (sV u1)) V0 h2)) := by kernel_rfl
theorem F166_r4 : R166 [1, 1, 0, 0, 0, 1, 1, 0, 0] 2 (upd e 3 (sI x3)) V0 hp K =
    (K (upd (upd (upd e 3 (sI x3)) 31 (sI x3)) 32 (sB ((x3 == 0)))) V0 hp) := by kernel_rfl
theorem F166_r5 : R166 [1, 1, 0, 0, 0, 1, 1, 0, 1, 0, 0] 5 (upd (upd (upd (upd e 4 (sV x4)) 2 (sI x2)) 1 (sI x1)) 0 (sS x0a x0n x0c)) V0 hp K =
    (CF Try.prog 181 [(.slice x0a x0n x0c), (.int .i64 x1), (.int .i64 x2), x4] hp fun u1 h2 => (K (upd (upd (upd (upd (upd (upd (upd (upd (upd e 4 (sV x4)) 2 (sI x2)) 1 (sI x1)) 0 (sS x0a x0n x0c)) 33 (sS x0a x0n x0c)) 34 (sI x1)) 35 (sI x2)) 36 (sV x4)) 37 (sV u1)) V0 h2)) := by kernel_rfl
theorem F166_r6 : R166 [1, 1, 0, 0, 0, 1, 1, 1, 1, 0] 10 (upd (upd (upd (upd e 4 (sV x4)) 2 (sI x2)) 1 (sI x1)) 0 (sS x0a x0n x0c)) V0 hp K =
    (CF Try.prog 183 [(.slice x0a x0n x0c), (.int .i64 x1), (.int .i64 x2), x4] hp fun u1 h2 => (tup2V u1 fun u3 u4 => (intV u3 .i64 fun i5 => (intV u4 .i64 fun i6 => (K (upd (upd (upd (upd (upd (upd (upd (upd (upd (upd (upd (upd (upd (upd e 4 (sV x4)) 2 (sI x2)) 1 (sI x1)) 0 (sS x0a x0n x0c)) 48 (sS x0a x0n x0c)) 49 (sI x1)) 50 (sI x2)) 51 (sV x4)) 52 (sV (.tuple ⟨[(.int .i64 i5), (.int .i64 i6)]⟩))) 47 (sV (.tuple ⟨[(.int .i64 i5), (.int .i64 i6)]⟩))) 53 (sI i5)) 54 (sI i6)) 13 (sI i5)) 14 (sI i6)) V0 h2))))) := by kernel_rfl
theorem F166_r7 : R166 [1, 1, 0, 0, 0, 1, 1, 1, 1, 1, 1, 1, 0, 1, 0, 0] 7 (upd (upd (upd (upd (upd e 13 (sI x13)) 4 (sV x4)) 2 (sI x2)) 1 (sI x1)) 0 (sS x0a x0n x0c)) V0 hp K =
    (CF Try.prog 186 [(.slice x0a x0n x0c), (.int .i64 x1), (.int .i64 x2), (.int .i64 x13), x4] hp fun u1 h2 => (intV u1 .i64 fun i3 => (K (upd (upd (upd (upd (upd (upd (upd (upd (upd (upd (upd (upd e 13 (sI x13)) 4 (sV x4)) 2 (sI x2)) 1 (sI x1)) 0 (sS x0a x0n x0c)) 98 (sS x0a x0n x0c)) 99 (sI x1)) 100 (sI x2)) 101 (sI x13)) 102 (sV x4)) 103 (sI i3)) 15 (sI i3)) V0 h2))) := by kernel_rfl
theorem F166_r8 : R166 [1, 1, 0, 0, 0, 1, 1, 1, 1, 1, 1, 1, 0, 1, 0, 1, 0] 2 (upd e 15 (sI x15)) V0 hp K =
    (K (upd (upd (upd e 15 (sI x15)) 104 (sI x15)) 1 (sI x15)) V0 hp) := by kernel_rfl
theorem F166_r9 : R166 [1, 1, 0, 0, 0, 1, 1, 1, 1, 1, 1, 1, 1, 0] 11 (upd (upd (upd (upd (upd e 13 (sI x13)) 4 (sV x4)) 2 (sI x2)) 1 (sI x1)) 0 (sS x0a x0n x0c)) V0 hp K =
    (CF Try.prog 187 [(.slice x0a x0n x0c), (.int .i64 x1), (.int .i64 x2), (.int .i64 x13), x4] hp fun u1 h2 => (tup2V u1 fun u3 u4 => (intV u3 .i64 fun i5 => (boolV u4 fun q6 => (K (upd (upd (upd (upd (upd (upd (upd (upd (upd (upd (upd (upd (upd (upd (upd (upd e 13 (sI x13)) 4 (sV x4)) 2 (sI x2)) 1 (sI x1)) 0 (sS x0a x0n x0c)) 106 (sS x0a x0n x0c)) 107 (sI x1)) 108 (sI x2)) 109 (sI x13)) 110 (sV x4)) 111 (sV (.tuple ⟨[(.int .i64 i5), (.bool q6)]⟩))) 105 (sV (.tuple ⟨[(.int .i64 i5), (.bool q6)]⟩))) 112 (sI i5)) 113 (sB q6)) 16 (sI i5)) 17 (sB q6)) V0 h2))))) := by kernel_rfl
theorem F166_r10 : R166 [1, 1, 0, 0, 0, 1, 1, 1, 1, 1, 1, 1, 1, 1, 0] 2 (upd e 17 (sB x17)) V0 hp K =
    (K (upd (upd (upd e 17 (sB x17)) 114 (sB x17)) 11 (sB x17)) V0 hp) := by kernel_rfl
theorem F166_r11 : R166 [1, 1, 0, 0, 0, 1, 1, 1, 1, 1, 1, 1, 1, 1, 1, 0] 8 (upd (upd (upd e 16 (sI x16)) 2 (sI x2)) 1 (sI x1)) V0 hp K =
    (K (upd (upd (upd (upd (upd (upd (upd (upd (upd (upd (upd e 16 (sI x16)) 2 (sI x2)) 1 (sI x1)) 115 (sI x16)) 116 (sI x1)) 117 (sI ((wr (x16 - x1))))) 118 (sI x2)) 119 (sI x16)) 120 (sI ((wr (x2 - x16))))) 18 (sI ((wr (x16 - x1))))) 19 (sI ((wr (x2 - x16))))) V0 hp) := by kernel_rfl
theorem F166_r12 : R166 [1, 1, 0, 0, 0, 1, 1, 1, 1, 1, 1, 1, 1, 1, 1, 1, 0] 3 (upd e 12 (sI x12)) V0 hp K =
    (((8 : Int) ≠ 0) ∧ (K (upd (upd (upd (upd e 12 (sI x12)) 121 (sI x12)) 122 (sI ((wr (Int.tdiv x12 8))))) 20 (sI ((wr (Int.tdiv x12 8))))) V0 hp)) := by kernel_rfl
theorem F166_r13 : R166 [1, 1, 0, 0, 0, 1, 1, 1, 1, 1, 1, 1, 1, 1, 1, 1, 1, 0] 3 (upd (upd e 19 (sI x19)) 18 (sI x18)) V0 hp K =
    (K (upd (upd (upd (upd (upd e 19 (sI x19)) 18 (sI x18)) 123 (sI x18)) 124 (sI x19)) 125 (sB (decide (x18 < x19)))) V0 hp) := by kernel_rfl
theorem F166_r14 : R166 [1, 1, 0, 0, 0, 1, 1, 1, 1, 1, 1, 1, 1, 1, 1, 1, 1, 1, 0, 0] 4 (upd (upd e 20 (sI x20)) 18 (sI x18)) V0 hp K =
    (K (upd (upd (upd (upd (upd (upd e 20 (sI x20)) 18 (sI x18)) 126 (sI x18)) 127 (sI x20)) 128 (sB (decide (x18 ≥ x20)))) 10 (sB (decide (x18 ≥ x20)))) V0 hp) := by kernel_rfl
theorem F166_r15 : R166 [1, 1, 0, 0, 0, 1, 1, 1, 1, 1, 1, 1, 1, 1, 1, 1, 1, 1, 0, 1, 0] 6 (upd (upd (upd (upd (upd e 16 (sI x16)) 4 (sV x4)) 3 (sI x3)) 1 (sI x1)) 0 (sS x0a x0n x0c)) V0 hp K =
    (CF Try.prog 166 [(.slice x0a x0n x0c), (.int .i64 x1), (.int .i64 x16), (.int .i64 x3), x4] hp fun u1 h2 => (K (upd (upd (upd (upd (upd (upd (upd (upd (upd (upd (upd e 16 (sI x16)) 4 (sV x4)) 3 (sI x3)) 1 (sI x1)) 0 (sS x0a x0n x0c)) 129 (sS x0a x0n x0c)) 130 (sI x1)) 131 (sI x16)) 132 (sI x3)) 133 (sV x4)) 134 (sV u1)) V0 h2)) := by kernel_rfl
theorem F166_r16 : R166 [1, 1, 0, 0, 0, 1, 1, 1, 1, 1, 1, 1, 1, 1, 1, 1, 1, 1, 0, 1, 1] 3 (upd e 16 (sI x16)) V0 hp K =
    (K (upd (upd (upd (upd e 16 (sI x16)) 135 (sI x16)) 136 (sI ((wr (x16 + 1))))) 1 (sI ((wr (x16 + 1))))) V0 hp) := by kernel_rfl
theorem F166_r17 : R166 [1, 1, 0, 0, 0, 1, 1, 1, 1, 1, 1, 1, 1, 1, 1, 1, 1, 1, 1, 0] 4 (upd (upd e 20 (sI x20)) 19 (sI x19)) V0 hp K =
    (K (upd (upd (upd (upd (upd (upd e 20 (sI x20)) 19 (sI x19)) 137 (sI x19)) 138 (sI x20)) 139 (sB (decide (x19 ≥ x20)))) 10 (sB (decide (x19 ≥ x20)))) V0 hp) := by kernel_rfl
theorem F166_r18 : R166 [1, 1, 0, 0, 0, 1, 1, 1, 1, 1, 1, 1, 1, 1, 1, 1, 1, 1, 1, 1, 0] 7 (upd (upd (upd (upd (upd e 16 (sI x16)) 4 (sV x4)) 3 (sI x3)) 2 (sI x2)) 0 (sS x0a x0n x0c)) V0 hp K =
    (CF Try.prog 166 [(.slice x0a x0n x0c), (.int .i64 (wr (x16 + 1))), (.int .i64 x2), (.int .i64 x3), x4] hp fun u1 h2 => (K (upd (upd (upd (upd (upd (upd (upd (upd (upd (upd (upd (upd e 16 (sI x16)) 4 (sV x4)) 3 (sI x3)) 2 (sI x2)) 0 (sS x0a x0n x0c)) 140 (sS x0a x0n x0c)) 141 (sI x16)) 142 (sI ((wr (x16 + 1))))) 143 (sI x2)) 144 (sI x3)) 145 (sV x4)) 146 (sV u1)) V0 h2)) := by kernel_rfl
theorem F166_r19 : R166 [1, 1, 0, 0, 0, 1, 1, 1, 1, 1, 1, 1, 1, 1, 1, 1, 1, 1, 1, 1, 1] 2 (upd e 16 (sI x16)) V0 hp K =
    (K (upd (upd (upd e 16 (sI x16)) 147 (sI x16)) 2 (sI x16)) V0 hp) := by kernel_rfl
def F166_j6 (x0a : Option Addr) (x0n : Nat) (x0c : Nat) (x1 : Int) (x2 : Int) (x3 : Int) (x4 : Value) (x10 : Bool) (x11 : Bool) (x12 : Int) (x13 : Int) (x97 : Bool) (hp : HP) (I2 : (Int × Int × Int × Bool × Bool) → HP → Prop) (K : Value → HP → Prop) : Prop :=
  (ite2 x97 (CF Try.prog 186 [(.slice x0a x0n x0c), (.int .i64 x1), (.int .i64 x2), (.int .i64 x13), x4] hp fun u_11 h_12 => (intV u_11 .i64 fun i_13 => (I2 (i_13, x2, x3, x10, x11) h_12))) (CF Try.prog 187 [(.slice x0a x0n x0c), (.int .i64 x1), (.int .i64 x2), (.int .i64 x13), x4] hp fun u_14 h_15 => (tup2V u_14 fun u_16 u_17 => (intV u_16 .i64 fun i_18 => (boolV u_17 fun q_19 => (((8 : Int) ≠ 0) ∧ (ite2 (decide (((IntKind.wrap .i64 (i_18 - x1)) : Int) < (IntKind.wrap .i64 (x2 - i_18)))) (CF Try.prog 166 [(.slice x0a x0n x0c), (.int .i64 x1), (.int .i64 i_18), (.int .i64 x3), x4] h_15 fun u_20 h_21 => (I2 ((IntKind.wrap .i64 (i_18 + 1)), x2, x3, (decide (((IntKind.wrap .i64 (i_18 - x1)) : Int) ≥ (IntKind.wrap .i64 (Int.tdiv x12 8)))), q_19) h_21)) (CF Try.prog 166 [(.slice x0a x0n x0c), (.int .i64 (IntKind.wrap .i64 (i_18 + 1))), (.int .i64 x2), (.int .i64 x3), x4] h_15 fun u_22 h_23 => (I2 (x1, i_18, x3, (decide (((IntKind.wrap .i64 (x2 - i_18)) : Int) ≥ (IntKind.wrap .i64 (Int.tdiv x12 8)))), q_19) h_23)))))))))
theorem F166_r20 : R166 [1, 1, 0, 0, 0, 1, 1, 1, 1, 1, 1, 1, 0, 0] 17 (upd (upd (upd (upd e 13 (sI x13)) 4 (sV x4)) 1 (sI x1)) 0 (sS x0a x0n x0c)) V0 hp K =
    (ite2 (decide (x1 > 0)) ((0 ≤ ((wr (x1 - 1)) : Int)) ∧ (((wr (x1 - 1)) : Int) < x0n) ∧ (ptrN x0a fun b1 o2 => (ldV (HP.cell hp b1 (o2 + Int.toNat (wr (x1 - 1)) * 1)) fun v3 => (strV v3 fun s4 => ((0 ≤ x13) ∧ (x13 < x0n) ∧ (ptrN x0a fun b5 o6 => (ldV (HP.cell hp b5 (o6 + Int.toNat x13 * 1)) fun v7 => (strV v7 fun s8 => (fnV x4 fun f9 ga10 gb11 => (CF Try.prog f9 (ga10 ++ [(Value.string s4), (.string s8)] ++ gb11) hp fun u12 h13 => (intV u12 .i64 fun i14 => (K (upd (upd (upd (upd (upd (upd (upd (upd (upd (upd (upd (upd (upd (upd (upd (upd (upd (upd (upd (upd (upd e 13 (sI x13)) 4 (sV x4)) 1 (sI x1)) 0 (sS x0a x0n x0c)) 81 (sI x1)) 82 (sB (decide (x1 > 0)))) 83 (sB true)) 84 (sV x4)) 85 (sS x0a x0n x0c)) 86 (sI x1)) 87 (sI ((wr (x1 - 1))))) 88 (sV (ptr b1 (o2 + Int.toNat (wr (x1 - 1)) * 1)))) 89 (sV (.string s4))) 90 (sS x0a x0n x0c)) 91 (sI x13)) 92 (sQ b5 (o6 + Int.toNat x13 * 1))) 93 (sV (.string s8))) 94 (sI i14)) 95 (sB (decide (i14 < 0)))) 96 (sB ((!(decide (i14 < 0)))))) 97 (sB ((!(decide (i14 < 0)))))) V0 h13)))))))))))) (K (upd (upd (upd (upd (upd (upd (upd (upd (upd (upd (upd (upd (upd (upd (upd (upd (upd (upd (upd (upd (upd e 13 (sI x13)) 4 (sV x4)) 1 (sI x1)) 0 (sS x0a x0n x0c)) 81 (sI x1)) 82 (sB (decide (x1 > 0)))) 83 (sB false)) 84 sU) 85 sU) 86 sU) 87 sU) 88 sU) 89 sU) 90 sU) 91 sU) 92 sU) 93 sU) 94 sU) 95 sU) 96 sU) 97 (sB false)) V0 hp)) := by kernel_rfl
def F166_j5 (x0a : Option Addr) (x0n : Nat) (x0c : Nat) (x1 : Int) (x2 : Int) (x3 : Int) (x4 : Value) (x10 : Bool) (x11 : Bool) (x12 : Int) (x13 : Int) (hp : HP) (I2 : (Int × Int × Int × Bool × Bool) → HP → Prop) (K : Value → HP → Prop) : Prop :=
  (ite2 (decide (x1 > 0)) ((0 ≤ ((IntKind.wrap .i64 (x1 - 1)) : Int)) ∧ (((IntKind.wrap .i64 (x1 - 1)) : Int) < x0n) ∧ (ptrN x0a fun b_24 o_25 => (ldV (HP.cell hp b_24 (o_25 + Int.toNat (IntKind.wrap .i64 (x1 - 1)) * 1)) fun v_26 => (strV v_26 fun s_27 => ((0 ≤ x13) ∧ (x13 < x0n) ∧ (ptrN x0a fun b_28 o_29 => (ldV (HP.cell hp b_28 (o_29 + Int.toNat x13 * 1)) fun v_30 => (strV v_30 fun s_31 => (fnV x4 fun f_32 ga_33 gb_34 => (CF Try.prog f_32 (ga_33 ++ [(Value.string s_27), (.string s_31)] ++ gb_34) hp fun u_35 h_36 => (intV u_35 .i64 fun i_37 => (F166_j6 x0a x0n x0c x1 x2 x3 x4 x10 x11 x12 x13 (!(decide (i_37 < 0))) h_36 I2 K)))))))))))) (F166_j6 x0a x0n x0c x1 x2 x3 x4 x10 x11 x12 x13 false hp I2 K))
theorem F166_r21 : R166 [1, 1, 0, 0, 0, 1, 1, 1, 1, 1, 1, 0, 1, 0, 0] 5 (upd (upd (upd (upd e 4 (sV x4)) 2 (sI x2)) 1 (sI x1)) 0 (sS x0a x0n x0c)) V0 hp K =
    (CF Try.prog 185 [(.slice x0a x0n x0c), (.int .i64 x1), (.int .i64 x2), x4] hp fun u1 h2 => (boolV u1 fun q3 => (K (upd (upd (upd (upd (upd (upd (upd (upd (upd e 4 (sV x4)) 2 (sI x2)) 1 (sI x1)) 0 (sS x0a x0n x0c)) 76 (sS x0a x0n x0c)) 77 (sI x1)) 78 (sI x2)) 79 (sV x4)) 80 (sB q3)) V0 h2))) := by kernel_rfl
def F166_j7 (x0a : Option Addr) (x0n : Nat) (x0c : Nat) (x1 : Int) (x2 : Int) (x3 : Int) (x4 : Value) (x10 : Bool) (x11 : Bool) (x12 : Int) (x13 : Int) (x75 : Bool) (hp : HP) (I2 : (Int × Int × Int × Bool × Bool) → HP → Prop) (K : Value → HP → Prop) : Prop :=
  (ite2 x75 (CF Try.prog 185 [(.slice x0a x0n x0c), (.int .i64 x1), (.int .i64 x2), x4] hp fun u_38 h_39 => (boolV u_38 fun q_40 => (ite2 q_40 (K (.tuple ⟨[]⟩) h_39) (F166_j5 x0a x0n x0c x1 x2 x3 x4 x10 x11 x12 x13 h_39 I2 K)))) (F166_j5 x0a x0n x0c x1 x2 x3 x4 x10 x11 x12 x13 hp I2 K))
theorem F166_r22 : R166 [1, 1, 0, 0, 0, 1, 1, 1, 1, 1, 1, 0, 0] 8 (upd (upd (upd e 14 (sI x14)) 11 (sB x11)) 10 (sB x10)) V0 hp K =
    (ite2 x10 (ite2 x11 (K (upd (upd (upd (upd (upd (upd (upd (upd (upd (upd (upd e 14 (sI x14)) 11 (sB x11)) 10 (sB x10)) 68 (sB x10)) 69 (sB true)) 70 (sB x11)) 71 (sB x11)) 72 (sB true)) 73 (sI x14)) 74 (sB ((x14 == 1)))) 75 (sB ((x14 == 1)))) V0 hp) (K (upd (upd (upd (upd (upd (upd (upd (upd (upd (upd (upd e 14 (sI x14)) 11 (sB x11)) 10 (sB x10)) 68 (sB x10)) 69 (sB true)) 70 (sB x11)) 71 (sB x11)) 72 (sB false)) 73 sU) 74 sU) 75 (sB false)) V0 hp)) (K (upd (upd (upd (upd (upd (upd (upd (upd (upd (upd (upd e 14 (sI x14)) 11 (sB x11)) 10 (sB x10)) 68 (sB x10)) 69 (sB false)) 70 sU) 71 (sB false)) 72 (sB false)) 73 sU) 74 sU) 75 (sB false)) V0 hp)) := by kernel_rfl
def F166_j4 (x0a : Option Addr) (x0n : Nat) (x0c : Nat) (x1 : Int) (x2 : Int) (x3 : Int) (x4 : Value) (x10 : Bool) (x11 : Bool) (x12 : Int) (x13 : Int) (x14 : Int) (hp : HP) (I2 : (Int × Int × Int × Bool × Bool) → HP → Prop) (K : Value → HP → Prop) : Prop :=
  (ite2 x10 (ite2 x11 (F166_j7 x0a x0n x0c x1 x2 x3 x4 x10 x11 x12 x13 (x14 == 1) hp I2 K) (F166_j7 x0a x0n x0c x1 x2 x3 x4 x10 x11 x12 x13 false hp I2 K)) (F166_j7 x0a x0n x0c x1 x2 x3 x4 x10 x11 x12 x13 false hp I2 K))
theorem F166_r23 : R166 [1, 1, 0, 0, 0, 1, 1, 1, 1, 1, 0, 0] 2 (upd e 14 (sI x14)) V0 hp K =
    (K (upd (upd (upd e 14 (sI x14)) 55 (sI x14)) 56 (sB ((x14 == 2)))) V0 hp) := by kernel_rfl
theorem F166_r24 : R166 [1, 1, 0, 0, 0, 1, 1, 1, 1, 1, 0, 1, 0, 0] 5 (upd (upd (upd (upd e 4 (sV x4)) 2 (sI x2)) 1 (sI x1)) 0 (sS x0a x0n x0c)) V0 hp K =
    (CF Try.prog 184 [(.slice x0a x0n x0c), (.int .i64 x1), (.int .i64 x2), x4] hp fun u1 h2 => (K (upd (upd (upd (upd (upd (upd (upd (upd (upd e 4 (sV x4)) 2 (sI x2)) 1 (sI x1)) 0 (sS x0a x0n x0c)) 57 (sS x0a x0n x0c)) 58 (sI x1)) 59 (sI x2)) 60 (sV x4)) 61 (sV u1)) V0 h2)) := by kernel_rfl
theorem F166_r25 : R166 [1, 1, 0, 0, 0, 1, 1, 1, 1, 1, 0, 1, 0, 1, 0] 7 (upd (upd (upd e 13 (sI x13)) 2 (sI x2)) 1 (sI x1)) V0 hp K =
    (K (upd (upd (upd (upd (upd (upd (upd (upd (upd (upd e 13 (sI x13)) 2 (sI x2)) 1 (sI x1)) 62 (sI x2)) 63 (sI ((wr (x2 - 1))))) 64 (sI x13)) 65 (sI x1)) 66 (sI ((wr (x13 - x1))))) 67 (sI ((wr ((wr (x2 - 1)) - (wr (x13 - x1))))))) 13 (sI ((wr ((wr (x2 - 1)) - (wr (x13 - x1))))))) V0 hp) := by kernel_rfl
theorem F166_r26 : R166 [1, 1, 0, 0, 0, 1, 1, 1, 1, 1, 0, 1, 0, 1, 1] 1 e V0 hp K =
    (K (upd e 14 (sI 1)) V0 hp) := by kernel_rfl
def F166_j3 (x0a : Option Addr) (x0n : Nat) (x0c : Nat) (x1 : Int) (x2 : Int) (x3 : Int) (x4 : Value) (x10 : Bool) (x11 : Bool) (x12 : Int) (hp : HP) (I2 : (Int × Int × Int × Bool × Bool) → HP → Prop) (K : Value → HP → Prop) : Prop :=
  (CF Try.prog 183 [(.slice x0a x0n x0c), (.int .i64 x1), (.int .i64 x2), x4] hp fun u_5 h_6 => (tup2V u_5 fun u_7 u_8 => (intV u_7 .i64 fun i_9 => (intV u_8 .i64 fun i_10 => (ite2 (i_10 == 2) (CF Try.prog 184 [(.slice x0a x0n x0c), (.int .i64 x1), (.int .i64 x2), x4] h_6 fun u_41 h_42 => (F166_j4 x0a x0n x0c x1 x2 x3 x4 x10 x11 x12 (IntKind.wrap .i64 ((IntKind.wrap .i64 (x2 - 1)) - (IntKind.wrap .i64 (i_9 - x1)))) 1 h_42 I2 K)) (F166_j4 x0a x0n x0c x1 x2 x3 x4 x10 x11 x12 i_9 i_10 h_6 I2 K))))))
theorem F166_r27 : R166 [1, 1, 0, 0, 0, 1, 1, 1, 0, 0] 2 (upd e 10 (sB x10)) V0 hp K =
    (K (upd (upd (upd e 10 (sB x10)) 38 (sB x10)) 39 (sB ((!x10)))) V0 hp) := by kernel_rfl
theorem F166_r28 : R166 [1, 1, 0, 0, 0, 1, 1, 1, 0, 1, 0, 0] 5 (upd (upd (upd (upd e 4 (sV x4)) 2 (sI x2)) 1 (sI x1)) 0 (sS x0a x0n x0c)) V0 hp K =
    (CF Try.prog 182 [(.slice x0a x0n x0c), (.int .i64 x1), (.int .i64 x2), x4] hp fun u1 h2 => (K (upd (upd (upd (upd (upd (upd (upd (upd (upd e 4 (sV x4)) 2 (sI x2)) 1 (sI x1)) 0 (sS x0a x0n x0c)) 40 (sS x0a x0n x0c)) 41 (sI x1)) 42 (sI x2)) 43 (sV x4)) 44 (sV u1)) V0 h2)) := by kernel_rfl
theorem F166_r29 : R166 [1, 1, 0, 0, 0, 1, 1, 1, 0, 1, 0, 1] 3 (upd e 3 (sI x3)) V0 hp K =
    (K (upd (upd (upd (upd e 3 (sI x3)) 45 (sI x3)) 46 (sI ((wr (x3 - 1))))) 3 (sI ((wr (x3 - 1))))) V0 hp) := by kernel_rfl
def F166_l2 (x0a : Option Addr) (x0n : Nat) (x0c : Nat) (x4 : Value) (K : Value → HP → Prop) (I2 : (Int × Int × Int × Bool × Bool) → HP → Prop) (x1 : Int) (x2 : Int) (x3 : Int) (x10 : Bool) (x11 : Bool) (hp : HP) : Prop :=
  (ite2 (decide (((IntKind.wrap .i64 (x2 - x1)) : Int) ≤ 12)) (CF Try.prog 180 [(.slice x0a x0n x0c), (.int .i64 x1), (.int .i64 x2), x4] hp fun u_1 h_2 => (K (.tuple ⟨[]⟩) h_2)) (ite2 (x3 == 0) (CF Try.prog 181 [(.slice x0a x0n x0c), (.int .i64 x1), (.int .i64 x2), x4] hp fun u_3 h_4 => (K (.tuple ⟨[]⟩) h_4)) (ite2 (!x10) (CF Try.prog 182 [(.slice x0a x0n x0c), (.int .i64 x1), (.int .i64 x2), x4] hp fun u_43 h_44 => (F166_j3 x0a x0n x0c x1 x2 (IntKind.wrap .i64 (x3 - 1)) x4 x10 x11 (IntKind.wrap .i64 (x2 - x1)) h_44 I2 K)) (F166_j3 x0a x0n x0c x1 x2 x3 x4 x10 x11 (IntKind.wrap .i64 (x2 - x1)) hp I2 K))))
def F166_j1 (x0a : Option Addr) (x0n : Nat) (x0c : Nat) (x1 : Int) (x2 : Int) (x3 : Int) (x4 : Value) (x10 : Bool) (x11 : Bool) (hp : HP) (K : Value → HP → Prop) : Prop :=
  (LoopP (σ := Int × Int × Int × Bool × Bool) (fun I s hp => F166_l2 x0a x0n x0c x4  K I s.1 s.2.1 s.2.2.1 s.2.2.2.1 s.2.2.2.2 hp) (x1, x2, x3, x10, x11) hp)
theorem F166_r30 : R166 [1, 0] 1 e V0 hp K =
    (K (upd e 11 (sB true)) V0 hp) := by kernel_rfl
def F166 (x0a : Option Addr) (x0n : Nat) (x0c : Nat) (x1 : Int) (x2 : Int) (x3 : Int) (x4 : Value) (hp : HP) (K : Value → HP → Prop) : Prop :=
  (F166_j1 x0a x0n x0c x1 x2 x3 x4 true true hp  K)
noncomputable def F166_code : Code := (.seq (.region 0 (opsAt Try.f166 [0]) false) (.seq (.region 1 (opsAt Try.f166 [1, 0]) false) (.block 0 (.loop (.block 1 (.seq (.region 2 (opsAt Try.f166 [1, 1, 0, 0, 0, 0]) false) (.seq (.seq (.region 3 (opsAt Try.f166 [1, 1, 0, 0, 0, 1, 0, 0]) false) (.cond (.tmp 25) (.seq (.region 4 (opsAt Try.f166 [1, 1, 0, 0, 0, 1, 0, 1, 0, 0]) false) .ret) .skip)) (.seq (.seq (.region 5 (opsAt Try.f166 [1, 1, 0, 0, 0, 1, 1, 0, 0]) false) (.cond (.tmp 32) (.seq (.region 6 (opsAt Try.f166 [1, 1, 0, 0, 0, 1, 1, 0, 1, 0, 0]) false) .ret) .skip)) (.seq (.seq (.region 7 (opsAt Try.f166 [1, 1, 0, 0, 0, 1, 1, 1, 0, 0]) false) (.cond (.tmp 39) (.seq (.region 8 (opsAt Try.f166 [1, 1, 0, 0, 0, 1, 1, 1, 0, 1, 0, 0]) false) (.region 9 (opsAt Try.f166 [1, 1, 0, 0, 0, 1, 1, 1, 0, 1, 0, 1]) false)) .skip)) (.seq (.region 10 (opsAt Try.f166 [1, 1, 0, 0, 0, 1, 1, 1, 1, 0]) false) (.seq (.seq (.region 11 (opsAt Try.f166 [1, 1, 0, 0, 0, 1, 1, 1, 1, 1, 0, 0]) false) (.cond (.tmp 56) (.seq (.region 12 (opsAt Try.f166 [1, 1, 0, 0, 0, 1, 1, 1, 1, 1, 0, 1, 0, 0]) false) (.seq (.region 13 (opsAt Try.f166 [1, 1, 0, 0, 0, 1, 1, 1, 1, 1, 0, 1, 0, 1, 0]) false) (.region 14 (opsAt Try.f166 [1, 1, 0, 0, 0, 1, 1, 1, 1, 1, 0, 1, 0, 1, 1]) false))) .skip)) (.seq (.seq (.region 15 (opsAt Try.f166 [1, 1, 0, 0, 0, 1, 1, 1, 1, 1, 1, 0, 0]) false) (.cond (.tmp 75) (.seq (.region 16 (opsAt Try.f166 [1, 1, 0, 0, 0, 1, 1, 1, 1, 1, 1, 0, 1, 0, 0]) false) (.cond (.tmp 80) .ret .skip)) .skip)) (.seq (.seq (.region 17 (opsAt Try.f166 [1, 1, 0, 0, 0, 1, 1, 1, 1, 1, 1, 1, 0, 0]) true) (.cond (.tmp 97) (.seq (.region 18 (opsAt Try.f166 [1, 1, 0, 0, 0, 1, 1, 1, 1, 1, 1, 1, 0, 1, 0, 0]) false) (.seq (.region 19 (opsAt Try.f166 [1, 1, 0, 0, 0, 1, 1, 1, 1, 1, 1, 1, 0, 1, 0, 1, 0]) false) (.exit 1))) .skip)) (.seq (.region 20 (opsAt Try.f166 [1, 1, 0, 0, 0, 1, 1, 1, 1, 1, 1, 1, 1, 0]) false) (.seq (.region 21 (opsAt Try.f166 [1, 1, 0, 0, 0, 1, 1, 1, 1, 1, 1, 1, 1, 1, 0]) false) (.seq (.region 22 (opsAt Try.f166 [1, 1, 0, 0, 0, 1, 1, 1, 1, 1, 1, 1, 1, 1, 1, 0]) false) (.seq (.region 23 (opsAt Try.f166 [1, 1, 0, 0, 0, 1, 1, 1, 1, 1, 1, 1, 1, 1, 1, 1, 0]) false) (.seq (.region 24 (opsAt Try.f166 [1, 1, 0, 0, 0, 1, 1, 1, 1, 1, 1, 1, 1, 1, 1, 1, 1, 0]) false) (.cond (.tmp 125) (.seq (.region 25 (opsAt Try.f166 [1, 1, 0, 0, 0, 1, 1, 1, 1, 1, 1, 1, 1, 1, 1, 1, 1, 1, 0, 0]) false) (.seq (.region 26 (opsAt Try.f166 [1, 1, 0, 0, 0, 1, 1, 1, 1, 1, 1, 1, 1, 1, 1, 1, 1, 1, 0, 1, 0]) false) (.region 27 (opsAt Try.f166 [1, 1, 0, 0, 0, 1, 1, 1, 1, 1, 1, 1, 1, 1, 1, 1, 1, 1, 0, 1, 1]) false))) (.seq (.region 28 (opsAt Try.f166 [1, 1, 0, 0, 0, 1, 1, 1, 1, 1, 1, 1, 1, 1, 1, 1, 1, 1, 1, 0]) false) (.seq (.region 29 (opsAt Try.f166 [1, 1, 0, 0, 0, 1, 1, 1, 1, 1, 1, 1, 1, 1, 1, 1, 1, 1, 1, 1, 0]) false) (.region 30 (opsAt Try.f166 [1, 1, 0, 0, 0, 1, 1, 1, 1, 1, 1, 1, 1, 1, 1, 1, 1, 1, 1, 1, 1]) false))))))))))))))))))))))
theorem F166_body : Try.f166.body = some F166_code := by kernel_rfl
theorem F166_ok (x0a : Option Addr) (x0n : Nat) (x0c : Nat) (x1 : Int) (x2 : Int) (x3 : Int) (x4 : Value) (hp : HP) (K : Value → HP → Prop) (h : F166 x0a x0n x0c x1 x2 x3 x4 hp K) : CF Try.prog 166 [(.slice x0a x0n x0c), (.int .i64 x1), (.int .i64 x2), (.int .i64 x3), x4] hp K := by
 refine .inl ⟨by kernel_rfl, AC.intro (N := 148) Try.func166 F166_body rfl (Nat.le_of_ble_eq_true rfl) ?_⟩
 unfold F166 at h
 unfold F166_code
 refine AWP.seq' ?_
 refine AWP.rgn (F166_r0 (upd (upd (upd (upd (upd E0 4 (sV x4)) 3 (sI x3)) 2 (sI x2)) 1 (sI x1)) 0 (sS x0a x0n x0c))  hp _) ?_ (Ru 0 (Ru 1 (Ru 2 (Ru 3 (Ru 4 Rn))))) (Sc rfl (Sc rfl (Sc rfl (Sc rfl (Sc rfl Sn))))) Sn
 refine AWP.seq (fun env pv hp => ∃ (x0a : Option Addr) (x0n : Nat) (x0c : Nat) (x1 : Int) (x2 : Int) (x3 : Int) (x4 : Value) (x10 : Bool) (x11 : Bool), Sub (upd (upd (upd (upd (upd (upd (upd E0 11 (sB x11)) 10 (sB x10)) 4 (sV x4)) 3 (sI x3)) 2 (sI x2)) 1 (sI x1)) 0 (sS x0a x0n x0c)) env ∧ Sub V0 pv ∧ (F166_j1 x0a x0n x0c x1 x2 x3 x4 x10 x11 hp  K)) ?_ ?_
 ·refine AWP.rgn (F166_r30 (upd (upd (upd (upd (upd (upd E0 10 (sB true)) 4 (sV x4)) 3 (sI x3)) 2 (sI x2)) 1 (sI x1)) 0 (sS x0a x0n x0c))  hp _) ?_ (Ru 0 (Ru 1 (Ru 2 (Ru 3 (Ru 4 (Ru 10 Rn)))))) (Sc rfl (Sc rfl (Sc rfl (Sc rfl (Sc rfl (Sc rfl Sn)))))) Sn
  exact ⟨x0a, x0n, x0c, x1, x2, x3, x4, true, true, (Sc rfl (Sc rfl (Sc rfl (Sc rfl (Sc rfl (Sc rfl (Sc rfl Sn))))))), Sn, h⟩
 ·rintro env pv hp ⟨x0a, x0n, x0c, x1, x2, x3, x4, x10, x11, he, hv, h⟩
  refine AWP.sub (env' := (upd (upd (upd (upd (upd (upd (upd E0 11 (sB x11)) 10 (sB x10)) 4 (sV x4)) 3 (sI x3)) 2 (sI x2)) 1 (sI x1)) 0 (sS x0a x0n x0c))) (pv' := V0) ?_ (Ru 0 (Ru 1 (Ru 2 (Ru 3 (Ru 4 (Ru 10 (Ru 11 Rn))))))) he hv (HSub.refl _)
  clear he hv
  unfold F166_j1 at h
  refine AWP.block ?_
  refine AWP.loop (σ := Int × Int × Int × Bool × Bool) (fun I s hp => F166_l2 x0a x0n x0c x4  K I s.1 s.2.1 s.2.2.1 s.2.2.2.1 s.2.2.2.2 hp) (fun s => (upd (upd (upd (upd (upd (upd (upd E0 11 (sB (s.2.2.2.2))) 10 (sB (s.2.2.2.1))) 4 (sV x4)) 3 (sI (s.2.2.1))) 2 (sI (s.2.1))) 1 (sI (s.1))) 0 (sS x0a x0n x0c))) (fun s => V0) (x1, x2, x3, x10, x11) h (fun s => (Ru 0 (Ru 1 (Ru 2 (Ru 3 (Ru 4 (Ru 10 (Ru 11 Rn)))))))) (Sc rfl (Sc rfl (Sc rfl (Sc rfl (Sc rfl (Sc rfl (Sc rfl Sn))))))) Sn ?_
  intro I2 s hp h
  obtain ⟨x1, x2, x3, x10, x11⟩ := s
  replace h : F166_l2 x0a x0n x0c x4  K I2 x1 x2 x3 x10 x11 hp := h
  unfold F166_l2 at h
  refine AWP.block ?_
  refine AWP.seq' ?_
  refine AWP.rgn (F166_r1 (upd (upd (upd (upd (upd E0 11 (sB x11)) 10 (sB x10)) 4 (sV x4)) 3 (sI x3)) 0 (sS x0a x0n x0c)) x1 x2 hp _) ?_ (Ru 1 (Ru 2 (Ru 0 (Ru 3 (Ru 4 (Ru 10 (Ru 11 Rn))))))) (Sc rfl (Sc rfl (Sc rfl (Sc rfl (Sc rfl (Sc rfl (Sc rfl Sn))))))) Sn
  refine AWP.seq' ?_
  refine AWP.seq' ?_
  refine AWP.rgn (F166_r2 (upd (upd (upd (upd (upd (upd (upd E0 11 (sB x11)) 10 (sB x10)) 4 (sV x4)) 3 (sI x3)) 2 (sI x2)) 1 (sI x1)) 0 (sS x0a x0n x0c)) (wr (x2 - x1)) hp _) ?_ (Ru 12 (Ru 0 (Ru 1 (Ru 2 (Ru 3 (Ru 4 (Ru 10 (Ru 11 Rn)))))))) (Sc rfl (Sc rfl (Sc rfl (Sc rfl (Sc rfl (Sc rfl (Sc rfl (Sc rfl Sn)))))))) Sn
  refine AWP.cond (t := (decide (((wr (x2 - x1)) : Int) ≤ 12))) rfl (fun e => ?_) (fun e => ?_)
  ·replace h := ite2_t h e
   refine AWP.seq' ?_
   refine AWP.rgn (F166_r3 E0 x0a x0n x0c x1 x2 x4 hp _) ?_ (Ru 0 (Ru 1 (Ru 2 (Ru 4 Rn)))) (Sc rfl (Sc rfl (Sc rfl (Sc rfl Sn)))) Sn
   refine mC h fun u_1 h_2 h => ?_
   refine AWP.ret ?_
   exact h
  ·replace h := ite2_f h e
   refine AWP.skip ?_
   refine AWP.seq' ?_
   refine AWP.seq' ?_
   refine AWP.rgn (F166_r4 (upd (upd (upd (upd (upd (upd (upd E0 12 (sI ((wr (x2 - x1))))) 11 (sB x11)) 10 (sB x10)) 4 (sV x4)) 2 (sI x2)) 1 (sI x1)) 0 (sS x0a x0n x0c)) x3 hp _) ?_ (Ru 3 (Ru 0 (Ru 1 (Ru 2 (Ru 4 (Ru 10 (Ru 11 (Ru 12 Rn)))))))) (Sc rfl (Sc rfl (Sc rfl (Sc rfl (Sc rfl (Sc rfl (Sc rfl (Sc rfl Sn)))))))) Sn
   refine AWP.cond (t := (x3 == 0)) rfl (fun e => ?_) (fun e => ?_)
   ·replace h := ite2_t h e
    refine AWP.seq' ?_
    refine AWP.rgn (F166_r5 E0 x0a x0n x0c x1 x2 x4 hp _) ?_ (Ru 0 (Ru 1 (Ru 2 (Ru 4 Rn)))) (Sc rfl (Sc rfl (Sc rfl (Sc rfl Sn)))) Sn
    refine mC h fun u_3 h_4 h => ?_
    refine AWP.ret ?_
    exact h
   ·replace h := ite2_f h e
    refine AWP.skip ?_
    refine AWP.seq (fun env pv hp => ∃ (x1 : Int) (x2 : Int) (x3 : Int) (x10 : Bool) (x11 : Bool) (x12 : Int), Sub (upd (upd (upd (upd (upd (upd (upd (upd E0 12 (sI x12)) 11 (sB x11)) 10 (sB x10)) 4 (sV x4)) 3 (sI x3)) 2 (sI x2)) 1 (sI x1)) 0 (sS x0a x0n x0c)) env ∧ Sub V0 pv ∧ (F166_j3 x0a x0n x0c x1 x2 x3 x4 x10 x11 x12 hp I2 K)) ?_ ?_
    ·refine AWP.seq' ?_
     refine AWP.rgn (F166_r27 (upd (upd (upd (upd (upd (upd (upd E0 12 (sI ((wr (x2 - x1))))) 11 (sB x11)) 4 (sV x4)) 3 (sI x3)) 2 (sI x2)) 1 (sI x1)) 0 (sS x0a x0n x0c)) x10 hp _) ?_ (Ru 10 (Ru 0 (Ru 1 (Ru 2 (Ru 3 (Ru 4 (Ru 11 (Ru 12 Rn)))))))) (Sc rfl (Sc rfl (Sc rfl (Sc rfl (Sc rfl (Sc rfl (Sc rfl (Sc rfl Sn)))))))) Sn
     refine AWP.cond (t := (!x10)) rfl (fun e => ?_) (fun e => ?_)
     ·replace h := ite2_t h e
      refine AWP.seq' ?_
      refine AWP.rgn (F166_r28 (upd (upd (upd (upd E0 12 (sI ((wr (x2 - x1))))) 11 (sB x11)) 10 (sB x10)) 3 (sI x3)) x0a x0n x0c x1 x2 x4 hp _) ?_ (Ru 0 (Ru 1 (Ru 2 (Ru 4 (Ru 3 (Ru 10 (Ru 11 (Ru 12 Rn)))))))) (Sc rfl (Sc rfl (Sc rfl (Sc rfl (Sc rfl (Sc rfl (Sc rfl (Sc rfl Sn)))))))) Sn
      refine mC h fun u_43 h_44 h => ?_
      refine AWP.rgn (F166_r29 (upd (upd (upd (upd (upd (upd (upd E0 12 (sI ((wr (x2 - x1))))) 11 (sB x11)) 10 (sB x10)) 4 (sV x4)) 2 (sI x2)) 1 (sI x1)) 0 (sS x0a x0n x0c)) x3 h_44 _) ?_ (Ru 3 (Ru 0 (Ru 1 (Ru 2 (Ru 4 (Ru 10 (Ru 11 (Ru 12 Rn)))))))) (Sc rfl (Sc rfl (Sc rfl (Sc rfl (Sc rfl (Sc rfl (Sc rfl (Sc rfl Sn)))))))) Sn
      exact ⟨x1, x2, (wr (x3 - 1)), x10, x11, (wr (x2 - x1)), (Sc rfl (Sc rfl (Sc rfl (Sc rfl (Sc rfl (Sc rfl (Sc rfl (Sc rfl Sn)))))))), Sn, h⟩
     ·replace h := ite2_f h e
      refine AWP.skip ?_
      exact ⟨x1, x2, x3, x10, x11, (wr (x2 - x1)), (Sc rfl (Sc rfl (Sc rfl (Sc rfl (Sc rfl (Sc rfl (Sc rfl (Sc rfl Sn)))))))), Sn, h⟩
    ·rintro env pv hp ⟨x1, x2, x3, x10, x11, x12, he, hv, h⟩
     refine AWP.sub (env' := (upd (upd (upd (upd (upd (upd (upd (upd E0 12 (sI x12)) 11 (sB x11)) 10 (sB x10)) 4 (sV x4)) 3 (sI x3)) 2 (sI x2)) 1 (sI x1)) 0 (sS x0a x0n x0c))) (pv' := V0) ?_ (Ru 0 (Ru 1 (Ru 2 (Ru 3 (Ru 4 (Ru 10 (Ru 11 (Ru 12 Rn)))))))) he hv (HSub.refl _)
     clear he hv
     unfold F166_j3 at h
     refine AWP.seq' ?_
     refine AWP.rgn (F166_r6 (upd (upd (upd (upd E0 12 (sI x12)) 11 (sB x11)) 10 (sB x10)) 3 (sI x3)) x0a x0n x0c x1 x2 x4 hp _) ?_ (Ru 0 (Ru 1 (Ru 2 (Ru 4 (Ru 3 (Ru 10 (Ru 11 (Ru 12 Rn)))))))) (Sc rfl (Sc rfl (Sc rfl (Sc rfl (Sc rfl (Sc rfl (Sc rfl (Sc rfl Sn)))))))) Sn
     refine mC h fun u_5 h_6 h => mT h fun u_7 u_8 h => mI h fun i_9 h => mI h fun i_10 h => ?_
     refine AWP.seq (fun env pv hp => ∃ (x1 : Int) (x2 : Int) (x3 : Int) (x10 : Bool) (x11 : Bool) (x12 : Int) (x13 : Int) (x14 : Int), Sub (upd (upd (upd (upd (upd (upd (upd (upd (upd (upd E0 14 (sI x14)) 13 (sI x13)) 12 (sI x12)) 11 (sB x11)) 10 (sB x10)) 4 (sV x4)) 3 (sI x3)) 2 (sI x2)) 1 (sI x1)) 0 (sS x0a x0n x0c)) env ∧ Sub V0 pv ∧ (F166_j4 x0a x0n x0c x1 x2 x3 x4 x10 x11 x12 x13 x14 hp I2 K)) ?_ ?_
     ·refine AWP.seq' ?_
      refine AWP.rgn (F166_r23 (upd (upd (upd (upd (upd (upd (upd (upd (upd E0 13 (sI i_9)) 12 (sI x12)) 11 (sB x11)) 10 (sB x10)) 4 (sV x4)) 3 (sI x3)) 2 (sI x2)) 1 (sI x1)) 0 (sS x0a x0n x0c)) i_10 h_6 _) ?_ (Ru 14 (Ru 0 (Ru 1 (Ru 2 (Ru 3 (Ru 4 (Ru 10 (Ru 11 (Ru 12 (Ru 13 Rn)))))))))) (Sc rfl (Sc rfl (Sc rfl (Sc rfl (Sc rfl (Sc rfl (Sc rfl (Sc rfl (Sc rfl (Sc rfl Sn)))))))))) Sn
      refine AWP.cond (t := (i_10 == 2)) rfl (fun e => ?_) (fun e => ?_)
      ·replace h := ite2_t h e
       refine AWP.seq' ?_
       refine AWP.rgn (F166_r24 (upd (upd (upd (upd (upd E0 13 (sI i_9)) 12 (sI x12)) 11 (sB x11)) 10 (sB x10)) 3 (sI x3)) x0a x0n x0c x1 x2 x4 h_6 _) ?_ (Ru 0 (Ru 1 (Ru 2 (Ru 4 (Ru 3 (Ru 10 (Ru 11 (Ru 12 (Ru 13 Rn))))))))) (Sc rfl (Sc rfl (Sc rfl (Sc rfl (Sc rfl (Sc rfl (Sc rfl (Sc rfl (Sc rfl Sn))))))))) Sn
       refine mC h fun u_41 h_42 h => ?_
       refine AWP.seq' ?_
       refine AWP.rgn (F166_r25 (upd (upd (upd (upd (upd (upd E0 12 (sI x12)) 11 (sB x11)) 10 (sB x10)) 4 (sV x4)) 3 (sI x3)) 0 (sS x0a x0n x0c)) x1 x2 i_9 h_42 _) ?_ (Ru 1 (Ru 2 (Ru 13 (Ru 0 (Ru 3 (Ru 4 (Ru 10 (Ru 11 (Ru 12 Rn))))))))) (Sc rfl (Sc rfl (Sc rfl (Sc rfl (Sc rfl (Sc rfl (Sc rfl (Sc rfl (Sc rfl Sn))))))))) Sn
       refine AWP.rgn (F166_r26 (upd (upd (upd (upd (upd (upd (upd (upd (upd E0 13 (sI ((wr ((wr (x2 - 1)) - (wr (i_9 - x1))))))) 12 (sI x12)) 11 (sB x11)) 10 (sB x10)) 4 (sV x4)) 3 (sI x3)) 2 (sI x2)) 1 (sI x1)) 0 (sS x0a x0n x0c))  h_42 _) ?_ (Ru 0 (Ru 1 (Ru 2 (Ru 3 (Ru 4 (Ru 10 (Ru 11 (Ru 12 (Ru 13 Rn))))))))) (Sc rfl (Sc rfl (Sc rfl (Sc rfl (Sc rfl (Sc rfl (Sc rfl (Sc rfl (Sc rfl Sn))))))))) Sn
       exact ⟨x1, x2, x3, x10, x11, x12, (wr ((wr (x2 - 1)) - (wr (i_9 - x1)))), 1, (Sc rfl (Sc rfl (Sc rfl (Sc rfl (Sc rfl (Sc rfl (Sc rfl (Sc rfl (Sc rfl (Sc rfl Sn)))))))))), Sn, h⟩
      ·replace h := ite2_f h e
       refine AWP.skip ?_
       exact ⟨x1, x2, x3, x10, x11, x12, i_9, i_10, (Sc rfl (Sc rfl (Sc rfl (Sc rfl (Sc rfl (Sc rfl (Sc rfl (Sc rfl (Sc rfl (Sc rfl Sn)))))))))), Sn, h⟩
     ·rintro env pv hp ⟨x1, x2, x3, x10, x11, x12, x13, x14, he, hv, h⟩
      refine AWP.sub (env' := (upd (upd (upd (upd (upd (upd (upd (upd (upd (upd E0 14 (sI x14)) 13 (sI x13)) 12 (sI x12)) 11 (sB x11)) 10 (sB x10)) 4 (sV x4)) 3 (sI x3)) 2 (sI x2)) 1 (sI x1)) 0 (sS x0a x0n x0c))) (pv' := V0) ?_ (Ru 0 (Ru 1 (Ru 2 (Ru 3 (Ru 4 (Ru 10 (Ru 11 (Ru 12 (Ru 13 (Ru 14 Rn)))))))))) he hv (HSub.refl _)
      clear he hv
      unfold F166_j4 at h
      refine AWP.seq (fun env pv hp => ∃ (x1 : Int) (x2 : Int) (x3 : Int) (x10 : Bool) (x11 : Bool) (x12 : Int) (x13 : Int), Sub (upd (upd (upd (upd (upd (upd (upd (upd (upd E0 13 (sI x13)) 12 (sI x12)) 11 (sB x11)) 10 (sB x10)) 4 (sV x4)) 3 (sI x3)) 2 (sI x2)) 1 (sI x1)) 0 (sS x0a x0n x0c)) env ∧ Sub V0 pv ∧ (F166_j5 x0a x0n x0c x1 x2 x3 x4 x10 x11 x12 x13 hp I2 K)) ?_ ?_
      ·refine AWP.seq (fun env pv hp => ∃ (x1 : Int) (x2 : Int) (x3 : Int) (x10 : Bool) (x11 : Bool) (x12 : Int) (x13 : Int) (x75 : Bool), Sub (upd (upd (upd (upd (upd (upd (upd (upd (upd (upd E0 75 (sB x75)) 13 (sI x13)) 12 (sI x12)) 11 (sB x11)) 10 (sB x10)) 4 (sV x4)) 3 (sI x3)) 2 (sI x2)) 1 (sI x1)) 0 (sS x0a x0n x0c)) env ∧ Sub V0 pv ∧ (F166_j7 x0a x0n x0c x1 x2 x3 x4 x10 x11 x12 x13 x75 hp I2 K)) ?_ ?_
       ·refine AWP.rgn (F166_r22 (upd (upd (upd (upd (upd (upd (upd E0 13 (sI x13)) 12 (sI x12)) 4 (sV x4)) 3 (sI x3)) 2 (sI x2)) 1 (sI x1)) 0 (sS x0a x0n x0c)) x10 x11 x14 hp _) ?_ (Ru 10 (Ru 11 (Ru 14 (Ru 0 (Ru 1 (Ru 2 (Ru 3 (Ru 4 (Ru 12 (Ru 13 Rn)))))))))) (Sc rfl (Sc rfl (Sc rfl (Sc rfl (Sc rfl (Sc rfl (Sc rfl (Sc rfl (Sc rfl (Sc rfl Sn)))))))))) Sn
        refine mt h (fun h => ?_) (fun h => ?_)
        ·refine mt h (fun h => ?_) (fun h => ?_)
         ·exact ⟨x1, x2, x3, x10, x11, x12, x13, (x14 == 1), (Sc rfl (Sc rfl (Sc rfl (Sc rfl (Sc rfl (Sc rfl (Sc rfl (Sc rfl (Sc rfl (Sc rfl Sn)))))))))), Sn, h⟩
         ·exact ⟨x1, x2, x3, x10, x11, x12, x13, false, (Sc rfl (Sc rfl (Sc rfl (Sc rfl (Sc rfl (Sc rfl (Sc rfl (Sc rfl (Sc rfl (Sc rfl Sn)))))))))), Sn, h⟩
        ·exact ⟨x1, x2, x3, x10, x11, x12, x13, false, (Sc rfl (Sc rfl (Sc rfl (Sc rfl (Sc rfl (Sc rfl (Sc rfl (Sc rfl (Sc rfl (Sc rfl Sn)))))))))), Sn, h⟩
       ·rintro env pv hp ⟨x1, x2, x3, x10, x11, x12, x13, x75, he, hv, h⟩
        refine AWP.sub (env' := (upd (upd (upd (upd (upd (upd (upd (upd (upd (upd E0 75 (sB x75)) 13 (sI x13)) 12 (sI x12)) 11 (sB x11)) 10 (sB x10)) 4 (sV x4)) 3 (sI x3)) 2 (sI x2)) 1 (sI x1)) 0 (sS x0a x0n x0c))) (pv' := V0) ?_ (Ru 0 (Ru 1 (Ru 2 (Ru 3 (Ru 4 (Ru 10 (Ru 11 (Ru 12 (Ru 13 (Ru 75 Rn)))))))))) he hv (HSub.refl _)
        clear he hv
        unfold F166_j7 at h
        refine AWP.cond (t := x75) rfl (fun e => ?_) (fun e => ?_)
        ·replace h := ite2_t h e
         refine AWP.seq' ?_
         refine AWP.rgn (F166_r21 (upd (upd (upd (upd (upd E0 13 (sI x13)) 12 (sI x12)) 11 (sB x11)) 10 (sB x10)) 3 (sI x3)) x0a x0n x0c x1 x2 x4 hp _) ?_ (Ru 0 (Ru 1 (Ru 2 (Ru 4 (Ru 3 (Ru 10 (Ru 11 (Ru 12 (Ru 13 Rn))))))))) (Sc rfl (Sc rfl (Sc rfl (Sc rfl (Sc rfl (Sc rfl (Sc rfl (Sc rfl (Sc rfl Sn))))))))) Sn
         refine mC h fun u_38 h_39 h => mB h fun q_40 h => ?_
         refine AWP.cond (t := q_40) rfl (fun e => ?_) (fun e => ?_)
         ·replace h := ite2_t h e
          refine AWP.ret ?_
          exact h
         ·replace h := ite2_f h e
          refine AWP.skip ?_
          exact ⟨x1, x2, x3, x10, x11, x12, x13, (Sc rfl (Sc rfl (Sc rfl (Sc rfl (Sc rfl (Sc rfl (Sc rfl (Sc rfl (Sc rfl Sn))))))))), Sn, h⟩
        ·replace h := ite2_f h e
         refine AWP.skip ?_
         exact ⟨x1, x2, x3, x10, x11, x12, x13, (Sc rfl (Sc rfl (Sc rfl (Sc rfl (Sc rfl (Sc rfl (Sc rfl (Sc rfl (Sc rfl Sn))))))))), Sn, h⟩
      ·rintro env pv hp ⟨x1, x2, x3, x10, x11, x12, x13, he, hv, h⟩
       refine AWP.sub (env' := (upd (upd (upd (upd (upd (upd (upd (upd (upd E0 13 (sI x13)) 12 (sI x12)) 11 (sB x11)) 10 (sB x10)) 4 (sV x4)) 3 (sI x3)) 2 (sI x2)) 1 (sI x1)) 0 (sS x0a x0n x0c))) (pv' := V0) ?_ (Ru 0 (Ru 1 (Ru 2 (Ru 3 (Ru 4 (Ru 10 (Ru 11 (Ru 12 (Ru 13 Rn))))))))) he hv (HSub.refl _)
       clear he hv
       unfold F166_j5 at h
       refine AWP.seq' ?_
       refine AWP.seq (fun env pv hp => ∃ (x1 : Int) (x2 : Int) (x3 : Int) (x10 : Bool) (x11 : Bool) (x12 : Int) (x13 : Int) (x97 : Bool), Sub (upd (upd (upd (upd (upd (upd (upd (upd (upd (upd E0 97 (sB x97)) 13 (sI x13)) 12 (sI x12)) 11 (sB x11)) 10 (sB x10)) 4 (sV x4)) 3 (sI x3)) 2 (sI x2)) 1 (sI x1)) 0 (sS x0a x0n x0c)) env ∧ Sub V0 pv ∧ (F166_j6 x0a x0n x0c x1 x2 x3 x4 x10 x11 x12 x13 x97 hp I2 K)) ?_ ?_
       ·refine AWP.rgnD (by kernel_rfl) (by kernel_rfl) (F166_r20 (upd (upd (upd (upd (upd E0 12 (sI x12)) 11 (sB x11)) 10 (sB x10)) 3 (sI x3)) 2 (sI x2)) x0a x0n x0c x1 x4 x13 hp _) ?_ (Ru 0 (Ru 1 (Ru 4 (Ru 13 (Ru 2 (Ru 3 (Ru 10 (Ru 11 (Ru 12 Rn))))))))) (Sc rfl (Sc rfl (Sc rfl (Sc rfl (Sc rfl (Sc rfl (Sc rfl (Sc rfl (Sc rfl Sn))))))))) Sn
        refine mt h (fun h => ?_) (fun h => ?_)
        ·refine ⟨h.1, h.2.1, mN h.2.2 (fun b_24 o_25 h => mV h (fun v_26 h => ms h (fun s_27 h => ⟨h.1, h.2.1, mN h.2.2 fun b_28 o_29 h => mV h fun v_30 h => ms h fun s_31 h => mF h fun f_32 ga_33 gb_34 h => mC h fun u_35 h_36 h => mI h fun i_37 h => ?_⟩)))⟩
         exact ⟨x1, x2, x3, x10, x11, x12, x13, (!(decide (i_37 < 0))), (Sc rfl (Sc rfl (Sc rfl (Sc rfl (Sc rfl (Sc rfl (Sc rfl (Sc rfl (Sc rfl (Sc rfl Sn)))))))))), Sn, h⟩
        ·exact ⟨x1, x2, x3, x10, x11, x12, x13, false, (Sc rfl (Sc rfl (Sc rfl (Sc rfl (Sc rfl (Sc rfl (Sc rfl (Sc rfl (Sc rfl (Sc rfl Sn)))))))))), Sn, h⟩
       ·rintro env pv hp ⟨x1, x2, x3, x10, x11, x12, x13, x97, he, hv, h⟩
        refine AWP.sub (env' := (upd (upd (upd (upd (upd (upd (upd (upd (upd (upd E0 97 (sB x97)) 13 (sI x13)) 12 (sI x12)) 11 (sB x11)) 10 (sB x10)) 4 (sV x4)) 3 (sI x3)) 2 (sI x2)) 1 (sI x1)) 0 (sS x0a x0n x0c))) (pv' := V0) ?_ (Ru 0 (Ru 1 (Ru 2 (Ru 3 (Ru 4 (Ru 10 (Ru 11 (Ru 12 (Ru 13 (Ru 97 Rn)))))))))) he hv (HSub.refl _)
        clear he hv
        unfold F166_j6 at h
        refine AWP.cond (t := x97) rfl (fun e => ?_) (fun e => ?_)
        ·replace h := ite2_t h e
         refine AWP.seq' ?_
         refine AWP.rgn (F166_r7 (upd (upd (upd E0 11 (sB x11)) 10 (sB x10)) 3 (sI x3)) x0a x0n x0c x1 x2 x4 x13 hp _) ?_ (Ru 0 (Ru 1 (Ru 2 (Ru 4 (Ru 13 (Ru 3 (Ru 10 (Ru 11 Rn)))))))) (Sc rfl (Sc rfl (Sc rfl (Sc rfl (Sc rfl (Sc rfl (Sc rfl (Sc rfl Sn)))))))) Sn
         refine mC h fun u_11 h_12 h => mI h fun i_13 h => ?_
         refine AWP.seq' ?_
         refine AWP.rgn (F166_r8 (upd (upd (upd (upd (upd (upd E0 11 (sB x11)) 10 (sB x10)) 4 (sV x4)) 3 (sI x3)) 2 (sI x2)) 0 (sS x0a x0n x0c)) i_13 h_12 _) ?_ (Ru 15 (Ru 0 (Ru 2 (Ru 3 (Ru 4 (Ru 10 (Ru 11 Rn))))))) (Sc rfl (Sc rfl (Sc rfl (Sc rfl (Sc rfl (Sc rfl (Sc rfl Sn))))))) Sn
         refine AWP.exit ?_
         exact ⟨(i_13, x2, x3, x10, x11), (Sc rfl (Sc rfl (Sc rfl (Sc rfl (Sc rfl (Sc rfl (Sc rfl Sn))))))), Sn, h⟩
        ·replace h := ite2_f h e
         refine AWP.skip ?_
         refine AWP.seq' ?_
         refine AWP.rgn (F166_r9 (upd (upd E0 12 (sI x12)) 3 (sI x3)) x0a x0n x0c x1 x2 x4 x13 hp _) ?_ (Ru 0 (Ru 1 (Ru 2 (Ru 4 (Ru 13 (Ru 3 (Ru 12 Rn))))))) (Sc rfl (Sc rfl (Sc rfl (Sc rfl (Sc rfl (Sc rfl (Sc rfl Sn))))))) Sn
         refine mC h fun u_14 h_15 h => mT h fun u_16 u_17 h => mI h fun i_18 h => mB h fun q_19 h => ?_
         refine AWP.seq' ?_
         refine AWP.rgn (F166_r10 (upd (upd (upd (upd (upd (upd (upd E0 16 (sI i_18)) 12 (sI x12)) 4 (sV x4)) 3 (sI x3)) 2 (sI x2)) 1 (sI x1)) 0 (sS x0a x0n x0c)) q_19 h_15 _) ?_ (Ru 17 (Ru 0 (Ru 1 (Ru 2 (Ru 3 (Ru 4 (Ru 12 (Ru 16 Rn)))))))) (Sc rfl (Sc rfl (Sc rfl (Sc rfl (Sc rfl (Sc rfl (Sc rfl (Sc rfl Sn)))))))) Sn
         refine AWP.seq' ?_
         refine AWP.rgn (F166_r11 (upd (upd (upd (upd (upd E0 12 (sI x12)) 11 (sB q_19)) 4 (sV x4)) 3 (sI x3)) 0 (sS x0a x0n x0c)) x1 x2 i_18 h_15 _) ?_ (Ru 1 (Ru 2 (Ru 16 (Ru 0 (Ru 3 (Ru 4 (Ru 11 (Ru 12 Rn)))))))) (Sc rfl (Sc rfl (Sc rfl (Sc rfl (Sc rfl (Sc rfl (Sc rfl (Sc rfl Sn)))))))) Sn
         refine AWP.seq' ?_
         refine AWP.rgn (F166_r12 (upd (upd (upd (upd (upd (upd (upd (upd (upd E0 19 (sI ((wr (x2 - i_18))))) 18 (sI ((wr (i_18 - x1))))) 16 (sI i_18)) 11 (sB q_19)) 4 (sV x4)) 3 (sI x3)) 2 (sI x2)) 1 (sI x1)) 0 (sS x0a x0n x0c)) x12 h_15 _) ?_ (Ru 12 (Ru 0 (Ru 1 (Ru 2 (Ru 3 (Ru 4 (Ru 11 (Ru 16 (Ru 18 (Ru 19 Rn)))))))))) (Sc rfl (Sc rfl (Sc rfl (Sc rfl (Sc rfl (Sc rfl (Sc rfl (Sc rfl (Sc rfl (Sc rfl Sn)))))))))) Sn
         refine ⟨h.1, ?_⟩
         replace h := h.2
         refine AWP.seq' ?_
         refine AWP.rgn (F166_r13 (upd (upd (upd (upd (upd (upd (upd (upd E0 20 (sI ((wr (Int.tdiv x12 8))))) 16 (sI i_18)) 11 (sB q_19)) 4 (sV x4)) 3 (sI x3)) 2 (sI x2)) 1 (sI x1)) 0 (sS x0a x0n x0c)) (wr (i_18 - x1)) (wr (x2 - i_18)) h_15 _) ?_ (Ru 18 (Ru 19 (Ru 0 (Ru 1 (Ru 2 (Ru 3 (Ru 4 (Ru 11 (Ru 16 (Ru 20 Rn)))))))))) (Sc rfl (Sc rfl (Sc rfl (Sc rfl (Sc rfl (Sc rfl (Sc rfl (Sc rfl (Sc rfl (Sc rfl Sn)))))))))) Sn
         refine AWP.cond (t := (decide (((wr (i_18 - x1)) : Int) < (wr (x2 - i_18))))) rfl (fun e => ?_) (fun e => ?_)
         ·replace h := ite2_t h e
          refine AWP.seq' ?_
          refine AWP.rgn (F166_r14 (upd (upd (upd (upd (upd (upd (upd E0 16 (sI i_18)) 11 (sB q_19)) 4 (sV x4)) 3 (sI x3)) 2 (sI x2)) 1 (sI x1)) 0 (sS x0a x0n x0c)) (wr (i_18 - x1)) (wr (Int.tdiv x12 8)) h_15 _) ?_ (Ru 18 (Ru 20 (Ru 0 (Ru 1 (Ru 2 (Ru 3 (Ru 4 (Ru 11 (Ru 16 Rn))))))))) (Sc rfl (Sc rfl (Sc rfl (Sc rfl (Sc rfl (Sc rfl (Sc rfl (Sc rfl (Sc rfl Sn))))))))) Sn
          refine AWP.seq' ?_
          refine AWP.rgn (F166_r15 (upd (upd (upd E0 11 (sB q_19)) 10 (sB ((decide (((wr (i_18 - x1)) : Int) ≥ (wr (Int.tdiv x12 8))))))) 2 (sI x2)) x0a x0n x0c x1 x3 x4 i_18 h_15 _) ?_ (Ru 0 (Ru 1 (Ru 3 (Ru 4 (Ru 16 (Ru 2 (Ru 10 (Ru 11 Rn)))))))) (Sc rfl (Sc rfl (Sc rfl (Sc rfl (Sc rfl (Sc rfl (Sc rfl (Sc rfl Sn)))))))) Sn
          refine mC h fun u_20 h_21 h => ?_
          refine AWP.rgn (F166_r16 (upd (upd (upd (upd (upd (upd E0 11 (sB q_19)) 10 (sB ((decide (((wr (i_18 - x1)) : Int) ≥ (wr (Int.tdiv x12 8))))))) 4 (sV x4)) 3 (sI x3)) 2 (sI x2)) 0 (sS x0a x0n x0c)) i_18 h_21 _) ?_ (Ru 16 (Ru 0 (Ru 2 (Ru 3 (Ru 4 (Ru 10 (Ru 11 Rn))))))) (Sc rfl (Sc rfl (Sc rfl (Sc rfl (Sc rfl (Sc rfl (Sc rfl Sn))))))) Sn
          exact ⟨((wr (i_18 + 1)), x2, x3, (decide (((wr (i_18 - x1)) : Int) ≥ (wr (Int.tdiv x12 8)))), q_19), (Sc rfl (Sc rfl (Sc rfl (Sc rfl (Sc rfl (Sc rfl (Sc rfl Sn))))))), Sn, h⟩
         ·replace h := ite2_f h e
          refine AWP.seq' ?_
          refine AWP.rgn (F166_r17 (upd (upd (upd (upd (upd (upd (upd E0 16 (sI i_18)) 11 (sB q_19)) 4 (sV x4)) 3 (sI x3)) 2 (sI x2)) 1 (sI x1)) 0 (sS x0a x0n x0c)) (wr (x2 - i_18)) (wr (Int.tdiv x12 8)) h_15 _) ?_ (Ru 19 (Ru 20 (Ru 0 (Ru 1 (Ru 2 (Ru 3 (Ru 4 (Ru 11 (Ru 16 Rn))))))))) (Sc rfl (Sc rfl (Sc rfl (Sc rfl (Sc rfl (Sc rfl (Sc rfl (Sc rfl (Sc rfl Sn))))))))) Sn
          refine AWP.seq' ?_
          refine AWP.rgn (F166_r18 (upd (upd (upd E0 11 (sB q_19)) 10 (sB ((decide (((wr (x2 - i_18)) : Int) ≥ (wr (Int.tdiv x12 8))))))) 1 (sI x1)) x0a x0n x0c x2 x3 x4 i_18 h_15 _) ?_ (Ru 0 (Ru 2 (Ru 3 (Ru 4 (Ru 16 (Ru 1 (Ru 10 (Ru 11 Rn)))))))) (Sc rfl (Sc rfl (Sc rfl (Sc rfl (Sc rfl (Sc rfl (Sc rfl (Sc rfl Sn)))))))) Sn
          refine mC h fun u_22 h_23 h => ?_
          refine AWP.rgn (F166_r19 (upd (upd (upd (upd (upd (upd E0 11 (sB q_19)) 10 (sB ((decide (((wr (x2 - i_18)) : Int) ≥ (wr (Int.tdiv x12 8))))))) 4 (sV x4)) 3 (sI x3)) 1 (sI x1)) 0 (sS x0a x0n x0c)) i_18 h_23 _) ?_ (Ru 16 (Ru 0 (Ru 1 (Ru 3 (Ru 4 (Ru 10 (Ru 11 Rn))))))) (Sc rfl (Sc rfl (Sc rfl (Sc rfl (Sc rfl (Sc rfl (Sc rfl Sn))))))) Sn
          exact ⟨(x1, i_18, x3, (decide (((wr (x2 - i_18)) : Int) ≥ (wr (Int.tdiv x12 8)))), q_19), (Sc rfl (Sc rfl (Sc rfl (Sc rfl (Sc rfl (Sc rfl (Sc rfl Sn))))))), Sn, h⟩
end
-- 137 slices.SortFunc[[]string,string]
section
variable (e : Env) (x0a : Option Addr) (x0n x0c : Nat) (x1 : Value) (x4 : Int) (hp : HP) (K : Env → PV → HP → Prop)
abbrev R137 (p : List Nat) (n : Nat) := RW Try.prog 14 [] (opsAt Try.f137 p) (List.range n)
theorem F137_r0 : R137 [0] 3 (upd e 0 (sS x0a x0n x0c)) V0 hp K =
    (K (upd (upd (upd (upd e 0 (sS x0a x0n x0c)) 5 (sS x0a x0n x0c)) 6 (sI ((x0n : Nat)))) 4 (sI ((x0n : Nat)))) V0 hp) := by kernel_rfl
theorem F137_r1 : R137 [1] 7 (upd (upd (upd e 4 (sI x4)) 1 (sV x1)) 0 (sS x0a x0n x0c)) V0 hp K =
    (CF Try.prog 129 [(.int .u64 (IntKind.wrap .u64 (x4)))] hp fun u1 h2 => (intV u1 .i64 fun i3 => (CF Try.prog 166 [(.slice x0a x0n x0c), .int .i64 0, (.int .i64 x4), (.int .i64 i3), x1] h2 fun u4 h5 => (K (upd (upd (upd (upd (upd (upd (upd (upd (upd (upd e 4 (sI x4)) 1 (sV x1)) 0 (sS x0a x0n x0c)) 7 (sS x0a x0n x0c)) 8 (sI x4)) 9 (sI x4)) 10 (sV (.int .u64 (IntKind.wrap .u64 (x4))))) 11 (sI i3)) 12 (sV x1)) 13 (sV u4)) V0 h5)))) := by kernel_rfl
def F137 (x0a : Option Addr) (x0n : Nat) (x0c : Nat) (x1 : Value) (hp : HP) (K : Value → HP → Prop) : Prop :=
  (CF Try.prog 129 [(.int .u64 (IntKind.wrap .u64 ((x0n : Nat))))] hp fun u_1 h_2 => (intV u_1 .i64 fun i_3 => (CF Try.prog 166 [(.slice x0a x0n x0c), .int .i64 0, (.int .i64 (x0n : Nat)), (.int .i64 i_3), x1] h_2 fun u_4 h_5 => (K (.tuple ⟨[]⟩) h_5))))
noncomputable def F137_code : Code := (.seq (.region 0 (opsAt Try.f137 [0]) false) (.region 1 (opsAt Try.f137 [1]) false))
theorem F137_body : Try.f137.body = some F137_code := by kernel_rfl
theorem F137_ok (x0a : Option Addr) (x0n : Nat) (x0c : Nat) (x1 : Value) (hp : HP) (K : Value → HP → Prop) (h : F137 x0a x0n x0c x1 hp K) : CF Try.prog 137 [(.slice x0a x0n x0c), x1] hp K := by
 refine .inl ⟨by kernel_rfl, AC.intro (N := 14) Try.func137 F137_body rfl (Nat.le_of_ble_eq_true rfl) ?_⟩
 unfold F137 at h
 unfold F137_code
 refine AWP.seq' ?_
 refine AWP.rgn (F137_r0 (upd E0 1 (sV x1)) x0a x0n x0c hp _) ?_ (Ru 0 (Ru 1 Rn)) (Sc rfl (Sc rfl Sn)) Sn
 refine AWP.rgn (F137_r1 E0 x0a x0n x0c x1 (x0n : Nat) hp _) ?_ (Ru 0 (Ru 1 (Ru 4 Rn))) (Sc rfl (Sc rfl (Sc rfl Sn))) Sn
 refine mC h fun u_1 h_2 h => mI h fun i_3 h => mC h fun u_4 h_5 h => ?_
 exact h
end
end Go.Proofs

set_option linter.unusedVariables false
set_option maxRecDepth 20000
namespace Go.Proofs
open Go Go.HL
-- 173 (*slices.xorshift).Next
section
variable (e : Env) (x0 : Option Addr) (hp : HP) (K : Env → PV → HP → Prop)
abbrev R173 (p : List Nat) (n : Nat) := RW Try.prog 33 [] (opsAt Try.f173 p) (List.range n)
theorem F173_r0 : R173 [0] 1 e V0 hp K =
    (K (upd e 2 (sV (.int .u64 0))) V0 hp) := by kernel_rfl
theorem F173_r1 : R173 [1, 0] 10 (upd e 0 (sP x0)) V0 hp K =
    (ptrN x0 fun b1 o2 => (ldV (HP.cell hp b1 o2) fun v3 => (intV v3 .u64 fun i4 => (ptrN x0 fun b5 o6 => (ldV (HP.cell hp b5 o6) fun v7 => (intV v7 .u64 fun i8 => ((0 ≤ (13 : Int)) ∧ (ptrN x0 fun b9 o10 => (HP.st hp b9 o10 (.int .u64 (bxor .u64 i4 (IntKind.wrap .u64 (i8 * 2 ^ (min (Int.toNat 13) (IntKind.bits .u64)))))) fun h11 => (K (upd (upd (upd (upd (upd (upd (upd (upd (upd (upd e 0 (sP x0)) 3 (sP x0)) 4 (sQ b1 o2)) 5 (sV (.int .u64 i4))) 6 (sP x0)) 7 (sQ b5 o6)) 8 (sV (.int .u64 i8))) 9 (sV (.int .u64 (IntKind.wrap .u64 (i8 * 2 ^ (min (Int.toNat 13) (IntKind.bits .u64))))))) 10 (sV (.int .u64 (bxor .u64 i4 (IntKind.wrap .u64 (i8 * 2 ^ (min (Int.toNat 13) (IntKind.bits .u64)))))))) 11 (sQ b9 o10)) V0 h11)))))))))) := by kernel_rfl
theorem F173_r2 : R173 [1, 1, 0] 10 (upd e 0 (sP x0)) V0 hp K =
    (ptrN x0 fun b1 o2 => (ldV (HP.cell hp b1 o2) fun v3 => (intV v3 .u64 fun i4 => (ptrN x0 fun b5 o6 => (ldV (HP.cell hp b5 o6) fun v7 => (intV v7 .u64 fun i8 => ((0 ≤ (7 : Int)) ∧ (ptrN x0 fun b9 o10 => (HP.st hp b9 o10 (.int .u64 (bxor .u64 i4 (Int.fdiv i8 (2 ^ (min (Int.toNat 7) (IntKind.bits .u64)))))) fun h11 => (K (upd (upd (upd (upd (upd (upd (upd (upd (upd (upd e 0 (sP x0)) 12 (sP x0)) 13 (sQ b1 o2)) 14 (sV (.int .u64 i4))) 15 (sP x0)) 16 (sQ b5 o6)) 17 (sV (.int .u64 i8))) 18 (sV (.int .u64 (Int.fdiv i8 (2 ^ (min (Int.toNat 7) (IntKind.bits .u64))))))) 19 (sV (.int .u64 (bxor .u64 i4 (Int.fdiv i8 (2 ^ (min (Int.toNat 7) (IntKind.bits .u64)))))))) 20 (sQ b9 o10)) V0 h11)))))))))) := by kernel_rfl
theorem F173_r3 : R173 [1, 1, 1, 0] 10 (upd e 0 (sP x0)) V0 hp K =
    (ptrN x0 fun b1 o2 => (ldV (HP.cell hp b1 o2) fun v3 => (intV v3 .u64 fun i4 => (ptrN x0 fun b5 o6 => (ldV (HP.cell hp b5 o6) fun v7 => (intV v7 .u64 fun i8 => ((0 ≤ (17 : Int)) ∧ (ptrN x0 fun b9 o10 => (HP.st hp b9 o10 (.int .u64 (bxor .u64 i4 (IntKind.wrap .u64 (i8 * 2 ^ (min (Int.toNat 17) (IntKind.bits .u64)))))) fun h11 => (K (upd (upd (upd (upd (upd (upd (upd (upd (upd (upd e 0 (sP x0)) 21 (sP x0)) 22 (sQ b1 o2)) 23 (sV (.int .u64 i4))) 24 (sP x0)) 25 (sQ b5 o6)) 26 (sV (.int .u64 i8))) 27 (sV (.int .u64 (IntKind.wrap .u64 (i8 * 2 ^ (min (Int.toNat 17) (IntKind.bits .u64))))))) 28 (sV (.int .u64 (bxor .u64 i4 (IntKind.wrap .u64 (i8 * 2 ^ (min (Int.toNat 17) (IntKind.bits .u64)))))))) 29 (sQ b9 o10)) V0 h11)))))))))) := by kernel_rfl
theorem F173_r4 : R173 [1, 1, 1, 1, 0] 4 (upd e 0 (sP x0)) V0 hp K =
    (ptrN x0 fun b1 o2 => (ldV (HP.cell hp b1 o2) fun v3 => (intV v3 .u64 fun i4 => (K (upd (upd (upd (upd (upd e 0 (sP x0)) 30 (sP x0)) 31 (sQ b1 o2)) 32 (sV (.int .u64 i4))) 2 (sV (.int .u64 i4))) V0 hp)))) := by kernel_rfl
def F173 (x0 : Option Addr) (hp : HP) (K : Value → HP → Prop) : Prop :=
  (ptrN x0 fun b_1 o_2 => (ldV (HP.cell hp b_1 o_2) fun v_3 => (intV v_3 .u64 fun i_4 => (ptrN x0 fun b_5 o_6 => (ldV (HP.cell hp b_5 o_6) fun v_7 => (intV v_7 .u64 fun i_8 => ((0 ≤ (13 : Int)) ∧ (ptrN x0 fun b_9 o_10 => (HP.st hp b_9 o_10 (.int .u64 (bxor .u64 i_4 (IntKind.wrap .u64 (i_8 * 2 ^ (min (Int.toNat 13) (IntKind.bits .u64)))))) fun h_11 => (ptrN x0 fun b_12 o_13 => (ldV (HP.cell h_11 b_12 o_13) fun v_14 => (intV v_14 .u64 fun i_15 => (ptrN x0 fun b_16 o_17 => (ldV (HP.cell h_11 b_16 o_17) fun v_18 => (intV v_18 .u64 fun i_19 => ((0 ≤ (7 : Int)) ∧ (ptrN x0 fun b_20 o_21 => (HP.st h_11 b_20 o_21 (.int .u64 (bxor .u64 i_15 (Int.fdiv i_19 (2 ^ (min (Int.toNat 7) (IntKind.bits .u64)))))) fun h_22 => (ptrN x0 fun b_23 o_24 => (ldV (HP.cell h_22 b_23 o_24) fun v_25 => (intV v_25 .u64 fun i_26 => (ptrN x0 fun b_27 o_28 => (ldV (HP.cell h_22 b_27 o_28) fun v_29 => (intV v_29 .u64 fun i_30 => ((0 ≤ (17 : Int)) ∧ (ptrN x0 fun b_31 o_32 => (HP.st h_22 b_31 o_32 (.int .u64 (bxor .u64 i_26 (IntKind.wrap .u64 (i_30 * 2 ^ (min (Int.toNat 17) (IntKind.bits .u64)))))) fun h_33 => (ptrN x0 fun b_34 o_35 => (ldV (HP.cell h_33 b_34 o_35) fun v_36 => (intV v_36 .u64 fun i_37 => (K (.int .u64 i_37) h_33)))))))))))))))))))))))))))))))
noncomputable def F173_code : Code := (.seq (.region 0 (opsAt Try.f173 [0]) false) (.seq (.region 1 (opsAt Try.f173 [1, 0]) true) (.seq (.region 2 (opsAt Try.f173 [1, 1, 0]) true) (.seq (.region 3 (opsAt Try.f173 [1, 1, 1, 0]) true) (.seq (.region 4 (opsAt Try.f173 [1, 1, 1, 1, 0]) false) .ret)))))
theorem F173_body : Try.f173.body = some F173_code := by kernel_rfl
theorem F173_ok (x0 : Option Addr) (hp : HP) (K : Value → HP → Prop) (h : F173 x0 hp K) : CF Try.prog 173 [(.pointer x0)] hp K := by
 refine .inl ⟨by kernel_rfl, AC.intro (N := 33) Try.func173 F173_body rfl (Nat.le_of_ble_eq_true rfl) ?_⟩
 unfold F173 at h
 unfold F173_code
 refine AWP.seq' ?_
 refine AWP.rgn (F173_r0 (upd E0 0 (sP x0))  hp _) ?_ (Ru 0 Rn) (Sc rfl Sn) Sn
 refine AWP.seq' ?_
 refine AWP.rgnD (by kernel_rfl) (by kernel_rfl) (F173_r1 E0 x0 hp _) ?_ (Ru 0 Rn) (Sc rfl Sn) Sn
 refine mN h (fun b_1 o_2 h => mV h (fun v_3 h => mI h (fun i_4 h => mN h (fun b_5 o_6 h => mV h (fun v_7 h => mI h (fun i_8 h => ⟨h.1, mN h.2 fun b_9 o_10 h => mw h fun h_11 h => ?_⟩))))))
 refine AWP.seq' ?_
 refine AWP.rgnD (by kernel_rfl) (by kernel_rfl) (F173_r2 E0 x0 h_11 _) ?_ (Ru 0 Rn) (Sc rfl Sn) Sn
 refine mN h (fun b_12 o_13 h => mV h (fun v_14 h => mI h (fun i_15 h => mN h (fun b_16 o_17 h => mV h (fun v_18 h => mI h (fun i_19 h => ⟨h.1, mN h.2 fun b_20 o_21 h => mw h fun h_22 h => ?_⟩))))))
 refine AWP.seq' ?_
 refine AWP.rgnD (by kernel_rfl) (by kernel_rfl) (F173_r3 E0 x0 h_22 _) ?_ (Ru 0 Rn) (Sc rfl Sn) Sn
 refine mN h (fun b_23 o_24 h => mV h (fun v_25 h => mI h (fun i_26 h => mN h (fun b_27 o_28 h => mV h (fun v_29 h => mI h (fun i_30 h => ⟨h.1, mN h.2 fun b_31 o_32 h => mw h fun h_33 h => ?_⟩))))))
 refine AWP.seq' ?_
 refine AWP.rgn (F173_r4 E0 x0 h_33 _) ?_ (Ru 0 Rn) (Sc rfl Sn) Sn
 refine mN h fun b_34 o_35 h => mV h fun v_36 h => mI h fun i_37 h => ?_
 refine AWP.ret ?_
 exact h
end
-- 172 slices.nextPowerOfTwo
section
variable (e : Env) (x0 : Int) (hp : HP) (K : Env → PV → HP → Prop)
abbrev R172 (p : List Nat) (n : Nat) := RW Try.prog 7 [] (opsAt Try.f172 p) (List.range n)
theorem F172_r0 : R172 [0] 1 e V0 hp K =
    (K (upd e 2 (sV (.int .u64 0))) V0 hp) := by kernel_rfl
theorem F172_r1 : R172 [1, 0] 5 (upd e 0 (sI x0)) V0 hp K =
    (CF Try.prog 129 [(.int .u64 (IntKind.wrap .u64 (x0)))] hp fun u1 h2 => (intV u1 .i64 fun i3 => ((0 ≤ i3) ∧ (K (upd (upd (upd (upd (upd (upd e 0 (sI x0)) 3 (sI x0)) 4 (sV (.int .u64 (IntKind.wrap .u64 (x0))))) 5 (sI i3)) 6 (sV (.int .u64 (IntKind.wrap .u64 (1 * 2 ^ (min (Int.toNat i3) (IntKind.bits .u64))))))) 2 (sV (.int .u64 (IntKind.wrap .u64 (1 * 2 ^ (min (Int.toNat i3) (IntKind.bits .u64))))))) V0 h2)))) := by kernel_rfl
def F172 (x0 : Int) (hp : HP) (K : Value → HP → Prop) : Prop :=
  (CF Try.prog 129 [(.int .u64 (IntKind.wrap .u64 (x0)))] hp fun u_1 h_2 => (intV u_1 .i64 fun i_3 => ((0 ≤ i_3) ∧ (K (.int .u64 (IntKind.wrap .u64 (1 * 2 ^ (min (Int.toNat i_3) (IntKind.bits .u64))))) h_2))))
noncomputable def F172_code : Code := (.seq (.region 0 (opsAt Try.f172 [0]) false) (.seq (.region 1 (opsAt Try.f172 [1, 0]) false) .ret))
theorem F172_body : Try.f172.body = some F172_code := by kernel_rfl
theorem F172_ok (x0 : Int) (hp : HP) (K : Value → HP → Prop) (h : F172 x0 hp K) : CF Try.prog 172 [(.int .i64 x0)] hp K := by
 refine .inl ⟨by kernel_rfl, AC.intro (N := 7) Try.func172 F172_body rfl (Nat.le_of_ble_eq_true rfl) ?_⟩
 unfold F172 at h
 unfold F172_code
 refine AWP.seq' ?_
 refine AWP.rgn (F172_r0 (upd E0 0 (sI x0))  hp _) ?_ (Ru 0 Rn) (Sc rfl Sn) Sn
 refine AWP.seq' ?_
 refine AWP.rgn (F172_r1 E0 x0 hp _) ?_ (Ru 0 Rn) (Sc rfl Sn) Sn
 refine mC h (fun u_1 h_2 h => mI h (fun i_3 h => ⟨h.1, ?_⟩))
 replace h := h.2
 refine AWP.ret ?_
 exact h
end
-- 129 math/bits.Len
section
variable (e : Env) (x0 : Int) (hp : HP) (K : Env → PV → HP → Prop)
abbrev R129 (p : List Nat) (n : Nat) := RW Try.prog 8 [] (opsAt Try.f129 p) (List.range n)
theorem F129_r0 : R129 [0] 1 e V0 hp K =
    (K (upd e 2 (sI 0)) V0 hp) := by kernel_rfl
theorem F129_r1 : R129 [1, 1, 0] 3 (upd e 0 (sV (.int .u64 x0))) V0 hp K =
    (CF Try.prog 155 [(.int .u64 x0)] hp fun u1 h2 => (intV u1 .i64 fun i3 => (K (upd (upd (upd (upd e 0 (sV (.int .u64 x0))) 6 (sV (.int .u64 x0))) 7 (sI i3)) 2 (sI i3)) V0 h2))) := by kernel_rfl
def F129 (x0 : Int) (hp : HP) (K : Value → HP → Prop) : Prop :=
  (CF Try.prog 155 [(.int .u64 x0)] hp fun u_1 h_2 => (intV u_1 .i64 fun i_3 => (K (.int .i64 i_3) h_2)))
noncomputable def F129_code : Code := (.seq (.region 0 (opsAt Try.f129 [0]) false) (.seq (.cond (.const (.bool false)) (.seq (.region 1 (opsAt Try.f129 [1, 0, 0, 0]) false) .ret) .skip) (.seq (.region 2 (opsAt Try.f129 [1, 1, 0]) false) .ret)))
theorem F129_body : Try.f129.body = some F129_code := by kernel_rfl
theorem F129_ok (x0 : Int) (hp : HP) (K : Value → HP → Prop) (h : F129 x0 hp K) : CF Try.prog 129 [(.int .u64 x0)] hp K := by
 refine .inl ⟨by kernel_rfl, AC.intro (N := 8) Try.func129 F129_body rfl (Nat.le_of_ble_eq_true rfl) ?_⟩
 unfold F129 at h
 unfold F129_code
 refine AWP.seq' ?_
 refine AWP.rgn (F129_r0 (upd E0 0 (sV (.int .u64 x0)))  hp _) ?_ (Ru 0 Rn) (Sc rfl Sn) Sn
 refine AWP.seq' ?_
 refine AWP.condK ?_
 refine AWP.skip ?_
 refine AWP.seq' ?_
 refine AWP.rgn (F129_r1 E0 x0 hp _) ?_ (Ru 0 Rn) (Sc rfl Sn) Sn
 refine mC h fun u_1 h_2 h => mI h fun i_3 h => ?_
 refine AWP.ret ?_
 exact h
end
-- 155 math/bits.Len64
section
variable (e : Env) (x0 x2 : Int) (hp : HP) (K : Env → PV → HP → Prop)
abbrev R155 (p : List Nat) (n : Nat) := RW Try.prog 25 [] (opsAt Try.f155 p) (List.range n)
theorem F155_r0 : R155 [0] 1 e V0 hp K =
    (K (upd e 2 (sI 0)) V0 hp) := by kernel_rfl
theorem F155_r1 : R155 [1, 1, 1, 1, 0] 7 (upd (upd e 2 (sI x2)) 0 (sV (.int .u64 x0))) V0 hp K =
    ((0 ≤ ((IntKind.wrap .u8 (x0)) : Int)) ∧ (((IntKind.wrap .u8 (x0)) : Int) < (ByteArray.size (⟨#[0, 1, 2, 2, 3, 3, 3, 3, 4, 4, 4, 4, 4, 4, 4, 4, 5, 5, 5, 5, 5, 5, 5, 5, 5, 5, 5, 5, 5, 5, 5, 5, 6, 6, 6, 6, 6, 6, 6, 6, 6, 6, 6, 6, 6, 6, 6, 6, 6, 6, 6, 6, 6, 6, 6, 6, 6, 6, 6, 6, 6, 6, 6, 6, 7, 7, 7, 7, 7, 7, 7, 7, 7, 7, 7, 7, 7, 7, 7, 7, 7, 7, 7, 7, 7, 7, 7, 7, 7, 7, 7, 7, 7, 7, 7, 7, 7, 7, 7, 7, 7, 7, 7, 7, 7, 7, 7, 7, 7, 7, 7, 7, 7, 7, 7, 7, 7, 7, 7, 7, 7, 7, 7, 7, 7, 7, 7, 7, 8, 8, 8, 8, 8, 8, 8, 8, 8, 8, 8, 8, 8, 8, 8, 8, 8, 8, 8, 8, 8, 8, 8, 8, 8, 8, 8, 8, 8, 8, 8, 8, 8, 8, 8, 8, 8, 8, 8, 8, 8, 8, 8, 8, 8, 8, 8, 8, 8, 8, 8, 8, 8, 8, 8, 8, 8, 8, 8, 8, 8, 8, 8, 8, 8, 8, 8, 8, 8, 8, 8, 8, 8, 8, 8, 8, 8, 8, 8, 8, 8, 8, 8, 8, 8, 8, 8, 8, 8, 8, 8, 8, 8, 8, 8, 8, 8, 8, 8, 8, 8, 8, 8, 8, 8, 8, 8, 8, 8, 8, 8, 8, 8, 8, 8, 8, 8, 8, 8, 8, 8, 8, 8, 8, 8, 8, 8, 8]⟩ : ByteArray) : Nat)) ∧ (K (upd (upd (upd (upd (upd (upd (upd (upd (upd e 2 (sI x2)) 0 (sV (.int .u64 x0))) 19 (sI x2)) 20 (sV (.int .u64 x0))) 21 (sV (.int .u8 (IntKind.wrap .u8 (x0))))) 22 (sV (.int .u8 (bt (⟨#[0, 1, 2, 2, 3, 3, 3, 3, 4, 4, 4, 4, 4, 4, 4, 4, 5, 5, 5, 5, 5, 5, 5, 5, 5, 5, 5, 5, 5, 5, 5, 5, 6, 6, 6, 6, 6, 6, 6, 6, 6, 6, 6, 6, 6, 6, 6, 6, 6, 6, 6, 6, 6, 6, 6, 6, 6, 6, 6, 6, 6, 6, 6, 6, 7, 7, 7, 7, 7, 7, 7, 7, 7, 7, 7, 7, 7, 7, 7, 7, 7, 7, 7, 7, 7, 7, 7, 7, 7, 7, 7, 7, 7, 7, 7, 7, 7, 7, 7, 7, 7, 7, 7, 7, 7, 7, 7, 7, 7, 7, 7, 7, 7, 7, 7, 7, 7, 7, 7, 7, 7, 7, 7, 7, 7, 7, 7, 7, 8, 8, 8, 8, 8, 8, 8, 8, 8, 8, 8, 8, 8, 8, 8, 8, 8, 8, 8, 8, 8, 8, 8, 8, 8, 8, 8, 8, 8, 8, 8, 8, 8, 8, 8, 8, 8, 8, 8, 8, 8, 8, 8, 8, 8, 8, 8, 8, 8, 8, 8, 8, 8, 8, 8, 8, 8, 8, 8, 8, 8, 8, 8, 8, 8, 8, 8, 8, 8, 8, 8, 8, 8, 8, 8, 8, 8, 8, 8, 8, 8, 8, 8, 8, 8, 8, 8, 8, 8, 8, 8, 8, 8, 8, 8, 8, 8, 8, 8, 8, 8, 8, 8, 8, 8, 8, 8, 8, 8, 8, 8, 8, 8, 8, 8, 8, 8, 8, 8, 8, 8, 8, 8, 8, 8, 8, 8, 8]⟩ : ByteArray) (IntKind.wrap .u8 (x0)))))) 23 (sI ((wr ((bt (⟨#[0, 1, 2, 2, 3, 3, 3, 3, 4, 4, 4, 4, 4, 4, 4, 4, 5, 5, 5, 5, 5, 5, 5, 5, 5, 5, 5, 5, 5, 5, 5, 5, 6, 6, 6, 6, 6, 6, 6, 6, 6, 6, 6, 6, 6, 6, 6, 6, 6, 6, 6, 6, 6, 6, 6, 6, 6, 6, 6, 6, 6, 6, 6, 6, 7, 7, 7, 7, 7, 7, 7, 7, 7, 7, 7, 7, 7, 7, 7, 7, 7, 7, 7, 7, 7, 7, 7, 7, 7, 7, 7, 7, 7, 7, 7, 7, 7, 7, 7, 7, 7, 7, 7, 7, 7, 7, 7, 7, 7, 7, 7, 7, 7, 7, 7, 7, 7, 7, 7, 7, 7, 7, 7, 7, 7, 7, 7, 7, 8, 8, 8, 8, 8, 8, 8, 8, 8, 8, 8, 8, 8, 8, 8, 8, 8, 8, 8, 8, 8, 8, 8, 8, 8, 8, 8, 8, 8, 8, 8, 8, 8, 8, 8, 8, 8, 8, 8, 8, 8, 8, 8, 8, 8, 8, 8, 8, 8, 8, 8, 8, 8, 8, 8, 8, 8, 8, 8, 8, 8, 8, 8, 8, 8, 8, 8, 8, 8, 8, 8, 8, 8, 8, 8, 8, 8, 8, 8, 8, 8, 8, 8, 8, 8, 8, 8, 8, 8, 8, 8, 8, 8, 8, 8, 8, 8, 8, 8, 8, 8, 8, 8, 8, 8, 8, 8, 8, 8, 8, 8, 8, 8, 8, 8, 8, 8, 8, 8, 8, 8, 8, 8, 8, 8, 8, 8, 8]⟩ : ByteArray) (IntKind.wrap .u8 (x0)))))))) 24 (sI ((wr (x2 + (wr ((bt (⟨#[0, 1, 2, 2, 3, 3, 3, 3, 4, 4, 4, 4, 4, 4, 4, 4, 5, 5, 5, 5, 5, 5, 5, 5, 5, 5, 5, 5, 5, 5, 5, 5, 6, 6, 6, 6, 6, 6, 6, 6, 6, 6, 6, 6, 6, 6, 6, 6, 6, 6, 6, 6, 6, 6, 6, 6, 6, 6, 6, 6, 6, 6, 6, 6, 7, 7, 7, 7, 7, 7, 7, 7, 7, 7, 7, 7, 7, 7, 7, 7, 7, 7, 7, 7, 7, 7, 7, 7, 7, 7, 7, 7, 7, 7, 7, 7, 7, 7, 7, 7, 7, 7, 7, 7, 7, 7, 7, 7, 7, 7, 7, 7, 7, 7, 7, 7, 7, 7, 7, 7, 7, 7, 7, 7, 7, 7, 7, 7, 8, 8, 8, 8, 8, 8, 8, 8, 8, 8, 8, 8, 8, 8, 8, 8, 8, 8, 8, 8, 8, 8, 8, 8, 8, 8, 8, 8, 8, 8, 8, 8, 8, 8, 8, 8, 8, 8, 8, 8, 8, 8, 8, 8, 8, 8, 8, 8, 8, 8, 8, 8, 8, 8, 8, 8, 8, 8, 8, 8, 8, 8, 8, 8, 8, 8, 8, 8, 8, 8, 8, 8, 8, 8, 8, 8, 8, 8, 8, 8, 8, 8, 8, 8, 8, 8, 8, 8, 8, 8, 8, 8, 8, 8, 8, 8, 8, 8, 8, 8, 8, 8, 8, 8, 8, 8, 8, 8, 8, 8, 8, 8, 8, 8, 8, 8, 8, 8, 8, 8, 8, 8, 8, 8, 8, 8, 8, 8]⟩ : ByteArray) (IntKind.wrap .u8 (x0)))))))))) 2 (sI ((wr (x2 + (wr ((bt (⟨#[0, 1, 2, 2, 3, 3, 3, 3, 4, 4, 4, 4, 4, 4, 4, 4, 5, 5, 5, 5, 5, 5, 5, 5, 5, 5, 5, 5, 5, 5, 5, 5, 6, 6, 6, 6, 6, 6, 6, 6, 6, 6, 6, 6, 6, 6, 6, 6, 6, 6, 6, 6, 6, 6, 6, 6, 6, 6, 6, 6, 6, 6, 6, 6, 7, 7, 7, 7, 7, 7, 7, 7, 7, 7, 7, 7, 7, 7, 7, 7, 7, 7, 7, 7, 7, 7, 7, 7, 7, 7, 7, 7, 7, 7, 7, 7, 7, 7, 7, 7, 7, 7, 7, 7, 7, 7, 7, 7, 7, 7, 7, 7, 7, 7, 7, 7, 7, 7, 7, 7, 7, 7, 7, 7, 7, 7, 7, 7, 8, 8, 8, 8, 8, 8, 8, 8, 8, 8, 8, 8, 8, 8, 8, 8, 8, 8, 8, 8, 8, 8, 8, 8, 8, 8, 8, 8, 8, 8, 8, 8, 8, 8, 8, 8, 8, 8, 8, 8, 8, 8, 8, 8, 8, 8, 8, 8, 8, 8, 8, 8, 8, 8, 8, 8, 8, 8, 8, 8, 8, 8, 8, 8, 8, 8, 8, 8, 8, 8, 8, 8, 8, 8, 8, 8, 8, 8, 8, 8, 8, 8, 8, 8, 8, 8, 8, 8, 8, 8, 8, 8, 8, 8, 8, 8, 8, 8, 8, 8, 8, 8, 8, 8, 8, 8, 8, 8, 8, 8, 8, 8, 8, 8, 8, 8, 8, 8, 8, 8, 8, 8, 8, 8, 8, 8, 8, 8]⟩ : ByteArray) (IntKind.wrap .u8 (x0)))))))))) V0 hp)) := by kernel_rfl
def F155_j3 (x0 : Int) (x2 : Int) (hp : HP) (K : Value → HP → Prop) : Prop :=
  ((0 ≤ ((IntKind.wrap .u8 (x0)) : Int)) ∧ (((IntKind.wrap .u8 (x0)) : Int) < (ByteArray.size (⟨#[0, 1, 2, 2, 3, 3, 3, 3, 4, 4, 4, 4, 4, 4, 4, 4, 5, 5, 5, 5, 5, 5, 5, 5, 5, 5, 5, 5, 5, 5, 5, 5, 6, 6, 6, 6, 6, 6, 6, 6, 6, 6, 6, 6, 6, 6, 6, 6, 6, 6, 6, 6, 6, 6, 6, 6, 6, 6, 6, 6, 6, 6, 6, 6, 7, 7, 7, 7, 7, 7, 7, 7, 7, 7, 7, 7, 7, 7, 7, 7, 7, 7, 7, 7, 7, 7, 7, 7, 7, 7, 7, 7, 7, 7, 7, 7, 7, 7, 7, 7, 7, 7, 7, 7, 7, 7, 7, 7, 7, 7, 7, 7, 7, 7, 7, 7, 7, 7, 7, 7, 7, 7, 7, 7, 7, 7, 7, 7, 8, 8, 8, 8, 8, 8, 8, 8, 8, 8, 8, 8, 8, 8, 8, 8, 8, 8, 8, 8, 8, 8, 8, 8, 8, 8, 8, 8, 8, 8, 8, 8, 8, 8, 8, 8, 8, 8, 8, 8, 8, 8, 8, 8, 8, 8, 8, 8, 8, 8, 8, 8, 8, 8, 8, 8, 8, 8, 8, 8, 8, 8, 8, 8, 8, 8, 8, 8, 8, 8, 8, 8, 8, 8, 8, 8, 8, 8, 8, 8, 8, 8, 8, 8, 8, 8, 8, 8, 8, 8, 8, 8, 8, 8, 8, 8, 8, 8, 8, 8, 8, 8, 8, 8, 8, 8, 8, 8, 8, 8, 8, 8, 8, 8, 8, 8, 8, 8, 8, 8, 8, 8, 8, 8, 8, 8, 8, 8]⟩ : ByteArray) : Nat)) ∧ (K (.int .i64 (IntKind.wrap .i64 (x2 + (IntKind.wrap .i64 ((bt (⟨#[0, 1, 2, 2, 3, 3, 3, 3, 4, 4, 4, 4, 4, 4, 4, 4, 5, 5, 5, 5, 5, 5, 5, 5, 5, 5, 5, 5, 5, 5, 5, 5, 6, 6, 6, 6, 6, 6, 6, 6, 6, 6, 6, 6, 6, 6, 6, 6, 6, 6, 6, 6, 6, 6, 6, 6, 6, 6, 6, 6, 6, 6, 6, 6, 7, 7, 7, 7, 7, 7, 7, 7, 7, 7, 7, 7, 7, 7, 7, 7, 7, 7, 7, 7, 7, 7, 7, 7, 7, 7, 7, 7, 7, 7, 7, 7, 7, 7, 7, 7, 7, 7, 7, 7, 7, 7, 7, 7, 7, 7, 7, 7, 7, 7, 7, 7, 7, 7, 7, 7, 7, 7, 7, 7, 7, 7, 7, 7, 8, 8, 8, 8, 8, 8, 8, 8, 8, 8, 8, 8, 8, 8, 8, 8, 8, 8, 8, 8, 8, 8, 8, 8, 8, 8, 8, 8, 8, 8, 8, 8, 8, 8, 8, 8, 8, 8, 8, 8, 8, 8, 8, 8, 8, 8, 8, 8, 8, 8, 8, 8, 8, 8, 8, 8, 8, 8, 8, 8, 8, 8, 8, 8, 8, 8, 8, 8, 8, 8, 8, 8, 8, 8, 8, 8, 8, 8, 8, 8, 8, 8, 8, 8, 8, 8, 8, 8, 8, 8, 8, 8, 8, 8, 8, 8, 8, 8, 8, 8, 8, 8, 8, 8, 8, 8, 8, 8, 8, 8, 8, 8, 8, 8, 8, 8, 8, 8, 8, 8, 8, 8, 8, 8, 8, 8, 8, 8]⟩ : ByteArray) (IntKind.wrap .u8 (x0)))))))) hp))
theorem F155_r2 : R155 [1, 1, 1, 0, 0] 2 (upd e 0 (sV (.int .u64 x0))) V0 hp K =
    (K (upd (upd (upd e 0 (sV (.int .u64 x0))) 13 (sV (.int .u64 x0))) 14 (sB (decide (x0 ≥ 256)))) V0 hp) := by kernel_rfl
theorem F155_r3 : R155 [1, 1, 1, 0, 1, 0, 0] 3 (upd e 0 (sV (.int .u64 x0))) V0 hp K =
    ((0 ≤ (8 : Int)) ∧ (K (upd (upd (upd (upd e 0 (sV (.int .u64 x0))) 15 (sV (.int .u64 x0))) 16 (sV (.int .u64 (Int.fdiv x0 (2 ^ (min (Int.toNat 8) (IntKind.bits .u64))))))) 0 (sV (.int .u64 (Int.fdiv x0 (2 ^ (min (Int.toNat 8) (IntKind.bits .u64))))))) V0 hp)) := by kernel_rfl
theorem F155_r4 : R155 [1, 1, 1, 0, 1, 0, 1] 3 (upd e 2 (sI x2)) V0 hp K =
    (K (upd (upd (upd (upd e 2 (sI x2)) 17 (sI x2)) 18 (sI ((wr (x2 + 8))))) 2 (sI ((wr (x2 + 8))))) V0 hp) := by kernel_rfl
def F155_j2 (x0 : Int) (x2 : Int) (hp : HP) (K : Value → HP → Prop) : Prop :=
  (ite2 (decide (x0 ≥ 256)) ((0 ≤ (8 : Int)) ∧ (F155_j3 (Int.fdiv x0 (2 ^ (min (Int.toNat 8) (IntKind.bits .u64)))) (IntKind.wrap .i64 (x2 + 8)) hp  K)) (F155_j3 x0 x2 hp  K))
theorem F155_r5 : R155 [1, 1, 0, 0] 2 (upd e 0 (sV (.int .u64 x0))) V0 hp K =
    (K (upd (upd (upd e 0 (sV (.int .u64 x0))) 7 (sV (.int .u64 x0))) 8 (sB (decide (x0 ≥ 65536)))) V0 hp) := by kernel_rfl
theorem F155_r6 : R155 [1, 1, 0, 1, 0, 0] 3 (upd e 0 (sV (.int .u64 x0))) V0 hp K =
    ((0 ≤ (16 : Int)) ∧ (K (upd (upd (upd (upd e 0 (sV (.int .u64 x0))) 9 (sV (.int .u64 x0))) 10 (sV (.int .u64 (Int.fdiv x0 (2 ^ (min (Int.toNat 16) (IntKind.bits .u64))))))) 0 (sV (.int .u64 (Int.fdiv x0 (2 ^ (min (Int.toNat 16) (IntKind.bits .u64))))))) V0 hp)) := by kernel_rfl
theorem F155_r7 : R155 [1, 1, 0, 1, 0, 1] 3 (upd e 2 (sI x2)) V0 hp K =
    (K (upd (upd (upd (upd e 2 (sI x2)) 11 (sI x2)) 12 (sI ((wr (x2 + 16))))) 2 (sI ((wr (x2 + 16))))) V0 hp) := by kernel_rfl
def F155_j1 (x0 : Int) (x2 : Int) (hp : HP) (K : Value → HP → Prop) : Prop :=
  (ite2 (decide (x0 ≥ 65536)) ((0 ≤ (16 : Int)) ∧ (F155_j2 (Int.fdiv x0 (2 ^ (min (Int.toNat 16) (IntKind.bits .u64)))) (IntKind.wrap .i64 (x2 + 16)) hp  K)) (F155_j2 x0 x2 hp  K))
theorem F155_r8 : R155 [1, 0, 0] 2 (upd e 0 (sV (.int .u64 x0))) V0 hp K =
    (K (upd (upd (upd e 0 (sV (.int .u64 x0))) 3 (sV (.int .u64 x0))) 4 (sB (decide (x0 ≥ 4294967296)))) V0 hp) := by kernel_rfl
theorem F155_r9 : R155 [1, 0, 1, 0, 0] 3 (upd e 0 (sV (.int .u64 x0))) V0 hp K =
    ((0 ≤ (32 : Int)) ∧ (K (upd (upd (upd (upd e 0 (sV (.int .u64 x0))) 5 (sV (.int .u64 x0))) 6 (sV (.int .u64 (Int.fdiv x0 (2 ^ (min (Int.toNat 32) (IntKind.bits .u64))))))) 0 (sV (.int .u64 (Int.fdiv x0 (2 ^ (min (Int.toNat 32) (IntKind.bits .u64))))))) V0 hp)) := by kernel_rfl
theorem F155_r10 : R155 [1, 0, 1, 0, 1] 1 e V0 hp K =
    (K (upd e 2 (sI 32)) V0 hp) := by kernel_rfl
def F155 (x0 : Int) (hp : HP) (K : Value → HP → Prop) : Prop :=
  (ite2 (decide (x0 ≥ 4294967296)) ((0 ≤ (32 : Int)) ∧ (F155_j1 (Int.fdiv x0 (2 ^ (min (Int.toNat 32) (IntKind.bits .u64)))) 32 hp  K)) (F155_j1 x0 0 hp  K))
noncomputable def F155_code : Code := (.seq (.region 0 (opsAt Try.f155 [0]) false) (.seq (.seq (.region 1 (opsAt Try.f155 [1, 0, 0]) false) (.cond (.tmp 4) (.seq (.region 2 (opsAt Try.f155 [1, 0, 1, 0, 0]) false) (.region 3 (opsAt Try.f155 [1, 0, 1, 0, 1]) false)) .skip)) (.seq (.seq (.region 4 (opsAt Try.f155 [1, 1, 0, 0]) false) (.cond (.tmp 8) (.seq (.region 5 (opsAt Try.f155 [1, 1, 0, 1, 0, 0]) false) (.region 6 (opsAt Try.f155 [1, 1, 0, 1, 0, 1]) false)) .skip)) (.seq (.seq (.region 7 (opsAt Try.f155 [1, 1, 1, 0, 0]) false) (.cond (.tmp 14) (.seq (.region 8 (opsAt Try.f155 [1, 1, 1, 0, 1, 0, 0]) false) (.region 9 (opsAt Try.f155 [1, 1, 1, 0, 1, 0, 1]) false)) .skip)) (.seq (.region 10 (opsAt Try.f155 [1, 1, 1, 1, 0]) false) .ret)))))
theorem F155_body : Try.f155.body = some F155_code := by kernel_rfl
theorem F155_ok (x0 : Int) (hp : HP) (K : Value → HP → Prop) (h : F155 x0 hp K) : CF Try.prog 155 [(.int .u64 x0)] hp K := by
 refine .inl ⟨by kernel_rfl, AC.intro (N := 25) Try.func155 F155_body rfl (Nat.le_of_ble_eq_true rfl) ?_⟩
 unfold F155 at h
 unfold F155_code
 refine AWP.seq' ?_
 refine AWP.rgn (F155_r0 (upd E0 0 (sV (.int .u64 x0)))  hp _) ?_ (Ru 0 Rn) (Sc rfl Sn) Sn
 refine AWP.seq (fun env pv hp => ∃ (x0 : Int) (x2 : Int), Sub (upd (upd E0 2 (sI x2)) 0 (sV (.int .u64 x0))) env ∧ Sub V0 pv ∧ (F155_j1 x0 x2 hp  K)) ?_ ?_
 ·refine AWP.seq' ?_
  refine AWP.rgn (F155_r8 (upd E0 2 (sI 0)) x0 hp _) ?_ (Ru 0 (Ru 2 Rn)) (Sc rfl (Sc rfl Sn)) Sn
  refine AWP.cond (t := (decide (x0 ≥ 4294967296))) rfl (fun e => ?_) (fun e => ?_)
  ·replace h := ite2_t h e
   refine AWP.seq' ?_
   refine AWP.rgn (F155_r9 E0 x0 hp _) ?_ (Ru 0 Rn) (Sc rfl Sn) Sn
   refine ⟨h.1, ?_⟩
   replace h := h.2
   refine AWP.rgn (F155_r10 (upd E0 0 (sV (.int .u64 (Int.fdiv x0 (2 ^ (min (Int.toNat 32) (IntKind.bits .u64)))))))  hp _) ?_ (Ru 0 Rn) (Sc rfl Sn) Sn
   exact ⟨(Int.fdiv x0 (2 ^ (min (Int.toNat 32) (IntKind.bits .u64)))), 32, (Sc rfl (Sc rfl Sn)), Sn, h⟩
  ·replace h := ite2_f h e
   refine AWP.skip ?_
   exact ⟨x0, 0, (Sc rfl (Sc rfl Sn)), Sn, h⟩
 ·rintro env pv hp ⟨x0, x2, he, hv, h⟩
  refine AWP.sub (env' := (upd (upd E0 2 (sI x2)) 0 (sV (.int .u64 x0)))) (pv' := V0) ?_ (Ru 0 (Ru 2 Rn)) he hv (HSub.refl _)
  clear he hv
  unfold F155_j1 at h
  refine AWP.seq (fun env pv hp => ∃ (x0 : Int) (x2 : Int), Sub (upd (upd E0 2 (sI x2)) 0 (sV (.int .u64 x0))) env ∧ Sub V0 pv ∧ (F155_j2 x0 x2 hp  K)) ?_ ?_
  ·refine AWP.seq' ?_
   refine AWP.rgn (F155_r5 (upd E0 2 (sI x2)) x0 hp _) ?_ (Ru 0 (Ru 2 Rn)) (Sc rfl (Sc rfl Sn)) Sn
   refine AWP.cond (t := (decide (x0 ≥ 65536))) rfl (fun e => ?_) (fun e => ?_)
   ·replace h := ite2_t h e
    refine AWP.seq' ?_
    refine AWP.rgn (F155_r6 (upd E0 2 (sI x2)) x0 hp _) ?_ (Ru 0 (Ru 2 Rn)) (Sc rfl (Sc rfl Sn)) Sn
    refine ⟨h.1, ?_⟩
    replace h := h.2
    refine AWP.rgn (F155_r7 (upd E0 0 (sV (.int .u64 (Int.fdiv x0 (2 ^ (min (Int.toNat 16) (IntKind.bits .u64))))))) x2 hp _) ?_ (Ru 2 (Ru 0 Rn)) (Sc rfl (Sc rfl Sn)) Sn
    exact ⟨(Int.fdiv x0 (2 ^ (min (Int.toNat 16) (IntKind.bits .u64)))), (wr (x2 + 16)), (Sc rfl (Sc rfl Sn)), Sn, h⟩
   ·replace h := ite2_f h e
    refine AWP.skip ?_
    exact ⟨x0, x2, (Sc rfl (Sc rfl Sn)), Sn, h⟩
  ·rintro env pv hp ⟨x0, x2, he, hv, h⟩
   refine AWP.sub (env' := (upd (upd E0 2 (sI x2)) 0 (sV (.int .u64 x0)))) (pv' := V0) ?_ (Ru 0 (Ru 2 Rn)) he hv (HSub.refl _)
   clear he hv
   unfold F155_j2 at h
   refine AWP.seq (fun env pv hp => ∃ (x0 : Int) (x2 : Int), Sub (upd (upd E0 2 (sI x2)) 0 (sV (.int .u64 x0))) env ∧ Sub V0 pv ∧ (F155_j3 x0 x2 hp  K)) ?_ ?_
   ·refine AWP.seq' ?_
    refine AWP.rgn (F155_r2 (upd E0 2 (sI x2)) x0 hp _) ?_ (Ru 0 (Ru 2 Rn)) (Sc rfl (Sc rfl Sn)) Sn
    refine AWP.cond (t := (decide (x0 ≥ 256))) rfl (fun e => ?_) (fun e => ?_)
    ·replace h := ite2_t h e
     refine AWP.seq' ?_
     refine AWP.rgn (F155_r3 (upd E0 2 (sI x2)) x0 hp _) ?_ (Ru 0 (Ru 2 Rn)) (Sc rfl (Sc rfl Sn)) Sn
     refine ⟨h.1, ?_⟩
     replace h := h.2
     refine AWP.rgn (F155_r4 (upd E0 0 (sV (.int .u64 (Int.fdiv x0 (2 ^ (min (Int.toNat 8) (IntKind.bits .u64))))))) x2 hp _) ?_ (Ru 2 (Ru 0 Rn)) (Sc rfl (Sc rfl Sn)) Sn
     exact ⟨(Int.fdiv x0 (2 ^ (min (Int.toNat 8) (IntKind.bits .u64)))), (wr (x2 + 8)), (Sc rfl (Sc rfl Sn)), Sn, h⟩
    ·replace h := ite2_f h e
     refine AWP.skip ?_
     exact ⟨x0, x2, (Sc rfl (Sc rfl Sn)), Sn, h⟩
   ·rintro env pv hp ⟨x0, x2, he, hv, h⟩
    refine AWP.sub (env' := (upd (upd E0 2 (sI x2)) 0 (sV (.int .u64 x0)))) (pv' := V0) ?_ (Ru 0 (Ru 2 Rn)) he hv (HSub.refl _)
    clear he hv
    unfold F155_j3 at h
    refine AWP.seq' ?_
    refine AWP.rgn (F155_r1 E0 x0 x2 hp _) ?_ (Ru 0 (Ru 2 Rn)) (Sc rfl (Sc rfl Sn)) Sn
    refine ⟨h.1, h.2.1, ?_⟩
    replace h := h.2.2
    refine AWP.ret ?_
    exact h
end
end Go.Proofs

set_option linter.unusedVariables false
set_option maxRecDepth 20000
namespace Go.Proofs
open Go Go.HL

def lenTab : ByteArray := ⟨#[0, 1, 2, 2, 3, 3, 3, 3, 4, 4, 4, 4, 4, 4, 4, 4, 5, 5, 5, 5, 5, 5, 5, 5, 5, 5, 5, 5, 5, 5, 5, 5, 6, 6, 6, 6, 6, 6, 6, 6, 6, 6, 6, 6, 6, 6, 6, 6, 6, 6, 6, 6, 6, 6, 6, 6, 6, 6, 6, 6, 6, 6, 6, 6, 7, 7, 7, 7, 7, 7, 7, 7, 7, 7, 7, 7, 7, 7, 7, 7, 7, 7, 7, 7, 7, 7, 7, 7, 7, 7, 7, 7, 7, 7, 7, 7, 7, 7, 7, 7, 7, 7, 7, 7, 7, 7, 7, 7, 7, 7, 7, 7, 7, 7, 7, 7, 7, 7, 7, 7, 7, 7, 7, 7, 7, 7, 7, 7, 8, 8, 8, 8, 8, 8, 8, 8, 8, 8, 8, 8, 8, 8, 8, 8, 8, 8, 8, 8, 8, 8, 8, 8, 8, 8, 8, 8, 8, 8, 8, 8, 8, 8, 8, 8, 8, 8, 8, 8, 8, 8, 8, 8, 8, 8, 8, 8, 8, 8, 8, 8, 8, 8, 8, 8, 8, 8, 8, 8, 8, 8, 8, 8, 8, 8, 8, 8, 8, 8, 8, 8, 8, 8, 8, 8, 8, 8, 8, 8, 8, 8, 8, 8, 8, 8, 8, 8, 8, 8, 8, 8, 8, 8, 8, 8, 8, 8, 8, 8, 8, 8, 8, 8, 8, 8, 8, 8, 8, 8, 8, 8, 8, 8, 8, 8, 8, 8, 8, 8, 8, 8, 8, 8, 8, 8, 8, 8]⟩
theorem len_tab : ∀ y : Fin 256, bt lenTab (y.val : Int) = (Sort.bitsLen y.val : Nat) := by decide +kernel
theorem lenTab_size : lenTab.size = 256 := by kernel_rfl

theorem C155 {n : Nat} {hp : HP} {K : Value → HP → Prop} (hn : n ≤ 65535) (h : ∀ L : Nat, L ≤ 16 → n < 2 ^ L → (0 < n → 2 ^ L ≤ 2 * n) → K (.int .i64 L) hp) : CF Try.prog 155 [.int .u64 n] hp K := by
  refine F155_ok n hp K ?_
  have tail : ∀ (y o : Nat), y < 256 → o ≤ 8 → n < 2 ^ (o + Sort.bitsLen y) → (0 < n → 2 ^ (o + Sort.bitsLen y) ≤ 2 * n) → F155_j3 y o hp K := by
    intro y o hy ho h1 h2
    unfold F155_j3
    change (0 ≤ (IntKind.wrap .u8 (y : Int))) ∧ ((IntKind.wrap .u8 (y : Int)) < (ByteArray.size lenTab : Nat)) ∧ K (Value.int .i64 (IntKind.wrap .i64 ((o : Int) + IntKind.wrap .i64 (bt lenTab (IntKind.wrap .u8 (y : Int)))))) hp
    rw [wu8 (by omega) (by omega), lenTab_size]
    have := len_tab ⟨y, hy⟩
    simp only at this
    rw [this]
    have hb : Sort.bitsLen y ≤ 8 := (Sort.bitsLen_le_iff y 8).2 (by omega)
    rw [w64 (n := ((Sort.bitsLen y : Nat) : Int)) (by omega) (by omega), w64 (by omega) (by omega)]
    refine ⟨by omega, by omega, ?_⟩
    have e : (o : Int) + (Sort.bitsLen y : Nat) = ((o + Sort.bitsLen y : Nat) : Int) := by omega
    rw [e]
    exact h _ (by omega) h1 h2
  unfold F155
  rw [decide_eq_false (by omega : ¬ (n : Int) ≥ 4294967296), ite2_false]
  unfold F155_j1
  rw [decide_eq_false (by omega : ¬ (n : Int) ≥ 65536), ite2_false]
  unfold F155_j2
  by_cases h8 : n ≥ 256
  · rw [decide_eq_true (by omega : (n : Int) ≥ 256), ite2_true]
    refine ⟨by omega, ?_⟩
    have e1 : Int.fdiv (n : Int) (2 ^ (min (Int.toNat 8) (IntKind.bits .u64))) = ((n / 256 : Nat) : Int) := by
      show Int.fdiv (n : Int) 256 = _
      rw [Int.fdiv_eq_ediv_of_nonneg _ (by omega)]; omega
    have e2 : IntKind.wrap .i64 ((0 : Int) + 8) = ((8 : Nat) : Int) := by rw [w64 (by omega) (by omega)]; rfl
    rw [e1, e2]
    have ha := Sort.lt_two_pow_bitsLen (n / 256)
    have hb := Sort.two_pow_bitsLen_le (n := n / 256) (by omega)
    have hp : 2 ^ (8 + Sort.bitsLen (n / 256)) = 256 * 2 ^ Sort.bitsLen (n / 256) := by rw [Nat.pow_add]
    refine tail _ 8 (by omega) (by omega) (by rw [hp]; omega) (fun _ => by rw [hp]; omega)
  · rw [decide_eq_false (by omega : ¬ (n : Int) ≥ 256), ite2_false]
    refine tail n 0 (by omega) (by omega) ?_ ?_
    · rw [Nat.zero_add]; exact Sort.lt_two_pow_bitsLen n
    · intro h0; rw [Nat.zero_add]; exact Sort.two_pow_bitsLen_le h0

theorem C129 {n : Nat} {hp : HP} {K : Value → HP → Prop} (hn : n ≤ 65535) (h : ∀ L : Nat, L ≤ 16 → n < 2 ^ L → (0 < n → 2 ^ L ≤ 2 * n) → K (.int .i64 L) hp) : CF Try.prog 129 [.int .u64 n] hp K := by
  refine F129_ok n hp K ?_
  unfold F129
  refine C155 hn fun L h1 h2 h3 => ?_
  rw [intV_int]
  exact h L h1 h2 h3

theorem C172 {n : Nat} {hp : HP} {K : Value → HP → Prop} (hn : n ≤ 65535) (h : ∀ L : Nat, L ≤ 16 → n < 2 ^ L → (0 < n → 2 ^ L ≤ 2 * n) → K (.int .u64 ((2 ^ L : Nat) : Int)) hp) : CF Try.prog 172 [.int .i64 n] hp K := by
  refine F172_ok n hp K ?_
  unfold F172
  rw [wu64 (by omega) (by omega)]
  refine C129 hn fun L h1 h2 h3 => ?_
  rw [intV_int]
  refine ⟨by omega, ?_⟩
  have e : min (Int.toNat (L : Int)) (IntKind.bits .u64) = L := by
    show min (Int.toNat (L : Int)) 64 = L
    rw [Int.toNat_natCast]; omega
  have hle : 2 ^ L ≤ 2 ^ 16 := Nat.pow_le_pow_right (by omega) h1
  rw [e]
  have e2 : (1 : Int) * 2 ^ L = ((2 ^ L : Nat) : Int) := by rw [Int.one_mul]; simp
  rw [e2, wu64 (by omega) (by omega)]
  exact h L h1 h2 h3

theorem C173 {r : Nat} {y : Int} {hp : HP} {K : Value → HP → Prop} (hr : hp r = .cells 236 [.int .u64 y] 0) (h : ∀ z : Int, K (.int .u64 z) (hp.set r (.cells 236 [.int .u64 z] 0))) : CF Try.prog 173 [.pointer (some ⟨r, 0, none⟩)] hp K := by
  refine F173_ok _ hp K ?_
  unfold F173
  have hc : ∀ o, hp.cell r o = [Value.int .u64 y][o]? := fun o => HP.cell_of hr
  simp only [ptrN_some, hc, List.getElem?_cons_zero, ldV_some, intV_int]
  refine ⟨by omega, ?_⟩
  refine HP.st_at hr (by simp) ?_
  simp only [List.set_cons_zero]
  generalize bxor .u64 y _ = y2
  have hr2 : (hp.set r (.cells 236 [.int .u64 y2] 0)) r = .cells 236 [.int .u64 y2] 0 := HP.set_eq ..
  have hc2 : ∀ o, (hp.set r (.cells 236 [.int .u64 y2] 0)).cell r o = [Value.int .u64 y2][o]? := fun o => HP.cell_of hr2
  simp only [hc2, List.getElem?_cons_zero, ldV_some, intV_int]
  refine ⟨by omega, ?_⟩
  refine HP.st_at hr2 (by simp) ?_
  simp only [List.set_cons_zero, HP.set_set]
  generalize bxor .u64 y2 _ = y3
  have hr3 : (hp.set r (.cells 236 [.int .u64 y3] 0)) r = .cells 236 [.int .u64 y3] 0 := HP.set_eq ..
  have hc3 : ∀ o, (hp.set r (.cells 236 [.int .u64 y3] 0)).cell r o = [Value.int .u64 y3][o]? := fun o => HP.cell_of hr3
  simp only [hc3, List.getElem?_cons_zero, ldV_some, intV_int]
  refine ⟨by omega, ?_⟩
  refine HP.st_at hr3 (by simp) ?_
  simp only [List.set_cons_zero, HP.set_set]
  generalize bxor .u64 y3 _ = y4
  have hr4 : (hp.set r (.cells 236 [.int .u64 y4] 0)) r = .cells 236 [.int .u64 y4] 0 := HP.set_eq ..
  have hc4 : ∀ o, (hp.set r (.cells 236 [.int .u64 y4] 0)).cell r o = [Value.int .u64 y4][o]? := fun o => HP.cell_of hr4
  simp only [hc4, List.getElem?_cons_zero, ldV_some, intV_int]
  exact h y4

end Go.Proofs

set_option linter.unusedVariables false
set_option maxRecDepth 20000
namespace Go.Proofs
open Go Go.HL

section
variable {f : FuncId} {ga gb : List Value} {hp0 : HP} {b sp n c : Nat} {T : Type} [Inhabited T] {en : T → ByteArray} {cf : T → T → Int}

theorem S182 {v : Value} {d : Array T} {lo hi : Nat} {K : Value → HP → Prop} (hs : d.size = n) (hlo : lo ≤ hi) (hf : hi ≤ n) (hn : n ≤ 65535)
    (h : ∀ d', Sort.PermIn lo hi d d' → K (.tuple ⟨[]⟩) (HA hp0 b 9 sp (ssT en) d')) :
    CF Try.prog 182 [.slice (some ⟨b, 0, none⟩) n c, .int .i64 lo, .int .i64 hi, v] (HA hp0 b 9 sp (ssT en) d) K := by
  refine CF.drop (F182_ok _ n c lo hi _ _ _ ?_)
  unfold F182
  have w1 : IntKind.wrap .i64 ((hi : Int) - (lo : Int)) = ((hi - lo : Nat) : Int) := wi (by omega) (by omega)
  rw [w1]
  by_cases h8 : hi - lo ≥ 8
  · rw [decide_eq_true (by omega : ((hi - lo : Nat) : Int) ≥ 8), ite2_true]
    intro r hr
    obtain ⟨hrb, hr0⟩ := HA.ne_of_none hr
    refine HP.st_at (HP.set_eq ..) (by simp) ?_
    simp only [List.set_cons_zero, HP.set_set]
    rw [HA.set_comm hrb]
    refine C172 (n := hi - lo) (by omega) fun L hL1 hL2 hL3 => ?_
    have hL4 := hL3 (by omega)
    have hL5 : 2 ^ L ≤ 2 ^ 16 := Nat.pow_le_pow_right (by omega) hL1
    rw [intV_int]
    refine ⟨by omega, ?_⟩
    have e4 : Int.tdiv ((hi - lo : Nat) : Int) 4 = (((hi - lo) / 4 : Nat) : Int) := rfl
    generalize hm : hi - lo = m at *
    rw [e4]
    have v1 : IntKind.wrap .i64 ((m / 4 : Nat) : Int) = ((m / 4 : Nat) : Int) := wi rfl (by omega)
    have v2 : IntKind.wrap .i64 (((m / 4 : Nat) : Int) * 2) = ((m / 4 * 2 : Nat) : Int) := wi (by omega) (by omega)
    have v3 : IntKind.wrap .i64 ((lo : Int) + ((m / 4 * 2 : Nat) : Int)) = ((lo + m / 4 * 2 : Nat) : Int) := wi (by omega) (by omega)
    have v4 : IntKind.wrap .i64 (((lo + m / 4 * 2 : Nat) : Int) - 1) = ((lo + m / 4 * 2 - 1 : Nat) : Int) := wi (by omega) (by omega)
    have v5 : IntKind.wrap .i64 (((lo + m / 4 * 2 : Nat) : Int) + 1) = ((lo + m / 4 * 2 + 1 : Nat) : Int) := wi (by omega) (by omega)
    rw [v1, v2, v3, v4]
    unfold F182_j1
    generalize hz0 : IntKind.wrap .u64 (m : Int) = z0
    refine LoopP.by (J := fun k (x : Int) hp => ∃ (i : Nat) (d' : Array T) (z : Int), x = i ∧ hp = HA (hp0.set r (.cells 236 [.int .u64 z] 0)) b 9 sp (ssT en) d' ∧ Sort.PermIn lo hi d d' ∧ lo ≤ i ∧ k = lo + m / 4 * 2 + 2 - i) ?_
      (n := lo + m / 4 * 2 + 2 - (lo + m / 4 * 2 - 1)) ⟨lo + m / 4 * 2 - 1, d, z0, rfl, rfl, Sort.permIn_refl d lo hi, by omega, rfl⟩
    rintro I k x hp ⟨i, d', z, rfl, rfl, hpm, hli, rfl⟩ hI
    unfold F182_l2
    refine ⟨by omega, ?_⟩
    rw [e4, v1, v2, v3, v5]
    by_cases hi' : i ≤ lo + m / 4 * 2 + 1
    · rw [decide_eq_true (by omega : (i : Int) ≤ ((lo + m / 4 * 2 + 1 : Nat) : Int)), ite2_true]
      refine C173 (y := z) (by rw [HA.ne hrb, HP.set_eq]) fun z' => ?_
      rw [HA.set_comm hrb, HP.set_set, intV_int]
      have u1 : IntKind.wrap .u64 (((2 ^ L : Nat) : Int) - 1) = ((2 ^ L - 1 : Nat) : Int) := by rw [wu64 (by omega) (by omega)]; omega
      rw [u1]
      have hbd := band_le (z := z') (m := ((2 ^ L - 1 : Nat) : Int)) (by omega) (by omega)
      generalize band .u64 z' ((2 ^ L - 1 : Nat) : Int) = w at hbd
      obtain ⟨o, rfl⟩ : ∃ o : Nat, w = o := ⟨w.toNat, by omega⟩
      rw [w64 (n := (o : Int)) (by omega) (by omega)]
      have hs' : d'.size = n := by rw [hpm.1]; exact hs
      have step : ∀ o : Nat, o < m → F182_j3 (some ⟨b, 0, none⟩) n c lo m (some ⟨r, 0, none⟩) ((2 ^ L : Nat) : Int) i o (HA (hp0.set r (.cells 236 [.int .u64 z'] 0)) b 9 sp (ssT en) d') I (fun v hp' => ∃ hp'', HSub hp'' hp' ∧ K v hp'') := by
        intro o ho
        unfold F182_j3
        have x1 : IntKind.wrap .i64 ((lo : Int) + (o : Int)) = ((lo + o : Nat) : Int) := wi (by omega) (by omega)
        have x2 : IntKind.wrap .i64 ((i : Int) + 1) = ((i + 1 : Nat) : Int) := wi (by omega) (by omega)
        rw [x1, x2]
        refine swapP1 hs' (i := i) (j := lo + o) rfl rfl (by omega) (by omega) ?_
        exact hI (lo + m / 4 * 2 + 2 - (i + 1)) _ _ (by omega) ⟨i + 1, _, z', rfl, rfl, Sort.permIn_trans _ _ _ _ _ hpm (Sort.swp_permIn d' lo hi i (lo + o) (by omega) (by omega) (by omega) (by omega) (by omega)), by omega, rfl⟩
      by_cases hom : o ≥ m
      · rw [decide_eq_true (by omega : (o : Int) ≥ (m : Int)), ite2_true]
        have x3 : IntKind.wrap .i64 ((o : Int) - (m : Int)) = ((o - m : Nat) : Int) := wi (by omega) (by omega)
        rw [x3]
        exact step (o - m) (by omega)
      · rw [decide_eq_false (by omega : ¬ (o : Int) ≥ (m : Int)), ite2_false]
        exact step o (by omega)
    · rw [decide_eq_false (by omega : ¬ (i : Int) ≤ ((lo + m / 4 * 2 + 1 : Nat) : Int)), ite2_false]
      exact ⟨_, HA.sub (HSub.set_fresh hp0 _ hr0), h d' hpm⟩
  · rw [decide_eq_false (by omega : ¬ ((hi - lo : Nat) : Int) ≥ 8), ite2_false]
    exact ⟨_, HSub.refl _, h d (Sort.permIn_refl d lo hi)⟩

/-- With the counter of swaps beside. -/
theorem S196 (hx : CmpX1 Try.prog f ga gb hp0 b 9 sp n cf en) {d : Array T} {i j r : Nat} {s : Int} {K : Value → HP → Prop} (hs : d.size = n) (hi : i < n) (hj : j < n) (hrb : r ≠ b) (hr0 : hp0 r = .none)
    (h : ∀ (s' : Int) (x y : Nat), (x = i ∧ y = j) ∨ (x = j ∧ y = i) → K (.tuple ⟨[.int .i64 x, .int .i64 y]⟩) (HA (hp0.set r (.cells 3 [.int .i64 s'] 0)) b 9 sp (ssT en) d)) :
    CF Try.prog 196 [.slice (some ⟨b, 0, none⟩) n c, .int .i64 i, .int .i64 j, .pointer (some ⟨r, 0, none⟩), .func (.func f) ⟨ga⟩ ⟨gb⟩] (HA (hp0.set r (.cells 3 [.int .i64 s] 0)) b 9 sp (ssT en) d) K := by
  refine F196_ok _ n c i j _ _ _ K ?_
  unfold F196
  refine cmpP1 (hx _ (HSub.set_fresh hp0 _ hr0)) hs (i := j) (j := i) rfl rfl hj hi ?_
  cases decide (cf d[j]! d[i]! < 0)
  · rw [ite2_false]
    exact h s i j (.inl ⟨rfl, rfl⟩)
  · have hc : (HA (hp0.set r (.cells 3 [.int .i64 s] 0)) b 9 sp (ssT en) d) r = .cells 3 [.int .i64 s] 0 := by rw [HA.ne hrb, HP.set_eq]
    rw [ite2_true, ptrN_some, HP.cell_of hc]
    simp only [List.getElem?_cons_zero, ldV_some, intV_int, ptrN_some]
    refine HP.st_at hc (by simp) ?_
    rw [List.set_cons_zero, HA.set_comm hrb, HP.set_set]
    exact h _ j i (.inr ⟨rfl, rfl⟩)

theorem S194 (hx : CmpX1 Try.prog f ga gb hp0 b 9 sp n cf en) {d : Array T} {i j k r : Nat} {s : Int} {K : Value → HP → Prop} (hs : d.size = n) (hi : i < n) (hj : j < n) (hk : k < n) (hrb : r ≠ b) (hr0 : hp0 r = .none)
    (h : ∀ (s' : Int) (x : Nat), x = i ∨ x = j ∨ x = k → K (.int .i64 x) (HA (hp0.set r (.cells 3 [.int .i64 s'] 0)) b 9 sp (ssT en) d)) :
    CF Try.prog 194 [.slice (some ⟨b, 0, none⟩) n c, .int .i64 i, .int .i64 j, .int .i64 k, .pointer (some ⟨r, 0, none⟩), .func (.func f) ⟨ga⟩ ⟨gb⟩] (HA (hp0.set r (.cells 3 [.int .i64 s] 0)) b 9 sp (ssT en) d) K := by
  refine F194_ok _ n c i j k _ _ _ K ?_
  unfold F194
  refine S196 hx hs hi hj hrb hr0 fun s1 a1 b1 h1 => ?_
  simp only [tup2V_mk, intV_int]
  refine S196 hx hs (by omega) hk hrb hr0 fun s2 a2 b2 h2 => ?_
  simp only [tup2V_mk, intV_int]
  refine S196 hx hs (by omega) (by omega) hrb hr0 fun s3 a3 b3 h3 => ?_
  simp only [tup2V_mk, intV_int]
  exact h s3 b3 (by omega)

theorem S193 (hx : CmpX1 Try.prog f ga gb hp0 b 9 sp n cf en) {d : Array T} {i r : Nat} {s : Int} {K : Value → HP → Prop} (hs : d.size = n) (hi0 : 0 < i) (hi : i + 1 < n) (hn : n ≤ 65535) (hrb : r ≠ b) (hr0 : hp0 r = .none)
    (h : ∀ (s' : Int) (x : Nat), i - 1 ≤ x → x ≤ i + 1 → K (.int .i64 x) (HA (hp0.set r (.cells 3 [.int .i64 s'] 0)) b 9 sp (ssT en) d)) :
    CF Try.prog 193 [.slice (some ⟨b, 0, none⟩) n c, .int .i64 i, .pointer (some ⟨r, 0, none⟩), .func (.func f) ⟨ga⟩ ⟨gb⟩] (HA (hp0.set r (.cells 3 [.int .i64 s] 0)) b 9 sp (ssT en) d) K := by
  refine F193_ok _ n c i _ _ _ K ?_
  unfold F193
  have v1 : IntKind.wrap .i64 ((i : Int) - 1) = ((i - 1 : Nat) : Int) := wi (by omega) (by omega)
  have v2 : IntKind.wrap .i64 ((i : Int) + 1) = ((i + 1 : Nat) : Int) := wi (by omega) (by omega)
  rw [v1, v2]
  refine S194 hx hs (by omega) (by omega) (by omega) hrb hr0 fun s1 x h1 => ?_
  rw [intV_int]
  exact h s1 x (by omega) (by omega)

theorem S183 (hx : CmpX1 Try.prog f ga gb hp0 b 9 sp n cf en) {d : Array T} {lo hi : Nat} {K : Value → HP → Prop} (hs : d.size = n) (hlo : lo < hi) (hf : hi ≤ n) (hn : n ≤ 65535)
    (h : ∀ (p : Nat) (w : Int), lo ≤ p → p < hi → K (.tuple ⟨[.int .i64 p, .int .i64 w]⟩) (HA hp0 b 9 sp (ssT en) d)) :
    CF Try.prog 183 [.slice (some ⟨b, 0, none⟩) n c, .int .i64 lo, .int .i64 hi, .func (.func f) ⟨ga⟩ ⟨gb⟩] (HA hp0 b 9 sp (ssT en) d) K := by
  refine CF.drop (F183_ok _ n c lo hi _ _ _ ?_)
  unfold F183
  intro r hr
  obtain ⟨hrb, hr0⟩ := HA.ne_of_none hr
  have w1 : IntKind.wrap .i64 ((hi : Int) - (lo : Int)) = ((hi - lo : Nat) : Int) := wi (by omega) (by omega)
  have e4 : Int.tdiv ((hi - lo : Nat) : Int) 4 = (((hi - lo) / 4 : Nat) : Int) := rfl
  simp only [w1, e4]
  refine ⟨by omega, by omega, by omega, ?_⟩
  clear e4 w1
  rw [HA.set_comm hrb]
  have hmm : hi = lo + (hi - lo) := by omega
  generalize hi - lo = m at *
  subst hmm
  have v0 : IntKind.wrap .i64 ((m / 4 : Nat) : Int) = ((m / 4 : Nat) : Int) := wi rfl (by omega)
  have v1 : IntKind.wrap .i64 (((m / 4 : Nat) : Int) * 1) = ((m / 4 : Nat) : Int) := wi (by omega) (by omega)
  have v2 : IntKind.wrap .i64 (((m / 4 : Nat) : Int) * 2) = ((m / 4 * 2 : Nat) : Int) := wi (by omega) (by omega)
  have v3 : IntKind.wrap .i64 (((m / 4 : Nat) : Int) * 3) = ((m / 4 * 3 : Nat) : Int) := wi (by omega) (by omega)
  have u1 : IntKind.wrap .i64 ((lo : Int) + ((m / 4 : Nat) : Int)) = ((lo + m / 4 : Nat) : Int) := wi (by omega) (by omega)
  have u2 : IntKind.wrap .i64 ((lo : Int) + ((m / 4 * 2 : Nat) : Int)) = ((lo + m / 4 * 2 : Nat) : Int) := wi (by omega) (by omega)
  have u3 : IntKind.wrap .i64 ((lo : Int) + ((m / 4 * 3 : Nat) : Int)) = ((lo + m / 4 * 3 : Nat) : Int) := wi (by omega) (by omega)
  simp only [v0, v1, v2, v3, u1, u2, u3]
  have fin : ∀ (s : Int) (p : Nat), lo ≤ p → p < lo + m → F183_j1 (some ⟨r, 0, none⟩) p (HA (hp0.set r (.cells 3 [.int .i64 s] 0)) b 9 sp (ssT en) d) (fun v hp' => ∃ hp'', HSub hp'' hp' ∧ K v hp'') := by
    intro s p h1 h2
    have hc : (HA (hp0.set r (.cells 3 [.int .i64 s] 0)) b 9 sp (ssT en) d) r = .cells 3 [.int .i64 s] 0 := by rw [HA.ne hrb, HP.set_eq]
    unfold F183_j1
    rw [ptrN_some, HP.cell_of hc]
    simp only [List.getElem?_cons_zero, ldV_some, intV_int]
    have hsub := HA.sub (b := b) (e := 9) (sp := sp) (en := ssT en) (d := d) (HSub.set_fresh hp0 (.cells 3 [.int .i64 s] 0) hr0)
    cases (s == 0)
    · rw [ite2_false]
      cases (s == 12)
      · rw [ite2_false]; exact ⟨_, hsub, h p 0 h1 h2⟩
      · rw [ite2_true]; exact ⟨_, hsub, h p 2 h1 h2⟩
    · rw [ite2_true]; exact ⟨_, hsub, h p 1 h1 h2⟩
  have fin2 : ∀ (s : Int) (i j k : Nat), lo ≤ i → i < lo + m → lo ≤ j → j < lo + m → lo ≤ k → k < lo + m → F183_j2 (some ⟨b, 0, none⟩) n c (.func (.func f) ⟨ga⟩ ⟨gb⟩) (some ⟨r, 0, none⟩) i j k (HA (hp0.set r (.cells 3 [.int .i64 s] 0)) b 9 sp (ssT en) d) (fun v hp' => ∃ hp'', HSub hp'' hp' ∧ K v hp'') := by
    intro s i j k h1 h2 h3 h4 h5 h6
    unfold F183_j2
    refine S194 hx hs (by omega) (by omega) (by omega) hrb hr0 fun s1 x hx1 => ?_
    rw [intV_int]
    exact fin s1 x (by omega) (by omega)
  by_cases h8 : m ≥ 8
  · rw [decide_eq_true (by omega : (m : Int) ≥ 8), ite2_true]
    by_cases h50 : m ≥ 50
    · rw [decide_eq_true (by omega : (m : Int) ≥ 50), ite2_true]
      refine S193 hx hs (by omega) (by omega) hn hrb hr0 fun s1 x1 a1 b1 => ?_
      rw [intV_int]
      refine S193 hx hs (by omega) (by omega) hn hrb hr0 fun s2 x2 a2 b2 => ?_
      rw [intV_int]
      refine S193 hx hs (by omega) (by omega) hn hrb hr0 fun s3 x3 a3 b3 => ?_
      rw [intV_int]
      exact fin2 s3 x1 x2 x3 (by omega) (by omega) (by omega) (by omega) (by omega) (by omega)
    · rw [decide_eq_false (by omega : ¬ (m : Int) ≥ 50), ite2_false]
      exact fin2 0 _ _ _ (by omega) (by omega) (by omega) (by omega) (by omega) (by omega)
  · rw [decide_eq_false (by omega : ¬ (m : Int) ≥ 8), ite2_false]
    exact fin 0 _ (by omega) (by omega)
end
end Go.Proofs

