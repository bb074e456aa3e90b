/- Parts of the proof of OnceProof: the logic of what is known of memory, functions' contracts. -/
import Derived.Test.YtidoceleobdkmaaQOnceProofB
import Derived.Test.YtidoceleobdkmaaHlAbb
import Derived.Test.YtidoceleobdkmaaProg
import Derived.Test.YtidoceleobdkmaaHlUse2
import Derived.Sort.LotD1
import Derived.Sort.LotD3
import Derived.Test.YtidoceleobdkmaaHlLib
import Derived.Test.YtidoceleobdkmaaHlArg
import Derived.DataShut
set_option linter.unusedVariables false
set_option maxRecDepth 20000
namespace Go.Proofs
open Go Go.HL

section
variable {f : FuncId} {ga gb : List Value} {hp0 : HP} {b sp n c : Nat} {cf : Exp.Th → Exp.Th → Int}

theorem S153 (hc : CmpOk Try.prog f ga gb hp0 b 148 sp th n cf) {d : Array Exp.Th} {lo hi pv : Nat} {K : Value → HP → Prop} (hs : d.size = n) (hlo : lo < hi) (hf : hi ≤ n) (hp : pv < n) (hn : n ≤ 1000000000)
    (h : K (.tuple ⟨[.int .i64 ((Sort.partition (ltC cf) d lo hi pv).1 : Nat), .bool (Sort.partition (ltC cf) d lo hi pv).2.1]⟩) (HA hp0 b 148 sp th (Sort.partition (ltC cf) d lo hi pv).2.2)) :
    CF Try.prog 153 [.slice (some ⟨b, 0, none⟩) n c, .int .i64 lo, .int .i64 hi, .int .i64 pv, .func (.func f) ⟨ga⟩ ⟨gb⟩] (HA hp0 b 148 sp th d) K := by
  refine F153_ok _ n c lo hi pv _ _ K ?_
  unfold F153
  refine swapP th_len th_one hs (i := lo) (j := pv) rfl rfl (by omega) (by omega) ?_
  unfold Sort.partition at h
  have hs' : (Sort.swp d lo pv).size = n := by rw [swp_size]; exact hs
  generalize Sort.swp d lo pv = d' at *
  have w1 : IntKind.wrap .i64 ((lo : Int) + 1) = ((lo + 1 : Nat) : Int) := wi (by omega) (by omega)
  have w2 : IntKind.wrap .i64 ((hi : Int) - 1) = ((hi - 1 : Nat) : Int) := wi (by omega) (by omega)
  rw [w1, w2]
  simp only [] at h
  have hij : lo + 1 ≤ hi - 1 + 2 := by omega
  have hjn : hi - 1 < n := by omega
  have hli : lo < lo + 1 := by omega
  generalize hi0 : lo + 1 = i at *
  generalize hj0 : hi - 1 = j at *
  unfold F153_j1
  -- behind the first two scans
  have fin : ∀ (i' m : Nat), Sort.scanUp (fun x => ltC cf x d'[lo]!) d' j i = i' → Sort.scanDown (fun x => !ltC cf x d'[lo]!) d' i' j = m → i ≤ i' → i' ≤ j + 2 → m ≤ j → F153_j3 (some ⟨b, 0, none⟩) n c lo (.func (.func f) ⟨ga⟩ ⟨gb⟩) i' m (HA hp0 b 148 sp th d') K := by
    intro i' m hq hq2 h1 h2 h3
    rw [hq, hq2] at h
    unfold F153_j3
    by_cases hgt : i' > m
    · rw [if_pos hgt] at h
      rw [decide_eq_true (by omega : (i' : Int) > (m : Int)), ite2_true]
      refine swapP th_len th_one hs' (i := m) (j := lo) rfl rfl (by omega) (by omega) ?_
      exact h
    rw [if_neg hgt] at h
    rw [decide_eq_false (by omega : ¬ (i' : Int) > (m : Int)), ite2_false]
    refine swapP th_len th_one hs' (i := i') (j := m) rfl rfl (by omega) (by omega) ?_
    have v1 : IntKind.wrap .i64 ((i' : Int) + 1) = ((i' + 1 : Nat) : Int) := wi (by omega) (by omega)
    have v2 : IntKind.wrap .i64 ((m : Int) - 1) = ((m - 1 : Nat) : Int) := wi (by omega) (by omega)
    rw [v1, v2]
    have hs2 : (Sort.swp d' i' m).size = n := by rw [swp_size]; exact hs'
    generalize Sort.swp d' i' m = d2 at *
    generalize hR : Sort.partLoop (ltC cf) lo (i' + 1) (m - 1) d2 = R at h
    unfold F153_j4
    refine LoopP.by (J := fun k (s : Int × Int) hp => ∃ (i j : Nat) (d' : Array Exp.Th), s = ((i : Int), (j : Int)) ∧ hp = HA hp0 b 148 sp th d' ∧ d'.size = n ∧ lo < i ∧ i ≤ j + 2 ∧ j < n ∧ k = j + 1 - i ∧ Sort.partLoop (ltC cf) lo i j d' = R) ?_
      (n := m - 1 + 1 - (i' + 1)) ⟨i' + 1, m - 1, d2, rfl, rfl, hs2, by omega, by omega, by omega, rfl, hR⟩
    clear hs' hij hjn hli hq hq2 h1 h2 h3 hR
    clear hi0 hj0
    rintro I6 k x hp ⟨i, j, d', rfl, rfl, hs', hli, hij, hj, rfl, he⟩ hI
    unfold F153_l6
    simp only []
    rw [Sort.partLoop_eq] at he
    have fin2 : ∀ (i' m : Nat), Sort.scanUp (fun x => ltC cf x d'[lo]!) d' j i = i' → Sort.scanDown (fun x => !ltC cf x d'[lo]!) d' i' j = m → i ≤ i' → i' ≤ j + 2 → m ≤ j → F153_j8 (some ⟨b, 0, none⟩) n c lo (.func (.func f) ⟨ga⟩ ⟨gb⟩) i' m (HA hp0 b 148 sp th d') I6 K := by
      intro i' m hq hq2 h1 h2 h3
      rw [hq, hq2] at he
      unfold F153_j8
      by_cases hgt : i' > m
      · rw [if_pos hgt] at he
        rw [decide_eq_true (by omega : (i' : Int) > (m : Int)), ite2_true]
        unfold F153_j5
        rw [← he] at h
        refine swapP th_len th_one hs' (i := m) (j := lo) rfl rfl (by omega) (by omega) ?_
        exact h
      · rw [if_neg hgt] at he
        rw [decide_eq_false (by omega : ¬ (i' : Int) > (m : Int)), ite2_false]
        refine swapP th_len th_one hs' (i := i') (j := m) rfl rfl (by omega) (by omega) ?_
        have v1 : IntKind.wrap .i64 ((i' : Int) + 1) = ((i' + 1 : Nat) : Int) := wi (by omega) (by omega)
        have v2 : IntKind.wrap .i64 ((m : Int) - 1) = ((m - 1 : Nat) : Int) := wi (by omega) (by omega)
        rw [v1, v2]
        exact hI (m - 1 + 1 - (i' + 1)) _ _ (by omega) ⟨i' + 1, m - 1, _, rfl, rfl, by rw [swp_size]; exact hs', by omega, by omega, by omega, rfl, he⟩
    clear he
    refine LoopP.by (J := fun m (y : Int) hp => ∃ (i' : Nat), y = i' ∧ hp = HA hp0 b 148 sp th d' ∧ i ≤ i' ∧ i' ≤ j + 2 ∧ m = j + 2 - i' ∧ Sort.scanUp (fun x => ltC cf x d'[lo]!) d' j i' = Sort.scanUp (fun x => ltC cf x d'[lo]!) d' j i) ?_
      (n := j + 2 - i) ⟨i, rfl, rfl, Nat.le_refl _, hij, rfl, rfl⟩
    rintro I11 m y hp ⟨i', rfl, rfl, h1, h2, rfl, h7⟩ hI11
    unfold F153_l11
    have out : Sort.scanUp (fun x => ltC cf x d'[lo]!) d' j i' = i' → F153_j12 (some ⟨b, 0, none⟩) n c lo (.func (.func f) ⟨ga⟩ ⟨gb⟩) i' j false (HA hp0 b 148 sp th d') I6 I11 K := by
      intro hq
      rw [hq] at h7
      unfold F153_j12 F153_j7
      rw [ite2_false]
      refine LoopP.by (J := fun m (y : Int) hp => ∃ (j' : Nat), y = j' ∧ hp = HA hp0 b 148 sp th d' ∧ j' ≤ j ∧ m = j' ∧ Sort.scanDown (fun x => !ltC cf x d'[lo]!) d' i' j' = Sort.scanDown (fun x => !ltC cf x d'[lo]!) d' i' j) ?_
        (n := j) ⟨j, rfl, rfl, Nat.le_refl _, rfl, rfl⟩
      rintro I9 m y hp ⟨j', rfl, rfl, g1, rfl, g7⟩ hI9
      unfold F153_l9
      have out2 : Sort.scanDown (fun x => !ltC cf x d'[lo]!) d' i' m = m → F153_j10 (some ⟨b, 0, none⟩) n c lo (.func (.func f) ⟨ga⟩ ⟨gb⟩) i' m false (HA hp0 b 148 sp th d') I6 I9 K := by
        intro hq2
        rw [hq2] at g7
        unfold F153_j10
        rw [ite2_false]
        exact fin2 i' m h7.symm g7.symm h1 h2 g1
      by_cases hle : i' ≤ m
      · rw [decide_eq_true (by omega : (i' : Int) ≤ (m : Int)), ite2_true]
        refine cmpP hc th_len hs' (i := m) (j := lo) rfl rfl (by omega) (by omega) ?_
        have hl : decide (cf d'[m]! d'[lo]! < 0) = ltC cf d'[m]! d'[lo]! := rfl
        rw [hl]
        obtain ⟨m, rfl⟩ : ∃ m', m = m' + 1 := ⟨m - 1, by omega⟩
        cases hlt : ltC cf d'[m + 1]! d'[lo]!
        · unfold F153_j10
          have v2 : IntKind.wrap .i64 (((m + 1 : Nat) : Int) - 1) = (m : Int) := wi (by omega) (by omega)
          simp only [Bool.not_false, ite2_true, v2]
          refine hI9 m _ _ (by omega) ⟨m, rfl, rfl, by omega, rfl, ?_⟩
          rw [← g7, Sort.scanDown.eq_def _ _ _ (m + 1)]
          simp only [hlt, decide_eq_true hle, Bool.not_false, Bool.and_self, if_true]
        · simp only [Bool.not_true]
          refine out2 ?_
          rw [Sort.scanDown, hlt]
          simp
      · rw [decide_eq_false (by omega : ¬ (i' : Int) ≤ (m : Int)), ite2_false]
        refine out2 ?_
        cases m with
        | zero => rw [Sort.scanDown]
        | succ m => rw [Sort.scanDown, decide_eq_false hle]; simp
    by_cases hle : i' ≤ j
    · rw [decide_eq_true (by omega : (i' : Int) ≤ (j : Int)), ite2_true]
      refine cmpP hc th_len hs' (i := i') (j := lo) rfl rfl (by omega) (by omega) ?_
      have hl : decide (cf d'[i']! d'[lo]! < 0) = ltC cf d'[i']! d'[lo]! := rfl
      rw [hl]
      cases hlt : ltC cf d'[i']! d'[lo]!
      · refine out ?_
        rw [Sort.scanUp, hlt]
        simp
      · unfold F153_j12
        have v2 : IntKind.wrap .i64 ((i' : Int) + 1) = ((i' + 1 : Nat) : Int) := wi (by omega) (by omega)
        simp only [ite2_true, v2]
        refine hI11 (j + 2 - (i' + 1)) _ _ (by omega) ⟨i' + 1, rfl, rfl, by omega, by omega, rfl, ?_⟩
        rw [← h7, Sort.scanUp.eq_def _ _ _ i']
        simp only [hlt, decide_eq_true hle, Bool.and_self, if_true]
    · rw [decide_eq_false (by omega : ¬ (i' : Int) ≤ (j : Int)), ite2_false]
      refine out ?_
      rw [Sort.scanUp, decide_eq_false hle]
      simp
  refine LoopP.by (J := fun m (y : Int) hp => ∃ (i' : Nat), y = i' ∧ hp = HA hp0 b 148 sp th d' ∧ i ≤ i' ∧ i' ≤ j + 2 ∧ m = j + 2 - i' ∧ Sort.scanUp (fun x => ltC cf x d'[lo]!) d' j i' = Sort.scanUp (fun x => ltC cf x d'[lo]!) d' j i) ?_
    (n := j + 2 - i) ⟨i, rfl, rfl, Nat.le_refl _, hij, rfl, rfl⟩
  rintro I15 m y hp ⟨i', rfl, rfl, h1, h2, rfl, h7⟩ hI15
  unfold F153_l15
  have out : Sort.scanUp (fun x => ltC cf x d'[lo]!) d' j i' = i' → F153_j16 (some ⟨b, 0, none⟩) n c lo (.func (.func f) ⟨ga⟩ ⟨gb⟩) i' j false (HA hp0 b 148 sp th d')  I15 K := by
    intro hq
    rw [hq] at h7
    unfold F153_j16 F153_j2
    rw [ite2_false]
    refine LoopP.by (J := fun m (y : Int) hp => ∃ (j' : Nat), y = j' ∧ hp = HA hp0 b 148 sp th d' ∧ j' ≤ j ∧ m = j' ∧ Sort.scanDown (fun x => !ltC cf x d'[lo]!) d' i' j' = Sort.scanDown (fun x => !ltC cf x d'[lo]!) d' i' j) ?_
      (n := j) ⟨j, rfl, rfl, Nat.le_refl _, rfl, rfl⟩
    rintro I13 m y hp ⟨j', rfl, rfl, g1, rfl, g7⟩ hI13
    unfold F153_l13
    have out2 : Sort.scanDown (fun x => !ltC cf x d'[lo]!) d' i' m = m → F153_j14 (some ⟨b, 0, none⟩) n c lo (.func (.func f) ⟨ga⟩ ⟨gb⟩) i' m false (HA hp0 b 148 sp th d')  I13 K := by
      intro hq2
      rw [hq2] at g7
      unfold F153_j14
      rw [ite2_false]
      exact fin i' m h7.symm g7.symm h1 h2 g1
    by_cases hle : i' ≤ m
    · rw [decide_eq_true (by omega : (i' : Int) ≤ (m : Int)), ite2_true]
      refine cmpP hc th_len hs' (i := m) (j := lo) rfl rfl (by omega) (by omega) ?_
      have hl : decide (cf d'[m]! d'[lo]! < 0) = ltC cf d'[m]! d'[lo]! := rfl
      rw [hl]
      obtain ⟨m, rfl⟩ : ∃ m', m = m' + 1 := ⟨m - 1, by omega⟩
      cases hlt : ltC cf d'[m + 1]! d'[lo]!
      · unfold F153_j14
        have v2 : IntKind.wrap .i64 (((m + 1 : Nat) : Int) - 1) = (m : Int) := wi (by omega) (by omega)
        simp only [Bool.not_false, ite2_true, v2]
        refine hI13 m _ _ (by omega) ⟨m, rfl, rfl, by omega, rfl, ?_⟩
        rw [← g7, Sort.scanDown.eq_def _ _ _ (m + 1)]
        simp only [hlt, decide_eq_true hle, Bool.not_false, Bool.and_self, if_true]
      · simp only [Bool.not_true]
        refine out2 ?_
        rw [Sort.scanDown, hlt]
        simp
    · rw [decide_eq_false (by omega : ¬ (i' : Int) ≤ (m : Int)), ite2_false]
      refine out2 ?_
      cases m with
      | zero => rw [Sort.scanDown]
      | succ m => rw [Sort.scanDown, decide_eq_false hle]; simp
  by_cases hle : i' ≤ j
  · rw [decide_eq_true (by omega : (i' : Int) ≤ (j : Int)), ite2_true]
    refine cmpP hc th_len hs' (i := i') (j := lo) rfl rfl (by omega) (by omega) ?_
    have hl : decide (cf d'[i']! d'[lo]! < 0) = ltC cf d'[i']! d'[lo]! := rfl
    rw [hl]
    cases hlt : ltC cf d'[i']! d'[lo]!
    · refine out ?_
      rw [Sort.scanUp, hlt]
      simp
    · unfold F153_j16
      have v2 : IntKind.wrap .i64 ((i' : Int) + 1) = ((i' + 1 : Nat) : Int) := wi (by omega) (by omega)
      simp only [ite2_true, v2]
      refine hI15 (j + 2 - (i' + 1)) _ _ (by omega) ⟨i' + 1, rfl, rfl, by omega, by omega, rfl, ?_⟩
      rw [← h7, Sort.scanUp.eq_def _ _ _ i']
      simp only [hlt, decide_eq_true hle, Bool.and_self, if_true]
  · rw [decide_eq_false (by omega : ¬ (i' : Int) ≤ (j : Int)), ite2_false]
    refine out ?_
    rw [Sort.scanUp, decide_eq_false hle]
    simp

end
end Go.Proofs

set_option linter.unusedVariables false
set_option maxRecDepth 20000
namespace Go.Proofs
open Go Go.HL
-- 189 slices.order2CmpFunc[interpreter/expiry.thing]
theorem F189_r0 (e : Env) (hp : HP) (K : Env → PV → HP → Prop) : RW Try.prog 32 [] (opsAt Try.f189 [0]) (List.range 2) e V0 hp K =
    (K (upd (upd e 10 (sI (0))) 11 (sI (0))) V0 hp) := by kernel_rfl
theorem F189_r1 (e : Env) (x0a : Option Addr) (x0n : Nat) (x0c : Nat) (x1 : Int) (x2 : Int) (x4 : Value) (hp : HP) (K : Env → PV → HP → Prop) : RW Try.prog 32 [] (opsAt Try.f189 [1, 0, 0]) (List.range 11) (upd (upd (upd (upd e 4 (sV x4)) 2 (sI (x2))) 1 (sI (x1))) 0 (sV (Value.slice x0a x0n x0c))) V0 hp K =
    ((0 ≤ (x2 : Int)) ∧ ((x2 : Int) < (x0n : Nat)) ∧ (ptrN x0a fun b1 o2 => (ldL (HP.cellN hp b1 (o2 + Int.toNat x2 * 2) 2) fun l3 => ((0 ≤ (x1 : Int)) ∧ ((x1 : Int) < (x0n : Nat)) ∧ (ptrN x0a fun b4 o5 => (ldL (HP.cellN hp b4 (o5 + Int.toNat x1 * 2) 2) fun l6 => (fnV x4 fun f7 ga8 gb9 => (CF Try.prog f7 (ga8 ++ [(Value.agg ⟨l3⟩), (Value.agg ⟨l6⟩)] ++ gb9) hp fun u10 h11 => (intV u10 .i64 fun i12 => (K (upd (upd (upd (upd (upd (upd (upd (upd (upd (upd (upd (upd (upd (upd (upd e 4 (sV x4)) 2 (sI (x2))) 1 (sI (x1))) 0 (sV (Value.slice x0a x0n x0c))) 12 (sV x4)) 13 (sV (Value.slice x0a x0n x0c))) 14 (sI (x2))) 15 (sV (ptr b1 (o2 + Int.toNat x2 * 2)))) 16 (sV (Value.agg ⟨l3⟩))) 17 (sV (Value.slice x0a x0n x0c))) 18 (sI (x1))) 19 (sV (ptr b4 (o5 + Int.toNat x1 * 2)))) 20 (sV (Value.agg ⟨l6⟩))) 21 (sI (i12))) 22 (sB ((decide ((i12 : Int) < 0))))) V0 h11)))))))))) := by kernel_rfl
theorem F189_r2 (e : Env) (x3 : Option Addr) (hp : HP) (K : Env → PV → HP → Prop) : RW Try.prog 32 [] (opsAt Try.f189 [1, 0, 1, 0, 0]) (List.range 6) (upd e 3 (sV (Value.pointer x3))) V0 hp K =
    (ptrN x3 fun b1 o2 => (ldV (HP.cell hp b1 o2) fun v3 => (intV v3 .i64 fun i4 => (ptrN x3 fun b5 o6 => (HP.st hp b5 o6 (Value.int .i64 (IntKind.wrap .i64 (i4 + 1))) fun h7 => (K (upd (upd (upd (upd (upd (upd e 3 (sV (Value.pointer x3))) 23 (sV (Value.pointer x3))) 24 (sV (ptr b1 o2))) 25 (sI (i4))) 26 (sI ((IntKind.wrap .i64 (i4 + 1))))) 27 (sV (ptr b5 o6))) V0 h7)))))) := by kernel_rfl
theorem F189_r3 (e : Env) (x1 : Int) (x2 : Int) (hp : HP) (K : Env → PV → HP → Prop) : RW Try.prog 32 [] (opsAt Try.f189 [1, 0, 1, 0, 1, 0]) (List.range 4) (upd (upd e 2 (sI (x2))) 1 (sI (x1))) V0 hp K =
    (K (upd (upd (upd (upd (upd (upd e 2 (sI (x2))) 1 (sI (x1))) 28 (sI (x2))) 29 (sI (x1))) 10 (sI (x2))) 11 (sI (x1))) V0 hp) := by kernel_rfl
theorem F189_r4 (e : Env) (x1 : Int) (x2 : Int) (hp : HP) (K : Env → PV → HP → Prop) : RW Try.prog 32 [] (opsAt Try.f189 [1, 1, 0]) (List.range 4) (upd (upd e 2 (sI (x2))) 1 (sI (x1))) V0 hp K =
    (K (upd (upd (upd (upd (upd (upd e 2 (sI (x2))) 1 (sI (x1))) 30 (sI (x1))) 31 (sI (x2))) 10 (sI (x1))) 11 (sI (x2))) V0 hp) := by kernel_rfl
def F189 (x0a : Option Addr) (x0n : Nat) (x0c : Nat) (x1 : Int) (x2 : Int) (x3 : Option Addr) (x4 : Value) (hp : HP) (K : Value → HP → Prop) : Prop :=
  ((0 ≤ (x2 : Int)) ∧ ((x2 : Int) < (x0n : Nat)) ∧ (ptrN x0a fun b_1 o_2 => (ldL (HP.cellN hp b_1 (o_2 + Int.toNat x2 * 2) 2) fun l_3 => ((0 ≤ (x1 : Int)) ∧ ((x1 : Int) < (x0n : Nat)) ∧ (ptrN x0a fun b_4 o_5 => (ldL (HP.cellN hp b_4 (o_5 + Int.toNat x1 * 2) 2) fun l_6 => (fnV x4 fun f_7 ga_8 gb_9 => (CF Try.prog f_7 (ga_8 ++ [(Value.agg ⟨l_3⟩), (Value.agg ⟨l_6⟩)] ++ gb_9) hp fun u_10 h_11 => (intV u_10 .i64 fun i_12 => (ite2 (decide ((i_12 : Int) < 0)) (ptrN x3 fun b_13 o_14 => (ldV (HP.cell h_11 b_13 o_14) fun v_15 => (intV v_15 .i64 fun i_16 => (ptrN x3 fun b_17 o_18 => (HP.st h_11 b_17 o_18 (Value.int .i64 (IntKind.wrap .i64 (i_16 + 1))) fun h_19 => (K (.tuple ⟨[(Value.int .i64 x2), (Value.int .i64 x1)]⟩) h_19)))))) (K (.tuple ⟨[(Value.int .i64 x1), (Value.int .i64 x2)]⟩) h_11)))))))))))
noncomputable def F189_code : Code := (.seq (.region 0 (opsAt Try.f189 [0]) false) (.seq (.seq (.region 1 (opsAt Try.f189 [1, 0, 0]) true) (.cond (.tmp 22) (.seq (.region 2 (opsAt Try.f189 [1, 0, 1, 0, 0]) false) (.seq (.region 3 (opsAt Try.f189 [1, 0, 1, 0, 1, 0]) false) .ret)) .skip)) (.seq (.region 4 (opsAt Try.f189 [1, 1, 0]) false) .ret)))
theorem F189_body : Try.f189.body = some F189_code := by kernel_rfl
theorem F189_ok (x0a : Option Addr) (x0n : Nat) (x0c : Nat) (x1 : Int) (x2 : Int) (x3 : Option Addr) (x4 : Value) (hp : HP) (K : Value → HP → Prop) (h : F189 x0a x0n x0c x1 x2 x3 x4 hp K) : CF Try.prog 189 [(Value.slice x0a x0n x0c), (Value.int .i64 x1), (Value.int .i64 x2), (Value.pointer x3), x4] hp K := by
 refine .inl ⟨by kernel_rfl, AC.intro (N := 32) Try.func189 F189_body rfl (Nat.le_of_ble_eq_true rfl) ?_⟩
 unfold F189 at h
 unfold F189_code
 refine AWP.seq' ?_
 refine AWP.rgn (F189_r0 (upd (upd (upd (upd (upd E0 4 (sV x4)) 3 (sV (Value.pointer x3))) 2 (sI (x2))) 1 (sI (x1))) 0 (sV (Value.slice x0a x0n x0c)))  hp _) ?_ (Rv 0 _ (Rv 1 _ (Rv 2 _ (Rv 3 _ (Rv 4 _ (Rn)))))) (Sc rfl (Sc rfl (Sc rfl (Sc rfl (Sc rfl (Sn)))))) (Sn)
 refine AWP.seq' ?_
 refine AWP.seq' ?_
 refine AWP.rgnD (by kernel_rfl) (by kernel_rfl) (F189_r1 (upd E0 3 (sV (Value.pointer x3))) x0a x0n x0c x1 x2 x4 hp _) ?_ (Rv 0 _ (Rv 1 _ (Rv 2 _ (Rv 4 _ (Rv 3 _ (Rn)))))) (Sc rfl (Sc rfl (Sc rfl (Sc rfl (Sc rfl (Sn)))))) (Sn)
 refine ⟨h.1, h.2.1, ?_⟩
 replace h := h.2.2
 refine ptrN_mono h (fun b_1 o_2 h => ?_)
 refine ldL_mono h (fun l_3 h => ?_)
 refine ⟨h.1, h.2.1, ?_⟩
 replace h := h.2.2
 refine ptrN_mono h (fun b_4 o_5 h => ?_)
 refine ldL_mono h (fun l_6 h => ?_)
 refine fnV_mono h (fun f_7 ga_8 gb_9 h => ?_)
 refine CF_mono h (fun u_10 h_11 h => ?_)
 refine intV_mono h (fun i_12 h => ?_)
 refine AWP.cond (t := (decide ((i_12 : Int) < 0))) rfl (fun e => ?_) (fun e => ?_)
 ·replace h := ite2_t h e
  refine AWP.seq' ?_
  refine AWP.rgn (F189_r2 (upd (upd E0 2 (sI (x2))) 1 (sI (x1))) x3 h_11 _) ?_ (Rv 3 _ (Rv 1 _ (Rv 2 _ (Rn)))) (Sc rfl (Sc rfl (Sc rfl (Sn)))) (Sn)
  refine ptrN_mono h (fun b_13 o_14 h => ?_)
  refine ldV_mono h (fun v_15 h => ?_)
  refine intV_mono h (fun i_16 h => ?_)
  refine ptrN_mono h (fun b_17 o_18 h => ?_)
  refine st_mono h (fun h_19 h => ?_)
  refine AWP.seq' ?_
  refine AWP.rgn (F189_r3 E0 x1 x2 h_19 _) ?_ (Rv 1 _ (Rv 2 _ (Rn))) (Sc rfl (Sc rfl (Sn))) (Sn)
  refine AWP.ret ?_
  exact h
 ·replace h := ite2_f h e
  refine AWP.skip ?_
  refine AWP.seq' ?_
  refine AWP.rgn (F189_r4 E0 x1 x2 h_11 _) ?_ (Rv 1 _ (Rv 2 _ (Rn))) (Sc rfl (Sc rfl (Sn))) (Sn)
  refine AWP.ret ?_
  exact h
-- 175 slices.medianCmpFunc[interpreter/expiry.thing]
theorem F175_r0 (e : Env) (hp : HP) (K : Env → PV → HP → Prop) : RW Try.prog 41 [] (opsAt Try.f175 [0]) (List.range 1) e V0 hp K =
    (K (upd e 12 (sI (0))) V0 hp) := by kernel_rfl
theorem F175_r1 (e : Env) (x0a : Option Addr) (x0n : Nat) (x0c : Nat) (x1 : Int) (x2 : Int) (x4 : Option Addr) (x5 : Value) (hp : HP) (K : Env → PV → HP → Prop) : RW Try.prog 41 [] (opsAt Try.f175 [1, 0]) (List.range 11) (upd (upd (upd (upd (upd e 5 (sV x5)) 4 (sV (Value.pointer x4))) 2 (sI (x2))) 1 (sI (x1))) 0 (sV (Value.slice x0a x0n x0c))) V0 hp K =
    (CF Try.prog 189 [(Value.slice x0a x0n x0c), (Value.int .i64 x1), (Value.int .i64 x2), (Value.pointer x4), x5] hp fun u1 h2 => (tup2V u1 fun u3 u4 => (intV u3 .i64 fun i5 => (intV u4 .i64 fun i6 => (K (upd (upd (upd (upd (upd (upd (upd (upd (upd (upd (upd (upd (upd (upd (upd (upd e 5 (sV x5)) 4 (sV (Value.pointer x4))) 2 (sI (x2))) 1 (sI (x1))) 0 (sV (Value.slice x0a x0n x0c))) 14 (sV (Value.slice x0a x0n x0c))) 15 (sI (x1))) 16 (sI (x2))) 17 (sV (Value.pointer x4))) 18 (sV x5)) 19 (sV (Value.tuple ⟨[(Value.int .i64 i5), (Value.int .i64 i6)]⟩))) 13 (sV (Value.tuple ⟨[(Value.int .i64 i5), (Value.int .i64 i6)]⟩))) 20 (sI (i5))) 21 (sI (i6))) 1 (sI (i5))) 2 (sI (i6))) V0 h2))))) := by kernel_rfl
theorem F175_r2 (e : Env) (x0a : Option Addr) (x0n : Nat) (x0c : Nat) (x2 : Int) (x3 : Int) (x4 : Option Addr) (x5 : Value) (hp : HP) (K : Env → PV → HP → Prop) : RW Try.prog 41 [] (opsAt Try.f175 [1, 1, 0]) (List.range 11) (upd (upd (upd (upd (upd e 5 (sV x5)) 4 (sV (Value.pointer x4))) 3 (sI (x3))) 2 (sI (x2))) 0 (sV (Value.slice x0a x0n x0c))) V0 hp K =
    (CF Try.prog 189 [(Value.slice x0a x0n x0c), (Value.int .i64 x2), (Value.int .i64 x3), (Value.pointer x4), x5] hp fun u1 h2 => (tup2V u1 fun u3 u4 => (intV u3 .i64 fun i5 => (intV u4 .i64 fun i6 => (K (upd (upd (upd (upd (upd (upd (upd (upd (upd (upd (upd (upd (upd (upd (upd (upd e 5 (sV x5)) 4 (sV (Value.pointer x4))) 3 (sI (x3))) 2 (sI (x2))) 0 (sV (Value.slice x0a x0n x0c))) 23 (sV (Value.slice x0a x0n x0c))) 24 (sI (x2))) 25 (sI (x3))) 26 (sV (Value.pointer x4))) 27 (sV x5)) 28 (sV (Value.tuple ⟨[(Value.int .i64 i5), (Value.int .i64 i6)]⟩))) 22 (sV (Value.tuple ⟨[(Value.int .i64 i5), (Value.int .i64 i6)]⟩))) 29 (sI (i5))) 30 (sI (i6))) 2 (sI (i5))) 3 (sI (i6))) V0 h2))))) := by kernel_rfl
theorem F175_r3 (e : Env) (x0a : Option Addr) (x0n : Nat) (x0c : Nat) (x1 : Int) (x2 : Int) (x4 : Option Addr) (x5 : Value) (hp : HP) (K : Env → PV → HP → Prop) : RW Try.prog 41 [] (opsAt Try.f175 [1, 1, 1, 0]) (List.range 11) (upd (upd (upd (upd (upd e 5 (sV x5)) 4 (sV (Value.pointer x4))) 2 (sI (x2))) 1 (sI (x1))) 0 (sV (Value.slice x0a x0n x0c))) V0 hp K =
    (CF Try.prog 189 [(Value.slice x0a x0n x0c), (Value.int .i64 x1), (Value.int .i64 x2), (Value.pointer x4), x5] hp fun u1 h2 => (tup2V u1 fun u3 u4 => (intV u3 .i64 fun i5 => (intV u4 .i64 fun i6 => (K (upd (upd (upd (upd (upd (upd (upd (upd (upd (upd (upd (upd (upd (upd (upd (upd e 5 (sV x5)) 4 (sV (Value.pointer x4))) 2 (sI (x2))) 1 (sI (x1))) 0 (sV (Value.slice x0a x0n x0c))) 32 (sV (Value.slice x0a x0n x0c))) 33 (sI (x1))) 34 (sI (x2))) 35 (sV (Value.pointer x4))) 36 (sV x5)) 37 (sV (Value.tuple ⟨[(Value.int .i64 i5), (Value.int .i64 i6)]⟩))) 31 (sV (Value.tuple ⟨[(Value.int .i64 i5), (Value.int .i64 i6)]⟩))) 38 (sI (i5))) 39 (sI (i6))) 1 (sI (i5))) 2 (sI (i6))) V0 h2))))) := by kernel_rfl
theorem F175_r4 (e : Env) (x2 : Int) (hp : HP) (K : Env → PV → HP → Prop) : RW Try.prog 41 [] (opsAt Try.f175 [1, 1, 1, 1, 0]) (List.range 2) (upd e 2 (sI (x2))) V0 hp K =
    (K (upd (upd (upd e 2 (sI (x2))) 40 (sI (x2))) 12 (sI (x2))) V0 hp) := by kernel_rfl
def F175 (x0a : Option Addr) (x0n : Nat) (x0c : Nat) (x1 : Int) (x2 : Int) (x3 : Int) (x4 : Option Addr) (x5 : Value) (hp : HP) (K : Value → HP → Prop) : Prop :=
  (CF Try.prog 189 [(Value.slice x0a x0n x0c), (Value.int .i64 x1), (Value.int .i64 x2), (Value.pointer x4), x5] hp fun u_1 h_2 => (tup2V u_1 fun u_3 u_4 => (intV u_3 .i64 fun i_5 => (intV u_4 .i64 fun i_6 => (CF Try.prog 189 [(Value.slice x0a x0n x0c), (Value.int .i64 i_6), (Value.int .i64 x3), (Value.pointer x4), x5] h_2 fun u_7 h_8 => (tup2V u_7 fun u_9 u_10 => (intV u_9 .i64 fun i_11 => (intV u_10 .i64 fun i_12 => (CF Try.prog 189 [(Value.slice x0a x0n x0c), (Value.int .i64 i_5), (Value.int .i64 i_11), (Value.pointer x4), x5] h_8 fun u_13 h_14 => (tup2V u_13 fun u_15 u_16 => (intV u_15 .i64 fun i_17 => (intV u_16 .i64 fun i_18 => (K (Value.int .i64 i_18) h_14)))))))))))))
noncomputable def F175_code : Code := (.seq (.region 0 (opsAt Try.f175 [0]) false) (.seq (.region 1 (opsAt Try.f175 [1, 0]) false) (.seq (.region 2 (opsAt Try.f175 [1, 1, 0]) false) (.seq (.region 3 (opsAt Try.f175 [1, 1, 1, 0]) false) (.seq (.region 4 (opsAt Try.f175 [1, 1, 1, 1, 0]) false) .ret)))))
theorem F175_body : Try.f175.body = some F175_code := by kernel_rfl
theorem F175_ok (x0a : Option Addr) (x0n : Nat) (x0c : Nat) (x1 : Int) (x2 : Int) (x3 : Int) (x4 : Option Addr) (x5 : Value) (hp : HP) (K : Value → HP → Prop) (h : F175 x0a x0n x0c x1 x2 x3 x4 x5 hp K) : CF Try.prog 175 [(Value.slice x0a x0n x0c), (Value.int .i64 x1), (Value.int .i64 x2), (Value.int .i64 x3), (Value.pointer x4), x5] hp K := by
 refine .inl ⟨by kernel_rfl, AC.intro (N := 41) Try.func175 F175_body rfl (Nat.le_of_ble_eq_true rfl) ?_⟩
 unfold F175 at h
 unfold F175_code
 refine AWP.seq' ?_
 refine AWP.rgn (F175_r0 (upd (upd (upd (upd (upd (upd E0 5 (sV x5)) 4 (sV (Value.pointer x4))) 3 (sI (x3))) 2 (sI (x2))) 1 (sI (x1))) 0 (sV (Value.slice x0a x0n x0c)))  hp _) ?_ (Rv 0 _ (Rv 1 _ (Rv 2 _ (Rv 3 _ (Rv 4 _ (Rv 5 _ (Rn))))))) (Sc rfl (Sc rfl (Sc rfl (Sc rfl (Sc rfl (Sc rfl (Sn))))))) (Sn)
 refine AWP.seq' ?_
 refine AWP.rgn (F175_r1 (upd E0 3 (sI (x3))) x0a x0n x0c x1 x2 x4 x5 hp _) ?_ (Rv 0 _ (Rv 1 _ (Rv 2 _ (Rv 4 _ (Rv 5 _ (Rv 3 _ (Rn))))))) (Sc rfl (Sc rfl (Sc rfl (Sc rfl (Sc rfl (Sc rfl (Sn))))))) (Sn)
 refine CF_mono h (fun u_1 h_2 h => ?_)
 refine tup2V_mono h (fun u_3 u_4 h => ?_)
 refine intV_mono h (fun i_5 h => ?_)
 refine intV_mono h (fun i_6 h => ?_)
 refine AWP.seq' ?_
 refine AWP.rgn (F175_r2 (upd E0 1 (sI (i_5))) x0a x0n x0c i_6 x3 x4 x5 h_2 _) ?_ (Rv 0 _ (Rv 2 _ (Rv 3 _ (Rv 4 _ (Rv 5 _ (Rv 1 _ (Rn))))))) (Sc rfl (Sc rfl (Sc rfl (Sc rfl (Sc rfl (Sc rfl (Sn))))))) (Sn)
 refine CF_mono h (fun u_7 h_8 h => ?_)
 refine tup2V_mono h (fun u_9 u_10 h => ?_)
 refine intV_mono h (fun i_11 h => ?_)
 refine intV_mono h (fun i_12 h => ?_)
 refine AWP.seq' ?_
 refine AWP.rgn (F175_r3 E0 x0a x0n x0c i_5 i_11 x4 x5 h_8 _) ?_ (Rv 0 _ (Rv 1 _ (Rv 2 _ (Rv 4 _ (Rv 5 _ (Rn)))))) (Sc rfl (Sc rfl (Sc rfl (Sc rfl (Sc rfl (Sn)))))) (Sn)
 refine CF_mono h (fun u_13 h_14 h => ?_)
 refine tup2V_mono h (fun u_15 u_16 h => ?_)
 refine intV_mono h (fun i_17 h => ?_)
 refine intV_mono h (fun i_18 h => ?_)
 refine AWP.seq' ?_
 refine AWP.rgn (F175_r4 E0 i_18 h_14 _) ?_ (Rv 2 _ (Rn)) (Sc rfl (Sn)) (Sn)
 refine AWP.ret ?_
 exact h
-- 174 slices.medianAdjacentCmpFunc[interpreter/expiry.thing]
theorem F174_r0 (e : Env) (hp : HP) (K : Env → PV → HP → Prop) : RW Try.prog 18 [] (opsAt Try.f174 [0]) (List.range 1) e V0 hp K =
    (K (upd e 8 (sI (0))) V0 hp) := by kernel_rfl
theorem F174_r1 (e : Env) (x0a : Option Addr) (x0n : Nat) (x0c : Nat) (x1 : Int) (x2 : Option Addr) (x3 : Value) (hp : HP) (K : Env → PV → HP → Prop) : RW Try.prog 18 [] (opsAt Try.f174 [1, 0]) (List.range 10) (upd (upd (upd (upd e 3 (sV x3)) 2 (sV (Value.pointer x2))) 1 (sI (x1))) 0 (sV (Value.slice x0a x0n x0c))) V0 hp K =
    (CF Try.prog 175 [(Value.slice x0a x0n x0c), (Value.int .i64 (IntKind.wrap .i64 (x1 - 1))), (Value.int .i64 x1), (Value.int .i64 (IntKind.wrap .i64 (x1 + 1))), (Value.pointer x2), x3] hp fun u1 h2 => (intV u1 .i64 fun i3 => (K (upd (upd (upd (upd (upd (upd (upd (upd (upd (upd (upd (upd (upd (upd e 3 (sV x3)) 2 (sV (Value.pointer x2))) 1 (sI (x1))) 0 (sV (Value.slice x0a x0n x0c))) 9 (sV (Value.slice x0a x0n x0c))) 10 (sI (x1))) 11 (sI ((IntKind.wrap .i64 (x1 - 1))))) 12 (sI (x1))) 13 (sI (x1))) 14 (sI ((IntKind.wrap .i64 (x1 + 1))))) 15 (sV (Value.pointer x2))) 16 (sV x3)) 17 (sI (i3))) 8 (sI (i3))) V0 h2))) := by kernel_rfl
def F174 (x0a : Option Addr) (x0n : Nat) (x0c : Nat) (x1 : Int) (x2 : Option Addr) (x3 : Value) (hp : HP) (K : Value → HP → Prop) : Prop :=
  (CF Try.prog 175 [(Value.slice x0a x0n x0c), (Value.int .i64 (IntKind.wrap .i64 (x1 - 1))), (Value.int .i64 x1), (Value.int .i64 (IntKind.wrap .i64 (x1 + 1))), (Value.pointer x2), x3] hp fun u_1 h_2 => (intV u_1 .i64 fun i_3 => (K (Value.int .i64 i_3) h_2)))
noncomputable def F174_code : Code := (.seq (.region 0 (opsAt Try.f174 [0]) false) (.seq (.region 1 (opsAt Try.f174 [1, 0]) false) .ret))
theorem F174_body : Try.f174.body = some F174_code := by kernel_rfl
theorem F174_ok (x0a : Option Addr) (x0n : Nat) (x0c : Nat) (x1 : Int) (x2 : Option Addr) (x3 : Value) (hp : HP) (K : Value → HP → Prop) (h : F174 x0a x0n x0c x1 x2 x3 hp K) : CF Try.prog 174 [(Value.slice x0a x0n x0c), (Value.int .i64 x1), (Value.pointer x2), x3] hp K := by
 refine .inl ⟨by kernel_rfl, AC.intro (N := 18) Try.func174 F174_body rfl (Nat.le_of_ble_eq_true rfl) ?_⟩
 unfold F174 at h
 unfold F174_code
 refine AWP.seq' ?_
 refine AWP.rgn (F174_r0 (upd (upd (upd (upd E0 3 (sV x3)) 2 (sV (Value.pointer x2))) 1 (sI (x1))) 0 (sV (Value.slice x0a x0n x0c)))  hp _) ?_ (Rv 0 _ (Rv 1 _ (Rv 2 _ (Rv 3 _ (Rn))))) (Sc rfl (Sc rfl (Sc rfl (Sc rfl (Sn))))) (Sn)
 refine AWP.seq' ?_
 refine AWP.rgn (F174_r1 E0 x0a x0n x0c x1 x2 x3 hp _) ?_ (Rv 0 _ (Rv 1 _ (Rv 2 _ (Rv 3 _ (Rn))))) (Sc rfl (Sc rfl (Sc rfl (Sc rfl (Sn))))) (Sn)
 refine CF_mono h (fun u_1 h_2 h => ?_)
 refine intV_mono h (fun i_3 h => ?_)
 refine AWP.ret ?_
 exact h
-- 149 slices.choosePivotCmpFunc[interpreter/expiry.thing]
theorem F149_r0 (e : Env) (hp : HP) (K : Env → PV → HP → Prop) : RW Try.prog 63 [] (opsAt Try.f149 [0]) (List.range 2) e V0 hp K =
    (K (upd (upd e 8 (sI (0))) 9 (sI (0))) V0 hp) := by kernel_rfl
theorem F149_r1 (e : Env) (x1 : Int) (x2 : Int) (hp : HP) (K : Env → PV → HP → Prop) : RW Try.prog 63 [] (opsAt Try.f149 [1, 0]) (List.range 4) (upd (upd e 2 (sI (x2))) 1 (sI (x1))) V0 hp K =
    (K (upd (upd (upd (upd (upd (upd e 2 (sI (x2))) 1 (sI (x1))) 15 (sI (x2))) 16 (sI (x1))) 17 (sI ((IntKind.wrap .i64 (x2 - x1))))) 10 (sI ((IntKind.wrap .i64 (x2 - x1))))) V0 hp) := by kernel_rfl
theorem F149_r2 (e : Env) (hp : HP) (K : Env → PV → HP → Prop) : RW Try.prog 63 [] (opsAt Try.f149 [1, 1, 0]) (List.range 1) e V0 hp K =
    (∀ b1 : Nat, hp b1 = .none → (K (upd e 11 (sV (ptr b1 0))) V0 (HP.set hp b1 (.cells 3 [(Value.int .i64 0)] 0)))) := by kernel_rfl
theorem F149_r3 (e : Env) (x1 : Int) (x10 : Int) (hp : HP) (K : Env → PV → HP → Prop) : RW Try.prog 63 [] (opsAt Try.f149 [1, 1, 1, 0]) (List.range 6) (upd (upd e 10 (sI (x10))) 1 (sI (x1))) V0 hp K =
    (((4 : Int) ≠ 0) ∧ (K (upd (upd (upd (upd (upd (upd (upd (upd e 10 (sI (x10))) 1 (sI (x1))) 18 (sI (x1))) 19 (sI (x10))) 20 (sI ((IntKind.wrap .i64 (Int.tdiv x10 4))))) 21 (sI ((IntKind.wrap .i64 ((IntKind.wrap .i64 (Int.tdiv x10 4)) * 1))))) 22 (sI ((IntKind.wrap .i64 (x1 + (IntKind.wrap .i64 ((IntKind.wrap .i64 (Int.tdiv x10 4)) * 1))))))) 12 (sI ((IntKind.wrap .i64 (x1 + (IntKind.wrap .i64 ((IntKind.wrap .i64 (Int.tdiv x10 4)) * 1))))))) V0 hp)) := by kernel_rfl
theorem F149_r4 (e : Env) (x1 : Int) (x10 : Int) (hp : HP) (K : Env → PV → HP → Prop) : RW Try.prog 63 [] (opsAt Try.f149 [1, 1, 1, 1, 0]) (List.range 6) (upd (upd e 10 (sI (x10))) 1 (sI (x1))) V0 hp K =
    (((4 : Int) ≠ 0) ∧ (K (upd (upd (upd (upd (upd (upd (upd (upd e 10 (sI (x10))) 1 (sI (x1))) 23 (sI (x1))) 24 (sI (x10))) 25 (sI ((IntKind.wrap .i64 (Int.tdiv x10 4))))) 26 (sI ((IntKind.wrap .i64 ((IntKind.wrap .i64 (Int.tdiv x10 4)) * 2))))) 27 (sI ((IntKind.wrap .i64 (x1 + (IntKind.wrap .i64 ((IntKind.wrap .i64 (Int.tdiv x10 4)) * 2))))))) 13 (sI ((IntKind.wrap .i64 (x1 + (IntKind.wrap .i64 ((IntKind.wrap .i64 (Int.tdiv x10 4)) * 2))))))) V0 hp)) := by kernel_rfl
theorem F149_r5 (e : Env) (x1 : Int) (x10 : Int) (hp : HP) (K : Env → PV → HP → Prop) : RW Try.prog 63 [] (opsAt Try.f149 [1, 1, 1, 1, 1, 0]) (List.range 6) (upd (upd e 10 (sI (x10))) 1 (sI (x1))) V0 hp K =
    (((4 : Int) ≠ 0) ∧ (K (upd (upd (upd (upd (upd (upd (upd (upd e 10 (sI (x10))) 1 (sI (x1))) 28 (sI (x1))) 29 (sI (x10))) 30 (sI ((IntKind.wrap .i64 (Int.tdiv x10 4))))) 31 (sI ((IntKind.wrap .i64 ((IntKind.wrap .i64 (Int.tdiv x10 4)) * 3))))) 32 (sI ((IntKind.wrap .i64 (x1 + (IntKind.wrap .i64 ((IntKind.wrap .i64 (Int.tdiv x10 4)) * 3))))))) 14 (sI ((IntKind.wrap .i64 (x1 + (IntKind.wrap .i64 ((IntKind.wrap .i64 (Int.tdiv x10 4)) * 3))))))) V0 hp)) := by kernel_rfl
theorem F149_r6 (e : Env) (x11 : Option Addr) (hp : HP) (K : Env → PV → HP → Prop) : RW Try.prog 63 [] (opsAt Try.f149 [1, 1, 1, 1, 1, 1, 1, 0]) (List.range 1) (upd e 11 (sV (Value.pointer x11))) V0 hp K =
    (ptrN x11 fun b1 o2 => (ldV (HP.cell hp b1 o2) fun v3 => (intV v3 .i64 fun i4 => (K (upd (upd e 11 (sV (Value.pointer x11))) 55 (sI (i4))) V0 hp)))) := by kernel_rfl
theorem F149_r7 (e : Env) (x55 : Int) (hp : HP) (K : Env → PV → HP → Prop) : RW Try.prog 63 [] (opsAt Try.f149 [1, 1, 1, 1, 1, 1, 1, 1, 0, 0]) (List.range 2) (upd e 55 (sI (x55))) V0 hp K =
    (K (upd (upd (upd e 55 (sI (x55))) 58 (sB (((x55 : Int) == 0)))) 57 (sB (((x55 : Int) == 0)))) V0 hp) := by kernel_rfl
theorem F149_r8 (e : Env) (x13 : Int) (hp : HP) (K : Env → PV → HP → Prop) : RW Try.prog 63 [] (opsAt Try.f149 [1, 1, 1, 1, 1, 1, 1, 1, 0, 1, 0, 0]) (List.range 3) (upd e 13 (sI (x13))) V0 hp K =
    (K (upd (upd (upd (upd e 13 (sI (x13))) 59 (sI (x13))) 8 (sI (x13))) 9 (sI (1))) V0 hp) := by kernel_rfl
theorem F149_r9 (e : Env) (x55 : Int) (hp : HP) (K : Env → PV → HP → Prop) : RW Try.prog 63 [] (opsAt Try.f149 [1, 1, 1, 1, 1, 1, 1, 1, 0, 1, 1, 0]) (List.range 2) (upd e 55 (sI (x55))) V0 hp K =
    (K (upd (upd (upd e 55 (sI (x55))) 61 (sB (((x55 : Int) == 12)))) 60 (sB (((x55 : Int) == 12)))) V0 hp) := by kernel_rfl
theorem F149_r10 (e : Env) (x13 : Int) (hp : HP) (K : Env → PV → HP → Prop) : RW Try.prog 63 [] (opsAt Try.f149 [1, 1, 1, 1, 1, 1, 1, 1, 0, 1, 1, 1, 0, 0]) (List.range 3) (upd e 13 (sI (x13))) V0 hp K =
    (K (upd (upd (upd (upd e 13 (sI (x13))) 62 (sI (x13))) 8 (sI (x13))) 9 (sI (2))) V0 hp) := by kernel_rfl
theorem F149_r11 (e : Env) (x13 : Int) (hp : HP) (K : Env → PV → HP → Prop) : RW Try.prog 63 [] (opsAt Try.f149 [1, 1, 1, 1, 1, 1, 1, 1, 0, 1, 1, 1, 1, 0]) (List.range 3) (upd e 13 (sI (x13))) V0 hp K =
    (K (upd (upd (upd (upd e 13 (sI (x13))) 56 (sI (x13))) 8 (sI (x13))) 9 (sI (0))) V0 hp) := by kernel_rfl
def F149_j1 (x11 : Option Addr) (x13 : Int) (hp : HP) (K : Value → HP → Prop) : Prop :=
  (ptrN x11 fun b_2 o_3 => (ldV (HP.cell hp b_2 o_3) fun v_4 => (intV v_4 .i64 fun i_5 => (ite2 ((i_5 : Int) == 0) (K (.tuple ⟨[(Value.int .i64 x13), (Value.int .i64 1)]⟩) hp) (ite2 ((i_5 : Int) == 12) (K (.tuple ⟨[(Value.int .i64 x13), (Value.int .i64 2)]⟩) hp) (K (.tuple ⟨[(Value.int .i64 x13), (Value.int .i64 0)]⟩) hp))))))
theorem F149_r12 (e : Env) (x10 : Int) (hp : HP) (K : Env → PV → HP → Prop) : RW Try.prog 63 [] (opsAt Try.f149 [1, 1, 1, 1, 1, 1, 0, 0]) (List.range 2) (upd e 10 (sI (x10))) V0 hp K =
    (K (upd (upd (upd e 10 (sI (x10))) 33 (sI (x10))) 34 (sB ((decide ((x10 : Int) ≥ 8))))) V0 hp) := by kernel_rfl
theorem F149_r13 (e : Env) (x0a : Option Addr) (x0n : Nat) (x0c : Nat) (x3 : Value) (x11 : Option Addr) (x12 : Int) (x13 : Int) (x14 : Int) (hp : HP) (K : Env → PV → HP → Prop) : RW Try.prog 63 [] (opsAt Try.f149 [1, 1, 1, 1, 1, 1, 0, 1, 0, 1]) (List.range 7) (upd (upd (upd (upd (upd (upd e 14 (sI (x14))) 13 (sI (x13))) 12 (sI (x12))) 11 (sV (Value.pointer x11))) 3 (sV x3)) 0 (sV (Value.slice x0a x0n x0c))) V0 hp K =
    (CF Try.prog 175 [(Value.slice x0a x0n x0c), (Value.int .i64 x12), (Value.int .i64 x13), (Value.int .i64 x14), (Value.pointer x11), x3] hp fun u1 h2 => (intV u1 .i64 fun i3 => (K (upd (upd (upd (upd (upd (upd (upd (upd (upd (upd (upd (upd (upd e 14 (sI (x14))) 13 (sI (x13))) 12 (sI (x12))) 11 (sV (Value.pointer x11))) 3 (sV x3)) 0 (sV (Value.slice x0a x0n x0c))) 49 (sV (Value.slice x0a x0n x0c))) 50 (sI (x12))) 51 (sI (x13))) 52 (sI (x14))) 53 (sV x3)) 54 (sI (i3))) 13 (sI (i3))) V0 h2))) := by kernel_rfl
def F149_j2 (x0a : Option Addr) (x0n : Nat) (x0c : Nat) (x3 : Value) (x11 : Option Addr) (x12 : Int) (x13 : Int) (x14 : Int) (hp : HP) (K : Value → HP → Prop) : Prop :=
  (CF Try.prog 175 [(Value.slice x0a x0n x0c), (Value.int .i64 x12), (Value.int .i64 x13), (Value.int .i64 x14), (Value.pointer x11), x3] hp fun u_6 h_7 => (intV u_6 .i64 fun i_8 => (F149_j1 x11 i_8 h_7  K)))
theorem F149_r14 (e : Env) (x10 : Int) (hp : HP) (K : Env → PV → HP → Prop) : RW Try.prog 63 [] (opsAt Try.f149 [1, 1, 1, 1, 1, 1, 0, 1, 0, 0, 0]) (List.range 2) (upd e 10 (sI (x10))) V0 hp K =
    (K (upd (upd (upd e 10 (sI (x10))) 35 (sI (x10))) 36 (sB ((decide ((x10 : Int) ≥ 50))))) V0 hp) := by kernel_rfl
theorem F149_r15 (e : Env) (x0a : Option Addr) (x0n : Nat) (x0c : Nat) (x3 : Value) (x11 : Option Addr) (x12 : Int) (hp : HP) (K : Env → PV → HP → Prop) : RW Try.prog 63 [] (opsAt Try.f149 [1, 1, 1, 1, 1, 1, 0, 1, 0, 0, 1, 0, 0]) (List.range 5) (upd (upd (upd (upd e 12 (sI (x12))) 11 (sV (Value.pointer x11))) 3 (sV x3)) 0 (sV (Value.slice x0a x0n x0c))) V0 hp K =
    (CF Try.prog 174 [(Value.slice x0a x0n x0c), (Value.int .i64 x12), (Value.pointer x11), x3] hp fun u1 h2 => (intV u1 .i64 fun i3 => (K (upd (upd (upd (upd (upd (upd (upd (upd (upd e 12 (sI (x12))) 11 (sV (Value.pointer x11))) 3 (sV x3)) 0 (sV (Value.slice x0a x0n x0c))) 37 (sV (Value.slice x0a x0n x0c))) 38 (sI (x12))) 39 (sV x3)) 40 (sI (i3))) 12 (sI (i3))) V0 h2))) := by kernel_rfl
theorem F149_r16 (e : Env) (x0a : Option Addr) (x0n : Nat) (x0c : Nat) (x3 : Value) (x11 : Option Addr) (x13 : Int) (hp : HP) (K : Env → PV → HP → Prop) : RW Try.prog 63 [] (opsAt Try.f149 [1, 1, 1, 1, 1, 1, 0, 1, 0, 0, 1, 0, 1, 0]) (List.range 5) (upd (upd (upd (upd e 13 (sI (x13))) 11 (sV (Value.pointer x11))) 3 (sV x3)) 0 (sV (Value.slice x0a x0n x0c))) V0 hp K =
    (CF Try.prog 174 [(Value.slice x0a x0n x0c), (Value.int .i64 x13), (Value.pointer x11), x3] hp fun u1 h2 => (intV u1 .i64 fun i3 => (K (upd (upd (upd (upd (upd (upd (upd (upd (upd e 13 (sI (x13))) 11 (sV (Value.pointer x11))) 3 (sV x3)) 0 (sV (Value.slice x0a x0n x0c))) 41 (sV (Value.slice x0a x0n x0c))) 42 (sI (x13))) 43 (sV x3)) 44 (sI (i3))) 13 (sI (i3))) V0 h2))) := by kernel_rfl
theorem F149_r17 (e : Env) (x0a : Option Addr) (x0n : Nat) (x0c : Nat) (x3 : Value) (x11 : Option Addr) (x14 : Int) (hp : HP) (K : Env → PV → HP → Prop) : RW Try.prog 63 [] (opsAt Try.f149 [1, 1, 1, 1, 1, 1, 0, 1, 0, 0, 1, 0, 1, 1]) (List.range 5) (upd (upd (upd (upd e 14 (sI (x14))) 11 (sV (Value.pointer x11))) 3 (sV x3)) 0 (sV (Value.slice x0a x0n x0c))) V0 hp K =
    (CF Try.prog 174 [(Value.slice x0a x0n x0c), (Value.int .i64 x14), (Value.pointer x11), x3] hp fun u1 h2 => (intV u1 .i64 fun i3 => (K (upd (upd (upd (upd (upd (upd (upd (upd (upd e 14 (sI (x14))) 11 (sV (Value.pointer x11))) 3 (sV x3)) 0 (sV (Value.slice x0a x0n x0c))) 45 (sV (Value.slice x0a x0n x0c))) 46 (sI (x14))) 47 (sV x3)) 48 (sI (i3))) 14 (sI (i3))) V0 h2))) := by kernel_rfl
def F149 (x0a : Option Addr) (x0n : Nat) (x0c : Nat) (x1 : Int) (x2 : Int) (x3 : Value) (hp : HP) (K : Value → HP → Prop) : Prop :=
  (∀ b_1 : Nat, hp b_1 = .none → (((4 : Int) ≠ 0) ∧ (((4 : Int) ≠ 0) ∧ (((4 : Int) ≠ 0) ∧ (ite2 (decide (((IntKind.wrap .i64 (x2 - x1)) : Int) ≥ 8)) (ite2 (decide (((IntKind.wrap .i64 (x2 - x1)) : Int) ≥ 50)) (CF Try.prog 174 [(Value.slice x0a x0n x0c), (Value.int .i64 (IntKind.wrap .i64 (x1 + (IntKind.wrap .i64 ((IntKind.wrap .i64 (Int.tdiv (IntKind.wrap .i64 (x2 - x1)) 4)) * 1))))), (Value.pointer (some ⟨b_1, 0, none⟩)), x3] (HP.set hp b_1 (.cells 3 [(Value.int .i64 0)] 0)) fun u_9 h_10 => (intV u_9 .i64 fun i_11 => (CF Try.prog 174 [(Value.slice x0a x0n x0c), (Value.int .i64 (IntKind.wrap .i64 (x1 + (IntKind.wrap .i64 ((IntKind.wrap .i64 (Int.tdiv (IntKind.wrap .i64 (x2 - x1)) 4)) * 2))))), (Value.pointer (some ⟨b_1, 0, none⟩)), x3] h_10 fun u_12 h_13 => (intV u_12 .i64 fun i_14 => (CF Try.prog 174 [(Value.slice x0a x0n x0c), (Value.int .i64 (IntKind.wrap .i64 (x1 + (IntKind.wrap .i64 ((IntKind.wrap .i64 (Int.tdiv (IntKind.wrap .i64 (x2 - x1)) 4)) * 3))))), (Value.pointer (some ⟨b_1, 0, none⟩)), x3] h_13 fun u_15 h_16 => (intV u_15 .i64 fun i_17 => (F149_j2 x0a x0n x0c x3 (some ⟨b_1, 0, none⟩) i_11 i_14 i_17 h_16  K))))))) (F149_j2 x0a x0n x0c x3 (some ⟨b_1, 0, none⟩) (IntKind.wrap .i64 (x1 + (IntKind.wrap .i64 ((IntKind.wrap .i64 (Int.tdiv (IntKind.wrap .i64 (x2 - x1)) 4)) * 1)))) (IntKind.wrap .i64 (x1 + (IntKind.wrap .i64 ((IntKind.wrap .i64 (Int.tdiv (IntKind.wrap .i64 (x2 - x1)) 4)) * 2)))) (IntKind.wrap .i64 (x1 + (IntKind.wrap .i64 ((IntKind.wrap .i64 (Int.tdiv (IntKind.wrap .i64 (x2 - x1)) 4)) * 3)))) (HP.set hp b_1 (.cells 3 [(Value.int .i64 0)] 0))  K)) (F149_j1 (some ⟨b_1, 0, none⟩) (IntKind.wrap .i64 (x1 + (IntKind.wrap .i64 ((IntKind.wrap .i64 (Int.tdiv (IntKind.wrap .i64 (x2 - x1)) 4)) * 2)))) (HP.set hp b_1 (.cells 3 [(Value.int .i64 0)] 0))  K))))))
noncomputable def F149_code : Code := (.seq (.region 0 (opsAt Try.f149 [0]) false) (.seq (.region 1 (opsAt Try.f149 [1, 0]) false) (.seq (.region 2 (opsAt Try.f149 [1, 1, 0]) false) (.seq (.region 3 (opsAt Try.f149 [1, 1, 1, 0]) false) (.seq (.region 4 (opsAt Try.f149 [1, 1, 1, 1, 0]) false) (.seq (.region 5 (opsAt Try.f149 [1, 1, 1, 1, 1, 0]) false) (.seq (.seq (.region 6 (opsAt Try.f149 [1, 1, 1, 1, 1, 1, 0, 0]) false) (.cond (.tmp 34) (.seq (.seq (.region 7 (opsAt Try.f149 [1, 1, 1, 1, 1, 1, 0, 1, 0, 0, 0]) false) (.cond (.tmp 36) (.seq (.region 8 (opsAt Try.f149 [1, 1, 1, 1, 1, 1, 0, 1, 0, 0, 1, 0, 0]) false) (.seq (.region 9 (opsAt Try.f149 [1, 1, 1, 1, 1, 1, 0, 1, 0, 0, 1, 0, 1, 0]) false) (.region 10 (opsAt Try.f149 [1, 1, 1, 1, 1, 1, 0, 1, 0, 0, 1, 0, 1, 1]) false))) .skip)) (.region 11 (opsAt Try.f149 [1, 1, 1, 1, 1, 1, 0, 1, 0, 1]) false)) .skip)) (.seq (.region 12 (opsAt Try.f149 [1, 1, 1, 1, 1, 1, 1, 0]) false) (.block 0 (.seq (.region 14 (opsAt Try.f149 [1, 1, 1, 1, 1, 1, 1, 1, 0, 0]) false) (.cond (.tmp 57) (.seq (.region 15 (opsAt Try.f149 [1, 1, 1, 1, 1, 1, 1, 1, 0, 1, 0, 0]) false) .ret) (.seq (.region 16 (opsAt Try.f149 [1, 1, 1, 1, 1, 1, 1, 1, 0, 1, 1, 0]) false) (.cond (.tmp 60) (.seq (.region 17 (opsAt Try.f149 [1, 1, 1, 1, 1, 1, 1, 1, 0, 1, 1, 1, 0, 0]) false) .ret) (.seq (.region 13 (opsAt Try.f149 [1, 1, 1, 1, 1, 1, 1, 1, 0, 1, 1, 1, 1, 0]) false) .ret))))))))))))))
theorem F149_body : Try.f149.body = some F149_code := by kernel_rfl
theorem F149_ok (x0a : Option Addr) (x0n : Nat) (x0c : Nat) (x1 : Int) (x2 : Int) (x3 : Value) (hp : HP) (K : Value → HP → Prop) (h : F149 x0a x0n x0c x1 x2 x3 hp K) : CF Try.prog 149 [(Value.slice x0a x0n x0c), (Value.int .i64 x1), (Value.int .i64 x2), x3] hp K := by
 refine .inl ⟨by kernel_rfl, AC.intro (N := 63) Try.func149 F149_body rfl (Nat.le_of_ble_eq_true rfl) ?_⟩
 unfold F149 at h
 unfold F149_code
 refine AWP.seq' ?_
 refine AWP.rgn (F149_r0 (upd (upd (upd (upd E0 3 (sV x3)) 2 (sI (x2))) 1 (sI (x1))) 0 (sV (Value.slice x0a x0n x0c)))  hp _) ?_ (Rv 0 _ (Rv 1 _ (Rv 2 _ (Rv 3 _ (Rn))))) (Sc rfl (Sc rfl (Sc rfl (Sc rfl (Sn))))) (Sn)
 refine AWP.seq' ?_
 refine AWP.rgn (F149_r1 (upd (upd E0 3 (sV x3)) 0 (sV (Value.slice x0a x0n x0c))) x1 x2 hp _) ?_ (Rv 1 _ (Rv 2 _ (Rv 0 _ (Rv 3 _ (Rn))))) (Sc rfl (Sc rfl (Sc rfl (Sc rfl (Sn))))) (Sn)
 refine AWP.seq' ?_
 refine AWP.rgn (F149_r2 (upd (upd (upd (upd E0 10 (sI ((IntKind.wrap .i64 (x2 - x1))))) 3 (sV x3)) 1 (sI (x1))) 0 (sV (Value.slice x0a x0n x0c)))  hp _) ?_ (Rv 0 _ (Rv 1 _ (Rv 3 _ (Rv 10 _ (Rn))))) (Sc rfl (Sc rfl (Sc rfl (Sc rfl (Sn))))) (Sn)
 refine fun b_1 hb_b_1 => ?_
 replace h := h b_1 hb_b_1
 refine AWP.seq' ?_
 refine AWP.rgn (F149_r3 (upd (upd (upd E0 11 (sV (Value.pointer (some ⟨b_1, 0, none⟩)))) 3 (sV x3)) 0 (sV (Value.slice x0a x0n x0c))) x1 (IntKind.wrap .i64 (x2 - x1)) (HP.set hp b_1 (.cells 3 [(Value.int .i64 0)] 0)) _) ?_ (Rv 1 _ (Rv 10 _ (Rv 0 _ (Rv 3 _ (Rv 11 _ (Rn)))))) (Sc rfl (Sc rfl (Sc rfl (Sc rfl (Sc rfl (Sn)))))) (Sn)
 refine ⟨h.1, ?_⟩
 replace h := h.2
 refine AWP.seq' ?_
 refine AWP.rgn (F149_r4 (upd (upd (upd (upd E0 12 (sI ((IntKind.wrap .i64 (x1 + (IntKind.wrap .i64 ((IntKind.wrap .i64 (Int.tdiv (IntKind.wrap .i64 (x2 - x1)) 4)) * 1))))))) 11 (sV (Value.pointer (some ⟨b_1, 0, none⟩)))) 3 (sV x3)) 0 (sV (Value.slice x0a x0n x0c))) x1 (IntKind.wrap .i64 (x2 - x1)) (HP.set hp b_1 (.cells 3 [(Value.int .i64 0)] 0)) _) ?_ (Rv 1 _ (Rv 10 _ (Rv 0 _ (Rv 3 _ (Rv 11 _ (Rv 12 _ (Rn))))))) (Sc rfl (Sc rfl (Sc rfl (Sc rfl (Sc rfl (Sc rfl (Sn))))))) (Sn)
 refine ⟨h.1, ?_⟩
 replace h := h.2
 refine AWP.seq' ?_
 refine AWP.rgn (F149_r5 (upd (upd (upd (upd (upd E0 13 (sI ((IntKind.wrap .i64 (x1 + (IntKind.wrap .i64 ((IntKind.wrap .i64 (Int.tdiv (IntKind.wrap .i64 (x2 - x1)) 4)) * 2))))))) 12 (sI ((IntKind.wrap .i64 (x1 + (IntKind.wrap .i64 ((IntKind.wrap .i64 (Int.tdiv (IntKind.wrap .i64 (x2 - x1)) 4)) * 1))))))) 11 (sV (Value.pointer (some ⟨b_1, 0, none⟩)))) 3 (sV x3)) 0 (sV (Value.slice x0a x0n x0c))) x1 (IntKind.wrap .i64 (x2 - x1)) (HP.set hp b_1 (.cells 3 [(Value.int .i64 0)] 0)) _) ?_ (Rv 1 _ (Rv 10 _ (Rv 0 _ (Rv 3 _ (Rv 11 _ (Rv 12 _ (Rv 13 _ (Rn)))))))) (Sc rfl (Sc rfl (Sc rfl (Sc rfl (Sc rfl (Sc rfl (Sc rfl (Sn)))))))) (Sn)
 refine ⟨h.1, ?_⟩
 replace h := h.2
 refine AWP.seq (fun env pv hp => ∃ (x11 : Option Addr) (x13 : Int), Sub (upd (upd E0 13 (sI (x13))) 11 (sV (Value.pointer x11))) env ∧ Sub V0 pv ∧ (F149_j1 x11 x13 hp  K)) ?_ ?_
 ·refine AWP.seq' ?_
  refine AWP.rgn (F149_r12 (upd (upd (upd (upd (upd (upd E0 14 (sI ((IntKind.wrap .i64 (x1 + (IntKind.wrap .i64 ((IntKind.wrap .i64 (Int.tdiv (IntKind.wrap .i64 (x2 - x1)) 4)) * 3))))))) 13 (sI ((IntKind.wrap .i64 (x1 + (IntKind.wrap .i64 ((IntKind.wrap .i64 (Int.tdiv (IntKind.wrap .i64 (x2 - x1)) 4)) * 2))))))) 12 (sI ((IntKind.wrap .i64 (x1 + (IntKind.wrap .i64 ((IntKind.wrap .i64 (Int.tdiv (IntKind.wrap .i64 (x2 - x1)) 4)) * 1))))))) 11 (sV (Value.pointer (some ⟨b_1, 0, none⟩)))) 3 (sV x3)) 0 (sV (Value.slice x0a x0n x0c))) (IntKind.wrap .i64 (x2 - x1)) (HP.set hp b_1 (.cells 3 [(Value.int .i64 0)] 0)) _) ?_ (Rv 10 _ (Rv 0 _ (Rv 3 _ (Rv 11 _ (Rv 12 _ (Rv 13 _ (Rv 14 _ (Rn)))))))) (Sc rfl (Sc rfl (Sc rfl (Sc rfl (Sc rfl (Sc rfl (Sc rfl (Sn)))))))) (Sn)
  refine AWP.cond (t := (decide (((IntKind.wrap .i64 (x2 - x1)) : Int) ≥ 8))) rfl (fun e => ?_) (fun e => ?_)
  ·replace h := ite2_t h e
   refine AWP.seq (fun env pv hp => ∃ (x0a : Option Addr) (x0n : Nat) (x0c : Nat) (x3 : Value) (x11 : Option Addr) (x12 : Int) (x13 : Int) (x14 : Int), Sub (upd (upd (upd (upd (upd (upd E0 14 (sI (x14))) 13 (sI (x13))) 12 (sI (x12))) 11 (sV (Value.pointer x11))) 3 (sV x3)) 0 (sV (Value.slice x0a x0n x0c))) env ∧ Sub V0 pv ∧ (F149_j2 x0a x0n x0c x3 x11 x12 x13 x14 hp  K)) ?_ ?_
   ·refine AWP.seq' ?_
    refine AWP.rgn (F149_r14 (upd (upd (upd (upd (upd (upd E0 14 (sI ((IntKind.wrap .i64 (x1 + (IntKind.wrap .i64 ((IntKind.wrap .i64 (Int.tdiv (IntKind.wrap .i64 (x2 - x1)) 4)) * 3))))))) 13 (sI ((IntKind.wrap .i64 (x1 + (IntKind.wrap .i64 ((IntKind.wrap .i64 (Int.tdiv (IntKind.wrap .i64 (x2 - x1)) 4)) * 2))))))) 12 (sI ((IntKind.wrap .i64 (x1 + (IntKind.wrap .i64 ((IntKind.wrap .i64 (Int.tdiv (IntKind.wrap .i64 (x2 - x1)) 4)) * 1))))))) 11 (sV (Value.pointer (some ⟨b_1, 0, none⟩)))) 3 (sV x3)) 0 (sV (Value.slice x0a x0n x0c))) (IntKind.wrap .i64 (x2 - x1)) (HP.set hp b_1 (.cells 3 [(Value.int .i64 0)] 0)) _) ?_ (Rv 10 _ (Rv 0 _ (Rv 3 _ (Rv 11 _ (Rv 12 _ (Rv 13 _ (Rv 14 _ (Rn)))))))) (Sc rfl (Sc rfl (Sc rfl (Sc rfl (Sc rfl (Sc rfl (Sc rfl (Sn)))))))) (Sn)
    refine AWP.cond (t := (decide (((IntKind.wrap .i64 (x2 - x1)) : Int) ≥ 50))) rfl (fun e => ?_) (fun e => ?_)
    ·replace h := ite2_t h e
     refine AWP.seq' ?_
     refine AWP.rgn (F149_r15 (upd (upd E0 14 (sI ((IntKind.wrap .i64 (x1 + (IntKind.wrap .i64 ((IntKind.wrap .i64 (Int.tdiv (IntKind.wrap .i64 (x2 - x1)) 4)) * 3))))))) 13 (sI ((IntKind.wrap .i64 (x1 + (IntKind.wrap .i64 ((IntKind.wrap .i64 (Int.tdiv (IntKind.wrap .i64 (x2 - x1)) 4)) * 2))))))) x0a x0n x0c x3 (some ⟨b_1, 0, none⟩) (IntKind.wrap .i64 (x1 + (IntKind.wrap .i64 ((IntKind.wrap .i64 (Int.tdiv (IntKind.wrap .i64 (x2 - x1)) 4)) * 1)))) (HP.set hp b_1 (.cells 3 [(Value.int .i64 0)] 0)) _) ?_ (Rv 0 _ (Rv 3 _ (Rv 11 _ (Rv 12 _ (Rv 13 _ (Rv 14 _ (Rn))))))) (Sc rfl (Sc rfl (Sc rfl (Sc rfl (Sc rfl (Sc rfl (Sn))))))) (Sn)
     refine CF_mono h (fun u_9 h_10 h => ?_)
     refine intV_mono h (fun i_11 h => ?_)
     refine AWP.seq' ?_
     refine AWP.rgn (F149_r16 (upd (upd E0 14 (sI ((IntKind.wrap .i64 (x1 + (IntKind.wrap .i64 ((IntKind.wrap .i64 (Int.tdiv (IntKind.wrap .i64 (x2 - x1)) 4)) * 3))))))) 12 (sI (i_11))) x0a x0n x0c x3 (some ⟨b_1, 0, none⟩) (IntKind.wrap .i64 (x1 + (IntKind.wrap .i64 ((IntKind.wrap .i64 (Int.tdiv (IntKind.wrap .i64 (x2 - x1)) 4)) * 2)))) h_10 _) ?_ (Rv 0 _ (Rv 3 _ (Rv 11 _ (Rv 13 _ (Rv 12 _ (Rv 14 _ (Rn))))))) (Sc rfl (Sc rfl (Sc rfl (Sc rfl (Sc rfl (Sc rfl (Sn))))))) (Sn)
     refine CF_mono h (fun u_12 h_13 h => ?_)
     refine intV_mono h (fun i_14 h => ?_)
     refine AWP.rgn (F149_r17 (upd (upd E0 13 (sI (i_14))) 12 (sI (i_11))) x0a x0n x0c x3 (some ⟨b_1, 0, none⟩) (IntKind.wrap .i64 (x1 + (IntKind.wrap .i64 ((IntKind.wrap .i64 (Int.tdiv (IntKind.wrap .i64 (x2 - x1)) 4)) * 3)))) h_13 _) ?_ (Rv 0 _ (Rv 3 _ (Rv 11 _ (Rv 14 _ (Rv 12 _ (Rv 13 _ (Rn))))))) (Sc rfl (Sc rfl (Sc rfl (Sc rfl (Sc rfl (Sc rfl (Sn))))))) (Sn)
     refine CF_mono h (fun u_15 h_16 h => ?_)
     refine intV_mono h (fun i_17 h => ?_)
     exact ⟨x0a, x0n, x0c, x3, (some ⟨b_1, 0, none⟩), i_11, i_14, i_17, (Sc rfl (Sc rfl (Sc rfl (Sc rfl (Sc rfl (Sc rfl (Sn))))))), (Sn), h⟩
    ·replace h := ite2_f h e
     refine AWP.skip ?_
     exact ⟨x0a, x0n, x0c, x3, (some ⟨b_1, 0, none⟩), (IntKind.wrap .i64 (x1 + (IntKind.wrap .i64 ((IntKind.wrap .i64 (Int.tdiv (IntKind.wrap .i64 (x2 - x1)) 4)) * 1)))), (IntKind.wrap .i64 (x1 + (IntKind.wrap .i64 ((IntKind.wrap .i64 (Int.tdiv (IntKind.wrap .i64 (x2 - x1)) 4)) * 2)))), (IntKind.wrap .i64 (x1 + (IntKind.wrap .i64 ((IntKind.wrap .i64 (Int.tdiv (IntKind.wrap .i64 (x2 - x1)) 4)) * 3)))), (Sc rfl (Sc rfl (Sc rfl (Sc rfl (Sc rfl (Sc rfl (Sn))))))), (Sn), h⟩
   ·rintro env pv hp ⟨x0a, x0n, x0c, x3, x11, x12, x13, x14, he, hv, h⟩
    refine AWP.sub (env' := (upd (upd (upd (upd (upd (upd E0 14 (sI (x14))) 13 (sI (x13))) 12 (sI (x12))) 11 (sV (Value.pointer x11))) 3 (sV x3)) 0 (sV (Value.slice x0a x0n x0c)))) (pv' := V0) ?_ (Rv 0 _ (Rv 3 _ (Rv 11 _ (Rv 12 _ (Rv 13 _ (Rv 14 _ (Rn))))))) he hv (HSub.refl _)
    clear he hv
    unfold F149_j2 at h
    refine AWP.rgn (F149_r13 E0 x0a x0n x0c x3 x11 x12 x13 x14 hp _) ?_ (Rv 0 _ (Rv 3 _ (Rv 11 _ (Rv 12 _ (Rv 13 _ (Rv 14 _ (Rn))))))) (Sc rfl (Sc rfl (Sc rfl (Sc rfl (Sc rfl (Sc rfl (Sn))))))) (Sn)
    refine CF_mono h (fun u_6 h_7 h => ?_)
    refine intV_mono h (fun i_8 h => ?_)
    exact ⟨x11, i_8, (Sc rfl (Sc rfl (Sn))), (Sn), h⟩
  ·replace h := ite2_f h e
   refine AWP.skip ?_
   exact ⟨(some ⟨b_1, 0, none⟩), (IntKind.wrap .i64 (x1 + (IntKind.wrap .i64 ((IntKind.wrap .i64 (Int.tdiv (IntKind.wrap .i64 (x2 - x1)) 4)) * 2)))), (Sc rfl (Sc rfl (Sn))), (Sn), h⟩
 ·rintro env pv hp ⟨x11, x13, he, hv, h⟩
  refine AWP.sub (env' := (upd (upd E0 13 (sI (x13))) 11 (sV (Value.pointer x11)))) (pv' := V0) ?_ (Rv 11 _ (Rv 13 _ (Rn))) he hv (HSub.refl _)
  clear he hv
  unfold F149_j1 at h
  refine AWP.seq' ?_
  refine AWP.rgn (F149_r6 (upd E0 13 (sI (x13))) x11 hp _) ?_ (Rv 11 _ (Rv 13 _ (Rn))) (Sc rfl (Sc rfl (Sn))) (Sn)
  refine ptrN_mono h (fun b_2 o_3 h => ?_)
  refine ldV_mono h (fun v_4 h => ?_)
  refine intV_mono h (fun i_5 h => ?_)
  refine AWP.block ?_
  refine AWP.seq' ?_
  refine AWP.rgn (F149_r7 (upd E0 13 (sI (x13))) i_5 hp _) ?_ (Rv 55 _ (Rv 13 _ (Rn))) (Sc rfl (Sc rfl (Sn))) (Sn)
  refine AWP.cond (t := ((i_5 : Int) == 0)) rfl (fun e => ?_) (fun e => ?_)
  ·replace h := ite2_t h e
   refine AWP.seq' ?_
   refine AWP.rgn (F149_r8 E0 x13 hp _) ?_ (Rv 13 _ (Rn)) (Sc rfl (Sn)) (Sn)
   refine AWP.ret ?_
   exact h
  ·replace h := ite2_f h e
   refine AWP.seq' ?_
   refine AWP.rgn (F149_r9 (upd E0 13 (sI (x13))) i_5 hp _) ?_ (Rv 55 _ (Rv 13 _ (Rn))) (Sc rfl (Sc rfl (Sn))) (Sn)
   refine AWP.cond (t := ((i_5 : Int) == 12)) rfl (fun e => ?_) (fun e => ?_)
   ·replace h := ite2_t h e
    refine AWP.seq' ?_
    refine AWP.rgn (F149_r10 E0 x13 hp _) ?_ (Rv 13 _ (Rn)) (Sc rfl (Sn)) (Sn)
    refine AWP.ret ?_
    exact h
   ·replace h := ite2_f h e
    refine AWP.seq' ?_
    refine AWP.rgn (F149_r11 E0 x13 hp _) ?_ (Rv 13 _ (Rn)) (Sc rfl (Sn)) (Sn)
    refine AWP.ret ?_
    exact h
-- 148 slices.breakPatternsCmpFunc[interpreter/expiry.thing]
theorem F148_r0 (e : Env) (x1 : Int) (x2 : Int) (hp : HP) (K : Env → PV → HP → Prop) : RW Try.prog 67 [] (opsAt Try.f148 [0]) (List.range 4) (upd (upd e 2 (sI (x2))) 1 (sI (x1))) V0 hp K =
    (K (upd (upd (upd (upd (upd (upd e 2 (sI (x2))) 1 (sI (x1))) 13 (sI (x2))) 14 (sI (x1))) 15 (sI ((IntKind.wrap .i64 (x2 - x1))))) 8 (sI ((IntKind.wrap .i64 (x2 - x1))))) V0 hp) := by kernel_rfl
theorem F148_r1 (e : Env) (x8 : Int) (hp : HP) (K : Env → PV → HP → Prop) : RW Try.prog 67 [] (opsAt Try.f148 [1, 0]) (List.range 2) (upd e 8 (sI (x8))) V0 hp K =
    (K (upd (upd (upd e 8 (sI (x8))) 16 (sI (x8))) 17 (sB ((decide ((x8 : Int) ≥ 8))))) V0 hp) := by kernel_rfl
theorem F148_r2 (e : Env) (x8 : Int) (hp : HP) (K : Env → PV → HP → Prop) : RW Try.prog 67 [] (opsAt Try.f148 [1, 1, 0, 0]) (List.range 4) (upd e 8 (sI (x8))) V0 hp K =
    (∀ b1 : Nat, hp b1 = .none → (HP.st (HP.set hp b1 (.cells 236 [(Value.int .u64 0)] 0)) b1 0 (Value.int .u64 (IntKind.wrap .u64 (x8))) fun h2 => (K (upd (upd (upd (upd e 8 (sI (x8))) 18 (sI (x8))) 19 (sV (Value.int .u64 (IntKind.wrap .u64 (x8))))) 9 (sV (ptr b1 0))) V0 h2))) := by kernel_rfl
theorem F148_r3 (e : Env) (x8 : Int) (hp : HP) (K : Env → PV → HP → Prop) : RW Try.prog 67 [] (opsAt Try.f148 [1, 1, 0, 1, 0]) (List.range 3) (upd e 8 (sI (x8))) V0 hp K =
    (CF Try.prog 172 [(Value.int .i64 x8)] hp fun u1 h2 => (intV u1 .u64 fun i3 => (K (upd (upd (upd (upd e 8 (sI (x8))) 20 (sI (x8))) 21 (sV (Value.int .u64 i3))) 10 (sV (Value.int .u64 i3))) V0 h2))) := by kernel_rfl
theorem F148_r4 (e : Env) (x1 : Int) (x8 : Int) (x11 : Int) (hp : HP) (K : Env → PV → HP → Prop) : RW Try.prog 67 [] (opsAt Try.f148 [1, 1, 0, 1, 1, 1, 0, 0, 0, 0]) (List.range 8) (upd (upd (upd e 11 (sI (x11))) 8 (sI (x8))) 1 (sI (x1))) V0 hp K =
    (((4 : Int) ≠ 0) ∧ (K (upd (upd (upd (upd (upd (upd (upd (upd (upd (upd (upd e 11 (sI (x11))) 8 (sI (x8))) 1 (sI (x1))) 28 (sI (x11))) 29 (sI (x1))) 30 (sI (x8))) 31 (sI ((IntKind.wrap .i64 (Int.tdiv x8 4))))) 32 (sI ((IntKind.wrap .i64 ((IntKind.wrap .i64 (Int.tdiv x8 4)) * 2))))) 33 (sI ((IntKind.wrap .i64 (x1 + (IntKind.wrap .i64 ((IntKind.wrap .i64 (Int.tdiv x8 4)) * 2))))))) 34 (sI ((IntKind.wrap .i64 ((IntKind.wrap .i64 (x1 + (IntKind.wrap .i64 ((IntKind.wrap .i64 (Int.tdiv x8 4)) * 2)))) + 1))))) 35 (sB ((decide ((x11 : Int) ≤ (IntKind.wrap .i64 ((IntKind.wrap .i64 (x1 + (IntKind.wrap .i64 ((IntKind.wrap .i64 (Int.tdiv x8 4)) * 2)))) + 1))))))) V0 hp)) := by kernel_rfl
theorem F148_r5 (e : Env) (x9 : Option Addr) (x10 : Int) (hp : HP) (K : Env → PV → HP → Prop) : RW Try.prog 67 [] (opsAt Try.f148 [1, 1, 0, 1, 1, 1, 0, 0, 1, 0, 0, 0]) (List.range 6) (upd (upd e 10 (sV (Value.int .u64 x10))) 9 (sV (Value.pointer x9))) V0 hp K =
    (CF Try.prog 173 [(Value.pointer x9)] hp fun u1 h2 => (intV u1 .u64 fun i3 => (K (upd (upd (upd (upd (upd (upd (upd (upd e 10 (sV (Value.int .u64 x10))) 9 (sV (Value.pointer x9))) 38 (sV (Value.int .u64 i3))) 39 (sV (Value.int .u64 x10))) 40 (sV (Value.int .u64 (IntKind.wrap .u64 (x10 - 1))))) 41 (sV (Value.int .u64 (band .u64 i3 (IntKind.wrap .u64 (x10 - 1)))))) 42 (sI ((IntKind.wrap .i64 ((band .u64 i3 (IntKind.wrap .u64 (x10 - 1)))))))) 12 (sI ((IntKind.wrap .i64 ((band .u64 i3 (IntKind.wrap .u64 (x10 - 1)))))))) V0 h2))) := by kernel_rfl
theorem F148_r6 (e : Env) (x0a : Option Addr) (x0n : Nat) (x0c : Nat) (x1 : Int) (x11 : Int) (x12 : Int) (hp : HP) (K : Env → PV → HP → Prop) : RW Try.prog 67 [] (opsAt Try.f148 [1, 1, 0, 1, 1, 1, 0, 0, 1, 0, 0, 1, 1]) (List.range 20) (upd (upd (upd (upd e 12 (sI (x12))) 11 (sI (x11))) 1 (sI (x1))) 0 (sV (Value.slice x0a x0n x0c))) V0 hp K =
    ((0 ≤ ((IntKind.wrap .i64 (x1 + x12)) : Int)) ∧ (((IntKind.wrap .i64 (x1 + x12)) : Int) < (x0n : Nat)) ∧ (ptrN x0a fun b1 o2 => (ldL (HP.cellN hp b1 (o2 + Int.toNat (IntKind.wrap .i64 (x1 + x12)) * 2) 2) fun l3 => ((0 ≤ (x11 : Int)) ∧ ((x11 : Int) < (x0n : Nat)) ∧ (ptrN x0a fun b4 o5 => (ldL (HP.cellN hp b4 (o5 + Int.toNat x11 * 2) 2) fun l6 => ((0 ≤ (x11 : Int)) ∧ ((x11 : Int) < (x0n : Nat)) ∧ (ptrN x0a fun b7 o8 => ((List.length l3 = 2) ∧ (HP.stN hp b7 (o8 + Int.toNat x11 * 2) l3 fun h9 => ((0 ≤ ((IntKind.wrap .i64 (x1 + x12)) : Int)) ∧ (((IntKind.wrap .i64 (x1 + x12)) : Int) < (x0n : Nat)) ∧ (ptrN x0a fun b10 o11 => ((List.length l6 = 2) ∧ (HP.stN h9 b10 (o11 + Int.toNat (IntKind.wrap .i64 (x1 + x12)) * 2) l6 fun h12 => (K (upd (upd (upd (upd (upd (upd (upd (upd (upd (upd (upd (upd (upd (upd (upd (upd (upd (upd (upd (upd (upd (upd e 12 (sI (x12))) 11 (sI (x11))) 1 (sI (x1))) 0 (sV (Value.slice x0a x0n x0c))) 49 (sV (Value.slice x0a x0n x0c))) 50 (sI (x11))) 51 (sV (Value.slice x0a x0n x0c))) 52 (sI (x1))) 53 (sI (x12))) 54 (sI ((IntKind.wrap .i64 (x1 + x12))))) 55 (sV (Value.slice x0a x0n x0c))) 56 (sI (x1))) 57 (sI (x12))) 58 (sI ((IntKind.wrap .i64 (x1 + x12))))) 59 (sV (ptr b1 (o2 + Int.toNat (IntKind.wrap .i64 (x1 + x12)) * 2)))) 60 (sV (Value.agg ⟨l3⟩))) 61 (sV (Value.slice x0a x0n x0c))) 62 (sI (x11))) 63 (sV (ptr b4 (o5 + Int.toNat x11 * 2)))) 64 (sV (Value.agg ⟨l6⟩))) 65 (sV (ptr b7 (o8 + Int.toNat x11 * 2)))) 66 (sV (ptr b10 (o11 + Int.toNat (IntKind.wrap .i64 (x1 + x12)) * 2)))) V0 h12))))))))))))))) := by kernel_rfl
theorem F148_r7 (e : Env) (x11 : Int) (hp : HP) (K : Env → PV → HP → Prop) : RW Try.prog 67 [] (opsAt Try.f148 [1, 1, 0, 1, 1, 1, 0, 0, 1, 1]) (List.range 3) (upd e 11 (sI (x11))) V0 hp K =
    (K (upd (upd (upd (upd e 11 (sI (x11))) 36 (sI (x11))) 37 (sI ((IntKind.wrap .i64 (x11 + 1))))) 11 (sI ((IntKind.wrap .i64 (x11 + 1))))) V0 hp) := by kernel_rfl
def F148_j3 (x0a : Option Addr) (x0n : Nat) (x0c : Nat) (x1 : Int) (x8 : Int) (x9 : Option Addr) (x10 : Int) (x11 : Int) (x12 : Int) (hp : HP) (I2 : (Int) → HP → Prop) (K : Value → HP → Prop) : Prop :=
  ((0 ≤ ((IntKind.wrap .i64 (x1 + x12)) : Int)) ∧ (((IntKind.wrap .i64 (x1 + x12)) : Int) < (x0n : Nat)) ∧ (ptrN x0a fun b_9 o_10 => (ldL (HP.cellN hp b_9 (o_10 + Int.toNat (IntKind.wrap .i64 (x1 + x12)) * 2) 2) fun l_11 => ((0 ≤ (x11 : Int)) ∧ ((x11 : Int) < (x0n : Nat)) ∧ (ptrN x0a fun b_12 o_13 => (ldL (HP.cellN hp b_12 (o_13 + Int.toNat x11 * 2) 2) fun l_14 => ((0 ≤ (x11 : Int)) ∧ ((x11 : Int) < (x0n : Nat)) ∧ (ptrN x0a fun b_15 o_16 => ((List.length l_11 = 2) ∧ (HP.stN hp b_15 (o_16 + Int.toNat x11 * 2) l_11 fun h_17 => ((0 ≤ ((IntKind.wrap .i64 (x1 + x12)) : Int)) ∧ (((IntKind.wrap .i64 (x1 + x12)) : Int) < (x0n : Nat)) ∧ (ptrN x0a fun b_18 o_19 => ((List.length l_14 = 2) ∧ (HP.stN h_17 b_18 (o_19 + Int.toNat (IntKind.wrap .i64 (x1 + x12)) * 2) l_14 fun h_20 => (I2 (IntKind.wrap .i64 (x11 + 1)) h_20)))))))))))))))
theorem F148_r8 (e : Env) (x8 : Int) (x12 : Int) (hp : HP) (K : Env → PV → HP → Prop) : RW Try.prog 67 [] (opsAt Try.f148 [1, 1, 0, 1, 1, 1, 0, 0, 1, 0, 0, 1, 0, 0]) (List.range 3) (upd (upd e 12 (sI (x12))) 8 (sI (x8))) V0 hp K =
    (K (upd (upd (upd (upd (upd e 12 (sI (x12))) 8 (sI (x8))) 43 (sI (x12))) 44 (sI (x8))) 45 (sB ((decide ((x12 : Int) ≥ x8))))) V0 hp) := by kernel_rfl
theorem F148_r9 (e : Env) (x8 : Int) (x12 : Int) (hp : HP) (K : Env → PV → HP → Prop) : RW Try.prog 67 [] (opsAt Try.f148 [1, 1, 0, 1, 1, 1, 0, 0, 1, 0, 0, 1, 0, 1, 0]) (List.range 4) (upd (upd e 12 (sI (x12))) 8 (sI (x8))) V0 hp K =
    (K (upd (upd (upd (upd (upd (upd e 12 (sI (x12))) 8 (sI (x8))) 46 (sI (x12))) 47 (sI (x8))) 48 (sI ((IntKind.wrap .i64 (x12 - x8))))) 12 (sI ((IntKind.wrap .i64 (x12 - x8))))) V0 hp) := by kernel_rfl
def F148_l2 (x0a : Option Addr) (x0n : Nat) (x0c : Nat) (x1 : Int) (x8 : Int) (x9 : Option Addr) (x10 : Int) (K : Value → HP → Prop) (I2 : (Int) → HP → Prop) (x11 : Int) (hp : HP) : Prop :=
  (((4 : Int) ≠ 0) ∧ (ite2 (decide ((x11 : Int) ≤ (IntKind.wrap .i64 ((IntKind.wrap .i64 (x1 + (IntKind.wrap .i64 ((IntKind.wrap .i64 (Int.tdiv x8 4)) * 2)))) + 1)))) (CF Try.prog 173 [(Value.pointer x9)] hp fun u_6 h_7 => (intV u_6 .u64 fun i_8 => (ite2 (decide (((IntKind.wrap .i64 ((band .u64 i_8 (IntKind.wrap .u64 (x10 - 1))))) : Int) ≥ x8)) (F148_j3 x0a x0n x0c x1 x8 x9 x10 x11 (IntKind.wrap .i64 ((IntKind.wrap .i64 ((band .u64 i_8 (IntKind.wrap .u64 (x10 - 1))))) - x8)) h_7 I2 K) (F148_j3 x0a x0n x0c x1 x8 x9 x10 x11 (IntKind.wrap .i64 ((band .u64 i_8 (IntKind.wrap .u64 (x10 - 1))))) h_7 I2 K)))) (K (.tuple ⟨[]⟩) hp)))
def F148_j1 (x0a : Option Addr) (x0n : Nat) (x0c : Nat) (x1 : Int) (x8 : Int) (x9 : Option Addr) (x10 : Int) (x11 : Int) (hp : HP) (K : Value → HP → Prop) : Prop :=
  (LoopP (σ := Int) (fun I s hp => F148_l2 x0a x0n x0c x1 x8 x9 x10  K I s hp) x11 hp)
theorem F148_r10 (e : Env) (x1 : Int) (x8 : Int) (hp : HP) (K : Env → PV → HP → Prop) : RW Try.prog 67 [] (opsAt Try.f148 [1, 1, 0, 1, 1, 0]) (List.range 7) (upd (upd e 8 (sI (x8))) 1 (sI (x1))) V0 hp K =
    (((4 : Int) ≠ 0) ∧ (K (upd (upd (upd (upd (upd (upd (upd (upd (upd e 8 (sI (x8))) 1 (sI (x1))) 22 (sI (x1))) 23 (sI (x8))) 24 (sI ((IntKind.wrap .i64 (Int.tdiv x8 4))))) 25 (sI ((IntKind.wrap .i64 ((IntKind.wrap .i64 (Int.tdiv x8 4)) * 2))))) 26 (sI ((IntKind.wrap .i64 (x1 + (IntKind.wrap .i64 ((IntKind.wrap .i64 (Int.tdiv x8 4)) * 2))))))) 27 (sI ((IntKind.wrap .i64 ((IntKind.wrap .i64 (x1 + (IntKind.wrap .i64 ((IntKind.wrap .i64 (Int.tdiv x8 4)) * 2)))) - 1))))) 11 (sI ((IntKind.wrap .i64 ((IntKind.wrap .i64 (x1 + (IntKind.wrap .i64 ((IntKind.wrap .i64 (Int.tdiv x8 4)) * 2)))) - 1))))) V0 hp)) := by kernel_rfl
def F148 (x0a : Option Addr) (x0n : Nat) (x0c : Nat) (x1 : Int) (x2 : Int) (x3 : Value) (hp : HP) (K : Value → HP → Prop) : Prop :=
  (ite2 (decide (((IntKind.wrap .i64 (x2 - x1)) : Int) ≥ 8)) (∀ b_1 : Nat, hp b_1 = .none → (HP.st (HP.set hp b_1 (.cells 236 [(Value.int .u64 0)] 0)) b_1 0 (Value.int .u64 (IntKind.wrap .u64 ((IntKind.wrap .i64 (x2 - x1))))) fun h_2 => (CF Try.prog 172 [(Value.int .i64 (IntKind.wrap .i64 (x2 - x1)))] h_2 fun u_3 h_4 => (intV u_3 .u64 fun i_5 => (((4 : Int) ≠ 0) ∧ (F148_j1 x0a x0n x0c x1 (IntKind.wrap .i64 (x2 - x1)) (some ⟨b_1, 0, none⟩) i_5 (IntKind.wrap .i64 ((IntKind.wrap .i64 (x1 + (IntKind.wrap .i64 ((IntKind.wrap .i64 (Int.tdiv (IntKind.wrap .i64 (x2 - x1)) 4)) * 2)))) - 1)) h_4  K)))))) (K (.tuple ⟨[]⟩) hp))
noncomputable def F148_code : Code := (.seq (.region 0 (opsAt Try.f148 [0]) false) (.seq (.region 1 (opsAt Try.f148 [1, 0]) false) (.cond (.tmp 17) (.seq (.region 2 (opsAt Try.f148 [1, 1, 0, 0]) false) (.seq (.region 3 (opsAt Try.f148 [1, 1, 0, 1, 0]) false) (.seq (.region 4 (opsAt Try.f148 [1, 1, 0, 1, 1, 0]) false) (.block 0 (.loop (.seq (.seq (.region 5 (opsAt Try.f148 [1, 1, 0, 1, 1, 1, 0, 0, 0, 0]) false) (.cond (.tmp 35) .skip (.exit 0))) (.seq (.block 1 (.seq (.region 7 (opsAt Try.f148 [1, 1, 0, 1, 1, 1, 0, 0, 1, 0, 0, 0]) false) (.seq (.seq (.region 8 (opsAt Try.f148 [1, 1, 0, 1, 1, 1, 0, 0, 1, 0, 0, 1, 0, 0]) false) (.cond (.tmp 45) (.region 9 (opsAt Try.f148 [1, 1, 0, 1, 1, 1, 0, 0, 1, 0, 0, 1, 0, 1, 0]) false) .skip)) (.region 10 (opsAt Try.f148 [1, 1, 0, 1, 1, 1, 0, 0, 1, 0, 0, 1, 1]) true)))) (.region 6 (opsAt Try.f148 [1, 1, 0, 1, 1, 1, 0, 0, 1, 1]) false)))))))) .skip)))
theorem F148_body : Try.f148.body = some F148_code := by kernel_rfl
theorem F148_ok (x0a : Option Addr) (x0n : Nat) (x0c : Nat) (x1 : Int) (x2 : Int) (x3 : Value) (hp : HP) (K : Value → HP → Prop) (h : F148 x0a x0n x0c x1 x2 x3 hp K) : CF Try.prog 148 [(Value.slice x0a x0n x0c), (Value.int .i64 x1), (Value.int .i64 x2), x3] hp K := by
 refine .inl ⟨by kernel_rfl, AC.intro (N := 67) Try.func148 F148_body rfl (Nat.le_of_ble_eq_true rfl) ?_⟩
 unfold F148 at h
 unfold F148_code
 refine AWP.seq' ?_
 refine AWP.rgn (F148_r0 (upd E0 0 (sV (Value.slice x0a x0n x0c))) x1 x2 hp _) ?_ (Rv 1 _ (Rv 2 _ (Rv 0 _ (Rn)))) (Sc rfl (Sc rfl (Sc rfl (Sn)))) (Sn)
 refine AWP.seq' ?_
 refine AWP.rgn (F148_r1 (upd (upd E0 1 (sI (x1))) 0 (sV (Value.slice x0a x0n x0c))) (IntKind.wrap .i64 (x2 - x1)) hp _) ?_ (Rv 8 _ (Rv 0 _ (Rv 1 _ (Rn)))) (Sc rfl (Sc rfl (Sc rfl (Sn)))) (Sn)
 refine AWP.cond (t := (decide (((IntKind.wrap .i64 (x2 - x1)) : Int) ≥ 8))) rfl (fun e => ?_) (fun e => ?_)
 ·replace h := ite2_t h e
  refine AWP.seq' ?_
  refine AWP.rgn (F148_r2 (upd (upd E0 1 (sI (x1))) 0 (sV (Value.slice x0a x0n x0c))) (IntKind.wrap .i64 (x2 - x1)) hp _) ?_ (Rv 8 _ (Rv 0 _ (Rv 1 _ (Rn)))) (Sc rfl (Sc rfl (Sc rfl (Sn)))) (Sn)
  refine fun b_1 hb_b_1 => ?_
  replace h := h b_1 hb_b_1
  refine st_mono h (fun h_2 h => ?_)
  refine AWP.seq' ?_
  refine AWP.rgn (F148_r3 (upd (upd (upd E0 9 (sV (Value.pointer (some ⟨b_1, 0, none⟩)))) 1 (sI (x1))) 0 (sV (Value.slice x0a x0n x0c))) (IntKind.wrap .i64 (x2 - x1)) h_2 _) ?_ (Rv 8 _ (Rv 0 _ (Rv 1 _ (Rv 9 _ (Rn))))) (Sc rfl (Sc rfl (Sc rfl (Sc rfl (Sn))))) (Sn)
  refine CF_mono h (fun u_3 h_4 h => ?_)
  refine intV_mono h (fun i_5 h => ?_)
  refine AWP.seq (fun env pv hp => ∃ (x0a : Option Addr) (x0n : Nat) (x0c : Nat) (x1 : Int) (x8 : Int) (x9 : Option Addr) (x10 : Int) (x11 : Int), Sub (upd (upd (upd (upd (upd (upd E0 11 (sI (x11))) 10 (sV (Value.int .u64 x10))) 9 (sV (Value.pointer x9))) 8 (sI (x8))) 1 (sI (x1))) 0 (sV (Value.slice x0a x0n x0c))) env ∧ Sub V0 pv ∧ (F148_j1 x0a x0n x0c x1 x8 x9 x10 x11 hp  K)) ?_ ?_
  ·refine AWP.rgn (F148_r10 (upd (upd (upd E0 10 (sV (Value.int .u64 i_5))) 9 (sV (Value.pointer (some ⟨b_1, 0, none⟩)))) 0 (sV (Value.slice x0a x0n x0c))) x1 (IntKind.wrap .i64 (x2 - x1)) h_4 _) ?_ (Rv 1 _ (Rv 8 _ (Rv 0 _ (Rv 9 _ (Rv 10 _ (Rn)))))) (Sc rfl (Sc rfl (Sc rfl (Sc rfl (Sc rfl (Sn)))))) (Sn)
   refine ⟨h.1, ?_⟩
   replace h := h.2
   exact ⟨x0a, x0n, x0c, x1, (IntKind.wrap .i64 (x2 - x1)), (some ⟨b_1, 0, none⟩), i_5, (IntKind.wrap .i64 ((IntKind.wrap .i64 (x1 + (IntKind.wrap .i64 ((IntKind.wrap .i64 (Int.tdiv (IntKind.wrap .i64 (x2 - x1)) 4)) * 2)))) - 1)), (Sc rfl (Sc rfl (Sc rfl (Sc rfl (Sc rfl (Sc rfl (Sn))))))), (Sn), h⟩
  ·rintro env pv hp ⟨x0a, x0n, x0c, x1, x8, x9, x10, x11, he, hv, h⟩
   refine AWP.sub (env' := (upd (upd (upd (upd (upd (upd E0 11 (sI (x11))) 10 (sV (Value.int .u64 x10))) 9 (sV (Value.pointer x9))) 8 (sI (x8))) 1 (sI (x1))) 0 (sV (Value.slice x0a x0n x0c)))) (pv' := V0) ?_ (Rv 0 _ (Rv 1 _ (Rv 8 _ (Rv 9 _ (Rv 10 _ (Rv 11 _ (Rn))))))) he hv (HSub.refl _)
   clear he hv
   unfold F148_j1 at h
   refine AWP.block ?_
   refine AWP.loop (σ := Int) (fun I s hp => F148_l2 x0a x0n x0c x1 x8 x9 x10  K I s hp) (fun s => (upd (upd (upd (upd (upd (upd E0 11 (sI (s))) 10 (sV (Value.int .u64 x10))) 9 (sV (Value.pointer x9))) 8 (sI (x8))) 1 (sI (x1))) 0 (sV (Value.slice x0a x0n x0c)))) (fun s => V0) x11 h (fun s => (Rv 0 _ (Rv 1 _ (Rv 8 _ (Rv 9 _ (Rv 10 _ (Rv 11 _ (Rn)))))))) (Sc rfl (Sc rfl (Sc rfl (Sc rfl (Sc rfl (Sc rfl (Sn))))))) (Sn) ?_
   intro I2 s hp h
   obtain ⟨x11, hs⟩ : ∃ x, x = s := ⟨s, rfl⟩
   subst hs
   replace h : F148_l2 x0a x0n x0c x1 x8 x9 x10  K I2 x11 hp := h
   unfold F148_l2 at h
   refine AWP.seq' ?_
   refine AWP.seq' ?_
   refine AWP.rgn (F148_r4 (upd (upd (upd E0 10 (sV (Value.int .u64 x10))) 9 (sV (Value.pointer x9))) 0 (sV (Value.slice x0a x0n x0c))) x1 x8 x11 hp _) ?_ (Rv 1 _ (Rv 8 _ (Rv 11 _ (Rv 0 _ (Rv 9 _ (Rv 10 _ (Rn))))))) (Sc rfl (Sc rfl (Sc rfl (Sc rfl (Sc rfl (Sc rfl (Sn))))))) (Sn)
   refine ⟨h.1, ?_⟩
   replace h := h.2
   refine AWP.cond (t := (decide ((x11 : Int) ≤ (IntKind.wrap .i64 ((IntKind.wrap .i64 (x1 + (IntKind.wrap .i64 ((IntKind.wrap .i64 (Int.tdiv x8 4)) * 2)))) + 1))))) rfl (fun e => ?_) (fun e => ?_)
   ·replace h := ite2_t h e
    refine AWP.skip ?_
    refine AWP.seq' ?_
    refine AWP.block ?_
    refine AWP.seq' ?_
    refine AWP.rgn (F148_r5 (upd (upd (upd (upd E0 11 (sI (x11))) 8 (sI (x8))) 1 (sI (x1))) 0 (sV (Value.slice x0a x0n x0c))) x9 x10 hp _) ?_ (Rv 9 _ (Rv 10 _ (Rv 0 _ (Rv 1 _ (Rv 8 _ (Rv 11 _ (Rn))))))) (Sc rfl (Sc rfl (Sc rfl (Sc rfl (Sc rfl (Sc rfl (Sn))))))) (Sn)
    refine CF_mono h (fun u_6 h_7 h => ?_)
    refine intV_mono h (fun i_8 h => ?_)
    refine AWP.seq (fun env pv hp => ∃ (x11 : Int) (x12 : Int), Sub (upd (upd (upd (upd (upd (upd (upd E0 12 (sI (x12))) 11 (sI (x11))) 10 (sV (Value.int .u64 x10))) 9 (sV (Value.pointer x9))) 8 (sI (x8))) 1 (sI (x1))) 0 (sV (Value.slice x0a x0n x0c))) env ∧ Sub V0 pv ∧ (F148_j3 x0a x0n x0c x1 x8 x9 x10 x11 x12 hp I2 K)) ?_ ?_
    ·refine AWP.seq' ?_
     refine AWP.rgn (F148_r8 (upd (upd (upd (upd (upd E0 11 (sI (x11))) 10 (sV (Value.int .u64 x10))) 9 (sV (Value.pointer x9))) 1 (sI (x1))) 0 (sV (Value.slice x0a x0n x0c))) x8 (IntKind.wrap .i64 ((band .u64 i_8 (IntKind.wrap .u64 (x10 - 1))))) h_7 _) ?_ (Rv 8 _ (Rv 12 _ (Rv 0 _ (Rv 1 _ (Rv 9 _ (Rv 10 _ (Rv 11 _ (Rn)))))))) (Sc rfl (Sc rfl (Sc rfl (Sc rfl (Sc rfl (Sc rfl (Sc rfl (Sn)))))))) (Sn)
     refine AWP.cond (t := (decide (((IntKind.wrap .i64 ((band .u64 i_8 (IntKind.wrap .u64 (x10 - 1))))) : Int) ≥ x8))) rfl (fun e => ?_) (fun e => ?_)
     ·replace h := ite2_t h e
      refine AWP.rgn (F148_r9 (upd (upd (upd (upd (upd E0 11 (sI (x11))) 10 (sV (Value.int .u64 x10))) 9 (sV (Value.pointer x9))) 1 (sI (x1))) 0 (sV (Value.slice x0a x0n x0c))) x8 (IntKind.wrap .i64 ((band .u64 i_8 (IntKind.wrap .u64 (x10 - 1))))) h_7 _) ?_ (Rv 8 _ (Rv 12 _ (Rv 0 _ (Rv 1 _ (Rv 9 _ (Rv 10 _ (Rv 11 _ (Rn)))))))) (Sc rfl (Sc rfl (Sc rfl (Sc rfl (Sc rfl (Sc rfl (Sc rfl (Sn)))))))) (Sn)
      exact ⟨x11, (IntKind.wrap .i64 ((IntKind.wrap .i64 ((band .u64 i_8 (IntKind.wrap .u64 (x10 - 1))))) - x8)), (Sc rfl (Sc rfl (Sc rfl (Sc rfl (Sc rfl (Sc rfl (Sc rfl (Sn)))))))), (Sn), h⟩
     ·replace h := ite2_f h e
      refine AWP.skip ?_
      exact ⟨x11, (IntKind.wrap .i64 ((band .u64 i_8 (IntKind.wrap .u64 (x10 - 1))))), (Sc rfl (Sc rfl (Sc rfl (Sc rfl (Sc rfl (Sc rfl (Sc rfl (Sn)))))))), (Sn), h⟩
    ·rintro env pv hp ⟨x11, x12, he, hv, h⟩
     refine AWP.sub (env' := (upd (upd (upd (upd (upd (upd (upd E0 12 (sI (x12))) 11 (sI (x11))) 10 (sV (Value.int .u64 x10))) 9 (sV (Value.pointer x9))) 8 (sI (x8))) 1 (sI (x1))) 0 (sV (Value.slice x0a x0n x0c)))) (pv' := V0) ?_ (Rv 0 _ (Rv 1 _ (Rv 8 _ (Rv 9 _ (Rv 10 _ (Rv 11 _ (Rv 12 _ (Rn)))))))) he hv (HSub.refl _)
     clear he hv
     unfold F148_j3 at h
     refine AWP.rgnD (by kernel_rfl) (by kernel_rfl) (F148_r6 (upd (upd (upd E0 10 (sV (Value.int .u64 x10))) 9 (sV (Value.pointer x9))) 8 (sI (x8))) x0a x0n x0c x1 x11 x12 hp _) ?_ (Rv 0 _ (Rv 1 _ (Rv 11 _ (Rv 12 _ (Rv 8 _ (Rv 9 _ (Rv 10 _ (Rn)))))))) (Sc rfl (Sc rfl (Sc rfl (Sc rfl (Sc rfl (Sc rfl (Sc rfl (Sn)))))))) (Sn)
     refine ⟨h.1, h.2.1, ?_⟩
     replace h := h.2.2
     refine ptrN_mono h (fun b_9 o_10 h => ?_)
     refine ldL_mono h (fun l_11 h => ?_)
     refine ⟨h.1, h.2.1, ?_⟩
     replace h := h.2.2
     refine ptrN_mono h (fun b_12 o_13 h => ?_)
     refine ldL_mono h (fun l_14 h => ?_)
     refine ⟨h.1, h.2.1, ?_⟩
     replace h := h.2.2
     refine ptrN_mono h (fun b_15 o_16 h => ?_)
     refine ⟨h.1, ?_⟩
     replace h := h.2
     refine stN_mono h (fun h_17 h => ?_)
     refine ⟨h.1, h.2.1, ?_⟩
     replace h := h.2.2
     refine ptrN_mono h (fun b_18 o_19 h => ?_)
     refine ⟨h.1, ?_⟩
     replace h := h.2
     refine stN_mono h (fun h_20 h => ?_)
     refine AWP.rgn (F148_r7 (upd (upd (upd (upd (upd E0 10 (sV (Value.int .u64 x10))) 9 (sV (Value.pointer x9))) 8 (sI (x8))) 1 (sI (x1))) 0 (sV (Value.slice x0a x0n x0c))) x11 h_20 _) ?_ (Rv 11 _ (Rv 0 _ (Rv 1 _ (Rv 8 _ (Rv 9 _ (Rv 10 _ (Rn))))))) (Sc rfl (Sc rfl (Sc rfl (Sc rfl (Sc rfl (Sc rfl (Sn))))))) (Sn)
     exact ⟨(IntKind.wrap .i64 (x11 + 1)), (Sc rfl (Sc rfl (Sc rfl (Sc rfl (Sc rfl (Sc rfl (Sn))))))), (Sn), h⟩
   ·replace h := ite2_f h e
    refine AWP.exit ?_
    exact h
 ·replace h := ite2_f h e
  refine AWP.skip ?_
  exact h
-- 128 slices.pdqsortCmpFunc[interpreter/expiry.thing]
theorem F128_r0 (e : Env) (hp : HP) (K : Env → PV → HP → Prop) : RW Try.prog 148 [] (opsAt Try.f128 [0]) (List.range 1) e V0 hp K =
    (K (upd e 10 (sB (true))) V0 hp) := by kernel_rfl
theorem F128_r1 (e : Env) (x1 : Int) (x2 : Int) (hp : HP) (K : Env → PV → HP → Prop) : RW Try.prog 148 [] (opsAt Try.f128 [1, 1, 0, 0, 0, 0]) (List.range 4) (upd (upd e 2 (sI (x2))) 1 (sI (x1))) V0 hp K =
    (K (upd (upd (upd (upd (upd (upd e 2 (sI (x2))) 1 (sI (x1))) 21 (sI (x2))) 22 (sI (x1))) 23 (sI ((IntKind.wrap .i64 (x2 - x1))))) 12 (sI ((IntKind.wrap .i64 (x2 - x1))))) V0 hp) := by kernel_rfl
theorem F128_r2 (e : Env) (x12 : Int) (hp : HP) (K : Env → PV → HP → Prop) : RW Try.prog 148 [] (opsAt Try.f128 [1, 1, 0, 0, 0, 1, 0, 0]) (List.range 2) (upd e 12 (sI (x12))) V0 hp K =
    (K (upd (upd (upd e 12 (sI (x12))) 24 (sI (x12))) 25 (sB ((decide ((x12 : Int) ≤ 12))))) V0 hp) := by kernel_rfl
theorem F128_r3 (e : Env) (x0a : Option Addr) (x0n : Nat) (x0c : Nat) (x1 : Int) (x2 : Int) (x4 : Value) (hp : HP) (K : Env → PV → HP → Prop) : RW Try.prog 148 [] (opsAt Try.f128 [1, 1, 0, 0, 0, 1, 0, 1, 0, 0]) (List.range 5) (upd (upd (upd (upd e 4 (sV x4)) 2 (sI (x2))) 1 (sI (x1))) 0 (sV (Value.slice x0a x0n x0c))) V0 hp K =
    (CF Try.prog 146 [(Value.slice x0a x0n x0c), (Value.int .i64 x1), (Value.int .i64 x2), x4] hp fun u1 h2 => (K (upd (upd (upd (upd (upd (upd (upd (upd (upd e 4 (sV x4)) 2 (sI (x2))) 1 (sI (x1))) 0 (sV (Value.slice x0a x0n x0c))) 26 (sV (Value.slice x0a x0n x0c))) 27 (sI (x1))) 28 (sI (x2))) 29 (sV x4)) 30 (sV u1)) V0 h2)) := by kernel_rfl
theorem F128_r4 (e : Env) (x3 : Int) (hp : HP) (K : Env → PV → HP → Prop) : RW Try.prog 148 [] (opsAt Try.f128 [1, 1, 0, 0, 0, 1, 1, 0, 0]) (List.range 2) (upd e 3 (sI (x3))) V0 hp K =
    (K (upd (upd (upd e 3 (sI (x3))) 31 (sI (x3))) 32 (sB (((x3 : Int) == 0)))) V0 hp) := by kernel_rfl
theorem F128_r5 (e : Env) (x0a : Option Addr) (x0n : Nat) (x0c : Nat) (x1 : Int) (x2 : Int) (x4 : Value) (hp : HP) (K : Env → PV → HP → Prop) : RW Try.prog 148 [] (opsAt Try.f128 [1, 1, 0, 0, 0, 1, 1, 0, 1, 0, 0]) (List.range 5) (upd (upd (upd (upd e 4 (sV x4)) 2 (sI (x2))) 1 (sI (x1))) 0 (sV (Value.slice x0a x0n x0c))) V0 hp K =
    (CF Try.prog 147 [(Value.slice x0a x0n x0c), (Value.int .i64 x1), (Value.int .i64 x2), x4] hp fun u1 h2 => (K (upd (upd (upd (upd (upd (upd (upd (upd (upd e 4 (sV x4)) 2 (sI (x2))) 1 (sI (x1))) 0 (sV (Value.slice x0a x0n x0c))) 33 (sV (Value.slice x0a x0n x0c))) 34 (sI (x1))) 35 (sI (x2))) 36 (sV x4)) 37 (sV u1)) V0 h2)) := by kernel_rfl
theorem F128_r6 (e : Env) (x0a : Option Addr) (x0n : Nat) (x0c : Nat) (x1 : Int) (x2 : Int) (x4 : Value) (hp : HP) (K : Env → PV → HP → Prop) : RW Try.prog 148 [] (opsAt Try.f128 [1, 1, 0, 0, 0, 1, 1, 1, 1, 0]) (List.range 10) (upd (upd (upd (upd e 4 (sV x4)) 2 (sI (x2))) 1 (sI (x1))) 0 (sV (Value.slice x0a x0n x0c))) V0 hp K =
    (CF Try.prog 149 [(Value.slice x0a x0n x0c), (Value.int .i64 x1), (Value.int .i64 x2), x4] hp fun u1 h2 => (tup2V u1 fun u3 u4 => (intV u3 .i64 fun i5 => (intV u4 .i64 fun i6 => (K (upd (upd (upd (upd (upd (upd (upd (upd (upd (upd (upd (upd (upd (upd e 4 (sV x4)) 2 (sI (x2))) 1 (sI (x1))) 0 (sV (Value.slice x0a x0n x0c))) 48 (sV (Value.slice x0a x0n x0c))) 49 (sI (x1))) 50 (sI (x2))) 51 (sV x4)) 52 (sV (Value.tuple ⟨[(Value.int .i64 i5), (Value.int .i64 i6)]⟩))) 47 (sV (Value.tuple ⟨[(Value.int .i64 i5), (Value.int .i64 i6)]⟩))) 53 (sI (i5))) 54 (sI (i6))) 13 (sI (i5))) 14 (sI (i6))) V0 h2))))) := by kernel_rfl
theorem F128_r7 (e : Env) (x0a : Option Addr) (x0n : Nat) (x0c : Nat) (x1 : Int) (x2 : Int) (x4 : Value) (x13 : Int) (hp : HP) (K : Env → PV → HP → Prop) : RW Try.prog 148 [] (opsAt Try.f128 [1, 1, 0, 0, 0, 1, 1, 1, 1, 1, 1, 1, 0, 1, 0, 0]) (List.range 7) (upd (upd (upd (upd (upd e 13 (sI (x13))) 4 (sV x4)) 2 (sI (x2))) 1 (sI (x1))) 0 (sV (Value.slice x0a x0n x0c))) V0 hp K =
    (CF Try.prog 152 [(Value.slice x0a x0n x0c), (Value.int .i64 x1), (Value.int .i64 x2), (Value.int .i64 x13), x4] hp fun u1 h2 => (intV u1 .i64 fun i3 => (K (upd (upd (upd (upd (upd (upd (upd (upd (upd (upd (upd (upd e 13 (sI (x13))) 4 (sV x4)) 2 (sI (x2))) 1 (sI (x1))) 0 (sV (Value.slice x0a x0n x0c))) 98 (sV (Value.slice x0a x0n x0c))) 99 (sI (x1))) 100 (sI (x2))) 101 (sI (x13))) 102 (sV x4)) 103 (sI (i3))) 15 (sI (i3))) V0 h2))) := by kernel_rfl
theorem F128_r8 (e : Env) (x15 : Int) (hp : HP) (K : Env → PV → HP → Prop) : RW Try.prog 148 [] (opsAt Try.f128 [1, 1, 0, 0, 0, 1, 1, 1, 1, 1, 1, 1, 0, 1, 0, 1, 0]) (List.range 2) (upd e 15 (sI (x15))) V0 hp K =
    (K (upd (upd (upd e 15 (sI (x15))) 104 (sI (x15))) 1 (sI (x15))) V0 hp) := by kernel_rfl
theorem F128_r9 (e : Env) (x0a : Option Addr) (x0n : Nat) (x0c : Nat) (x1 : Int) (x2 : Int) (x4 : Value) (x13 : Int) (hp : HP) (K : Env → PV → HP → Prop) : RW Try.prog 148 [] (opsAt Try.f128 [1, 1, 0, 0, 0, 1, 1, 1, 1, 1, 1, 1, 1, 0]) (List.range 11) (upd (upd (upd (upd (upd e 13 (sI (x13))) 4 (sV x4)) 2 (sI (x2))) 1 (sI (x1))) 0 (sV (Value.slice x0a x0n x0c))) V0 hp K =
    (CF Try.prog 153 [(Value.slice x0a x0n x0c), (Value.int .i64 x1), (Value.int .i64 x2), (Value.int .i64 x13), x4] hp fun u1 h2 => (tup2V u1 fun u3 u4 => (intV u3 .i64 fun i5 => (boolV u4 fun q6 => (K (upd (upd (upd (upd (upd (upd (upd (upd (upd (upd (upd (upd (upd (upd (upd (upd e 13 (sI (x13))) 4 (sV x4)) 2 (sI (x2))) 1 (sI (x1))) 0 (sV (Value.slice x0a x0n x0c))) 106 (sV (Value.slice x0a x0n x0c))) 107 (sI (x1))) 108 (sI (x2))) 109 (sI (x13))) 110 (sV x4)) 111 (sV (Value.tuple ⟨[(Value.int .i64 i5), (Value.bool q6)]⟩))) 105 (sV (Value.tuple ⟨[(Value.int .i64 i5), (Value.bool q6)]⟩))) 112 (sI (i5))) 113 (sB (q6))) 16 (sI (i5))) 17 (sB (q6))) V0 h2))))) := by kernel_rfl
theorem F128_r10 (e : Env) (x17 : Bool) (hp : HP) (K : Env → PV → HP → Prop) : RW Try.prog 148 [] (opsAt Try.f128 [1, 1, 0, 0, 0, 1, 1, 1, 1, 1, 1, 1, 1, 1, 0]) (List.range 2) (upd e 17 (sB (x17))) V0 hp K =
    (K (upd (upd (upd e 17 (sB (x17))) 114 (sB (x17))) 11 (sB (x17))) V0 hp) := by kernel_rfl
theorem F128_r11 (e : Env) (x1 : Int) (x2 : Int) (x16 : Int) (hp : HP) (K : Env → PV → HP → Prop) : RW Try.prog 148 [] (opsAt Try.f128 [1, 1, 0, 0, 0, 1, 1, 1, 1, 1, 1, 1, 1, 1, 1, 0]) (List.range 8) (upd (upd (upd e 16 (sI (x16))) 2 (sI (x2))) 1 (sI (x1))) V0 hp K =
    (K (upd (upd (upd (upd (upd (upd (upd (upd (upd (upd (upd e 16 (sI (x16))) 2 (sI (x2))) 1 (sI (x1))) 115 (sI (x16))) 116 (sI (x1))) 117 (sI ((IntKind.wrap .i64 (x16 - x1))))) 118 (sI (x2))) 119 (sI (x16))) 120 (sI ((IntKind.wrap .i64 (x2 - x16))))) 18 (sI ((IntKind.wrap .i64 (x16 - x1))))) 19 (sI ((IntKind.wrap .i64 (x2 - x16))))) V0 hp) := by kernel_rfl
theorem F128_r12 (e : Env) (x12 : Int) (hp : HP) (K : Env → PV → HP → Prop) : RW Try.prog 148 [] (opsAt Try.f128 [1, 1, 0, 0, 0, 1, 1, 1, 1, 1, 1, 1, 1, 1, 1, 1, 0]) (List.range 3) (upd e 12 (sI (x12))) V0 hp K =
    (((8 : Int) ≠ 0) ∧ (K (upd (upd (upd (upd e 12 (sI (x12))) 121 (sI (x12))) 122 (sI ((IntKind.wrap .i64 (Int.tdiv x12 8))))) 20 (sI ((IntKind.wrap .i64 (Int.tdiv x12 8))))) V0 hp)) := by kernel_rfl
theorem F128_r13 (e : Env) (x18 : Int) (x19 : Int) (hp : HP) (K : Env → PV → HP → Prop) : RW Try.prog 148 [] (opsAt Try.f128 [1, 1, 0, 0, 0, 1, 1, 1, 1, 1, 1, 1, 1, 1, 1, 1, 1, 0]) (List.range 3) (upd (upd e 19 (sI (x19))) 18 (sI (x18))) V0 hp K =
    (K (upd (upd (upd (upd (upd e 19 (sI (x19))) 18 (sI (x18))) 123 (sI (x18))) 124 (sI (x19))) 125 (sB ((decide ((x18 : Int) < x19))))) V0 hp) := by kernel_rfl
theorem F128_r14 (e : Env) (x18 : Int) (x20 : Int) (hp : HP) (K : Env → PV → HP → Prop) : RW Try.prog 148 [] (opsAt Try.f128 [1, 1, 0, 0, 0, 1, 1, 1, 1, 1, 1, 1, 1, 1, 1, 1, 1, 1, 0, 0]) (List.range 4) (upd (upd e 20 (sI (x20))) 18 (sI (x18))) V0 hp K =
    (K (upd (upd (upd (upd (upd (upd e 20 (sI (x20))) 18 (sI (x18))) 126 (sI (x18))) 127 (sI (x20))) 128 (sB ((decide ((x18 : Int) ≥ x20))))) 10 (sB ((decide ((x18 : Int) ≥ x20))))) V0 hp) := by kernel_rfl
theorem F128_r15 (e : Env) (x0a : Option Addr) (x0n : Nat) (x0c : Nat) (x1 : Int) (x3 : Int) (x4 : Value) (x16 : Int) (hp : HP) (K : Env → PV → HP → Prop) : RW Try.prog 148 [] (opsAt Try.f128 [1, 1, 0, 0, 0, 1, 1, 1, 1, 1, 1, 1, 1, 1, 1, 1, 1, 1, 0, 1, 0]) (List.range 6) (upd (upd (upd (upd (upd e 16 (sI (x16))) 4 (sV x4)) 3 (sI (x3))) 1 (sI (x1))) 0 (sV (Value.slice x0a x0n x0c))) V0 hp K =
    (CF Try.prog 128 [(Value.slice x0a x0n x0c), (Value.int .i64 x1), (Value.int .i64 x16), (Value.int .i64 x3), x4] hp fun u1 h2 => (K (upd (upd (upd (upd (upd (upd (upd (upd (upd (upd (upd e 16 (sI (x16))) 4 (sV x4)) 3 (sI (x3))) 1 (sI (x1))) 0 (sV (Value.slice x0a x0n x0c))) 129 (sV (Value.slice x0a x0n x0c))) 130 (sI (x1))) 131 (sI (x16))) 132 (sI (x3))) 133 (sV x4)) 134 (sV u1)) V0 h2)) := by kernel_rfl
theorem F128_r16 (e : Env) (x16 : Int) (hp : HP) (K : Env → PV → HP → Prop) : RW Try.prog 148 [] (opsAt Try.f128 [1, 1, 0, 0, 0, 1, 1, 1, 1, 1, 1, 1, 1, 1, 1, 1, 1, 1, 0, 1, 1]) (List.range 3) (upd e 16 (sI (x16))) V0 hp K =
    (K (upd (upd (upd (upd e 16 (sI (x16))) 135 (sI (x16))) 136 (sI ((IntKind.wrap .i64 (x16 + 1))))) 1 (sI ((IntKind.wrap .i64 (x16 + 1))))) V0 hp) := by kernel_rfl
theorem F128_r17 (e : Env) (x19 : Int) (x20 : Int) (hp : HP) (K : Env → PV → HP → Prop) : RW Try.prog 148 [] (opsAt Try.f128 [1, 1, 0, 0, 0, 1, 1, 1, 1, 1, 1, 1, 1, 1, 1, 1, 1, 1, 1, 0]) (List.range 4) (upd (upd e 20 (sI (x20))) 19 (sI (x19))) V0 hp K =
    (K (upd (upd (upd (upd (upd (upd e 20 (sI (x20))) 19 (sI (x19))) 137 (sI (x19))) 138 (sI (x20))) 139 (sB ((decide ((x19 : Int) ≥ x20))))) 10 (sB ((decide ((x19 : Int) ≥ x20))))) V0 hp) := by kernel_rfl
theorem F128_r18 (e : Env) (x0a : Option Addr) (x0n : Nat) (x0c : Nat) (x2 : Int) (x3 : Int) (x4 : Value) (x16 : Int) (hp : HP) (K : Env → PV → HP → Prop) : RW Try.prog 148 [] (opsAt Try.f128 [1, 1, 0, 0, 0, 1, 1, 1, 1, 1, 1, 1, 1, 1, 1, 1, 1, 1, 1, 1, 0]) (List.range 7) (upd (upd (upd (upd (upd e 16 (sI (x16))) 4 (sV x4)) 3 (sI (x3))) 2 (sI (x2))) 0 (sV (Value.slice x0a x0n x0c))) V0 hp K =
    (CF Try.prog 128 [(Value.slice x0a x0n x0c), (Value.int .i64 (IntKind.wrap .i64 (x16 + 1))), (Value.int .i64 x2), (Value.int .i64 x3), x4] hp fun u1 h2 => (K (upd (upd (upd (upd (upd (upd (upd (upd (upd (upd (upd (upd e 16 (sI (x16))) 4 (sV x4)) 3 (sI (x3))) 2 (sI (x2))) 0 (sV (Value.slice x0a x0n x0c))) 140 (sV (Value.slice x0a x0n x0c))) 141 (sI (x16))) 142 (sI ((IntKind.wrap .i64 (x16 + 1))))) 143 (sI (x2))) 144 (sI (x3))) 145 (sV x4)) 146 (sV u1)) V0 h2)) := by kernel_rfl
theorem F128_r19 (e : Env) (x16 : Int) (hp : HP) (K : Env → PV → HP → Prop) : RW Try.prog 148 [] (opsAt Try.f128 [1, 1, 0, 0, 0, 1, 1, 1, 1, 1, 1, 1, 1, 1, 1, 1, 1, 1, 1, 1, 1]) (List.range 2) (upd e 16 (sI (x16))) V0 hp K =
    (K (upd (upd (upd e 16 (sI (x16))) 147 (sI (x16))) 2 (sI (x16))) V0 hp) := by kernel_rfl
def F128_j6 (x0a : Option Addr) (x0n : Nat) (x0c : Nat) (x1 : Int) (x2 : Int) (x3 : Int) (x4 : Value) (x10 : Bool) (x11 : Bool) (x12 : Int) (x13 : Int) (x97 : Bool) (hp : HP) (I2 : (Int × Int × Int × Bool × Bool) → HP → Prop) (K : Value → HP → Prop) : Prop :=
  (ite2 x97 (CF Try.prog 152 [(Value.slice x0a x0n x0c), (Value.int .i64 x1), (Value.int .i64 x2), (Value.int .i64 x13), x4] hp fun u_11 h_12 => (intV u_11 .i64 fun i_13 => (I2 (i_13, x2, x3, x10, x11) h_12))) (CF Try.prog 153 [(Value.slice x0a x0n x0c), (Value.int .i64 x1), (Value.int .i64 x2), (Value.int .i64 x13), x4] hp fun u_14 h_15 => (tup2V u_14 fun u_16 u_17 => (intV u_16 .i64 fun i_18 => (boolV u_17 fun q_19 => (((8 : Int) ≠ 0) ∧ (ite2 (decide (((IntKind.wrap .i64 (i_18 - x1)) : Int) < (IntKind.wrap .i64 (x2 - i_18)))) (CF Try.prog 128 [(Value.slice x0a x0n x0c), (Value.int .i64 x1), (Value.int .i64 i_18), (Value.int .i64 x3), x4] h_15 fun u_20 h_21 => (I2 ((IntKind.wrap .i64 (i_18 + 1)), x2, x3, (decide (((IntKind.wrap .i64 (i_18 - x1)) : Int) ≥ (IntKind.wrap .i64 (Int.tdiv x12 8)))), q_19) h_21)) (CF Try.prog 128 [(Value.slice x0a x0n x0c), (Value.int .i64 (IntKind.wrap .i64 (i_18 + 1))), (Value.int .i64 x2), (Value.int .i64 x3), x4] h_15 fun u_22 h_23 => (I2 (x1, i_18, x3, (decide (((IntKind.wrap .i64 (x2 - i_18)) : Int) ≥ (IntKind.wrap .i64 (Int.tdiv x12 8)))), q_19) h_23)))))))))
theorem F128_r20 (e : Env) (x0a : Option Addr) (x0n : Nat) (x0c : Nat) (x1 : Int) (x4 : Value) (x13 : Int) (hp : HP) (K : Env → PV → HP → Prop) : RW Try.prog 148 [] (opsAt Try.f128 [1, 1, 0, 0, 0, 1, 1, 1, 1, 1, 1, 1, 0, 0]) (List.range 17) (upd (upd (upd (upd e 13 (sI (x13))) 4 (sV x4)) 1 (sI (x1))) 0 (sV (Value.slice x0a x0n x0c))) V0 hp K =
    (ite2 (decide ((x1 : Int) > 0)) ((0 ≤ ((IntKind.wrap .i64 (x1 - 1)) : Int)) ∧ (((IntKind.wrap .i64 (x1 - 1)) : Int) < (x0n : Nat)) ∧ (ptrN x0a fun b1 o2 => (ldL (HP.cellN hp b1 (o2 + Int.toNat (IntKind.wrap .i64 (x1 - 1)) * 2) 2) fun l3 => ((0 ≤ (x13 : Int)) ∧ ((x13 : Int) < (x0n : Nat)) ∧ (ptrN x0a fun b4 o5 => (ldL (HP.cellN hp b4 (o5 + Int.toNat x13 * 2) 2) fun l6 => (fnV x4 fun f7 ga8 gb9 => (CF Try.prog f7 (ga8 ++ [(Value.agg ⟨l3⟩), (Value.agg ⟨l6⟩)] ++ gb9) hp fun u10 h11 => (intV u10 .i64 fun i12 => (K (upd (upd (upd (upd (upd (upd (upd (upd (upd (upd (upd (upd (upd (upd (upd (upd (upd (upd (upd (upd (upd e 13 (sI (x13))) 4 (sV x4)) 1 (sI (x1))) 0 (sV (Value.slice x0a x0n x0c))) 81 (sI (x1))) 82 (sB ((decide ((x1 : Int) > 0))))) 83 (sB (true))) 84 (sV x4)) 85 (sV (Value.slice x0a x0n x0c))) 86 (sI (x1))) 87 (sI ((IntKind.wrap .i64 (x1 - 1))))) 88 (sV (ptr b1 (o2 + Int.toNat (IntKind.wrap .i64 (x1 - 1)) * 2)))) 89 (sV (Value.agg ⟨l3⟩))) 90 (sV (Value.slice x0a x0n x0c))) 91 (sI (x13))) 92 (sV (ptr b4 (o5 + Int.toNat x13 * 2)))) 93 (sV (Value.agg ⟨l6⟩))) 94 (sI (i12))) 95 (sB ((decide ((i12 : Int) < 0))))) 96 (sB ((!(decide ((i12 : Int) < 0)))))) 97 (sB ((!(decide ((i12 : Int) < 0)))))) V0 h11)))))))))) (K (upd (upd (upd (upd (upd (upd (upd (upd (upd (upd (upd (upd (upd (upd (upd (upd (upd (upd (upd (upd (upd e 13 (sI (x13))) 4 (sV x4)) 1 (sI (x1))) 0 (sV (Value.slice x0a x0n x0c))) 81 (sI (x1))) 82 (sB ((decide ((x1 : Int) > 0))))) 83 (sB (false))) 84 (sV undef)) 85 (sV undef)) 86 (sV undef)) 87 (sV undef)) 88 (sV undef)) 89 (sV undef)) 90 (sV undef)) 91 (sV undef)) 92 (sV undef)) 93 (sV undef)) 94 (sV undef)) 95 (sV undef)) 96 (sV undef)) 97 (sB (false))) V0 hp)) := by kernel_rfl
def F128_j5 (x0a : Option Addr) (x0n : Nat) (x0c : Nat) (x1 : Int) (x2 : Int) (x3 : Int) (x4 : Value) (x10 : Bool) (x11 : Bool) (x12 : Int) (x13 : Int) (hp : HP) (I2 : (Int × Int × Int × Bool × Bool) → HP → Prop) (K : Value → HP → Prop) : Prop :=
  (ite2 (decide ((x1 : Int) > 0)) ((0 ≤ ((IntKind.wrap .i64 (x1 - 1)) : Int)) ∧ (((IntKind.wrap .i64 (x1 - 1)) : Int) < (x0n : Nat)) ∧ (ptrN x0a fun b_24 o_25 => (ldL (HP.cellN hp b_24 (o_25 + Int.toNat (IntKind.wrap .i64 (x1 - 1)) * 2) 2) fun l_26 => ((0 ≤ (x13 : Int)) ∧ ((x13 : Int) < (x0n : Nat)) ∧ (ptrN x0a fun b_27 o_28 => (ldL (HP.cellN hp b_27 (o_28 + Int.toNat x13 * 2) 2) fun l_29 => (fnV x4 fun f_30 ga_31 gb_32 => (CF Try.prog f_30 (ga_31 ++ [(Value.agg ⟨l_26⟩), (Value.agg ⟨l_29⟩)] ++ gb_32) hp fun u_33 h_34 => (intV u_33 .i64 fun i_35 => (F128_j6 x0a x0n x0c x1 x2 x3 x4 x10 x11 x12 x13 (!(decide ((i_35 : Int) < 0))) h_34 I2 K)))))))))) (F128_j6 x0a x0n x0c x1 x2 x3 x4 x10 x11 x12 x13 false hp I2 K))
theorem F128_r21 (e : Env) (x0a : Option Addr) (x0n : Nat) (x0c : Nat) (x1 : Int) (x2 : Int) (x4 : Value) (hp : HP) (K : Env → PV → HP → Prop) : RW Try.prog 148 [] (opsAt Try.f128 [1, 1, 0, 0, 0, 1, 1, 1, 1, 1, 1, 0, 1, 0, 0]) (List.range 5) (upd (upd (upd (upd e 4 (sV x4)) 2 (sI (x2))) 1 (sI (x1))) 0 (sV (Value.slice x0a x0n x0c))) V0 hp K =
    (CF Try.prog 151 [(Value.slice x0a x0n x0c), (Value.int .i64 x1), (Value.int .i64 x2), x4] hp fun u1 h2 => (boolV u1 fun q3 => (K (upd (upd (upd (upd (upd (upd (upd (upd (upd e 4 (sV x4)) 2 (sI (x2))) 1 (sI (x1))) 0 (sV (Value.slice x0a x0n x0c))) 76 (sV (Value.slice x0a x0n x0c))) 77 (sI (x1))) 78 (sI (x2))) 79 (sV x4)) 80 (sB (q3))) V0 h2))) := by kernel_rfl
def F128_j7 (x0a : Option Addr) (x0n : Nat) (x0c : Nat) (x1 : Int) (x2 : Int) (x3 : Int) (x4 : Value) (x10 : Bool) (x11 : Bool) (x12 : Int) (x13 : Int) (x75 : Bool) (hp : HP) (I2 : (Int × Int × Int × Bool × Bool) → HP → Prop) (K : Value → HP → Prop) : Prop :=
  (ite2 x75 (CF Try.prog 151 [(Value.slice x0a x0n x0c), (Value.int .i64 x1), (Value.int .i64 x2), x4] hp fun u_36 h_37 => (boolV u_36 fun q_38 => (ite2 q_38 (K (.tuple ⟨[]⟩) h_37) (F128_j5 x0a x0n x0c x1 x2 x3 x4 x10 x11 x12 x13 h_37 I2 K)))) (F128_j5 x0a x0n x0c x1 x2 x3 x4 x10 x11 x12 x13 hp I2 K))
theorem F128_r22 (e : Env) (x10 : Bool) (x11 : Bool) (x14 : Int) (hp : HP) (K : Env → PV → HP → Prop) : RW Try.prog 148 [] (opsAt Try.f128 [1, 1, 0, 0, 0, 1, 1, 1, 1, 1, 1, 0, 0]) (List.range 8) (upd (upd (upd e 14 (sI (x14))) 11 (sB (x11))) 10 (sB (x10))) V0 hp K =
    (ite2 x10 (ite2 x11 (K (upd (upd (upd (upd (upd (upd (upd (upd (upd (upd (upd e 14 (sI (x14))) 11 (sB (x11))) 10 (sB (x10))) 68 (sB (x10))) 69 (sB (true))) 70 (sB (x11))) 71 (sB (x11))) 72 (sB (true))) 73 (sI (x14))) 74 (sB (((x14 : Int) == 1)))) 75 (sB (((x14 : Int) == 1)))) V0 hp) (K (upd (upd (upd (upd (upd (upd (upd (upd (upd (upd (upd e 14 (sI (x14))) 11 (sB (x11))) 10 (sB (x10))) 68 (sB (x10))) 69 (sB (true))) 70 (sB (x11))) 71 (sB (x11))) 72 (sB (false))) 73 (sV undef)) 74 (sV undef)) 75 (sB (false))) V0 hp)) (K (upd (upd (upd (upd (upd (upd (upd (upd (upd (upd (upd e 14 (sI (x14))) 11 (sB (x11))) 10 (sB (x10))) 68 (sB (x10))) 69 (sB (false))) 70 (sV undef)) 71 (sB (false))) 72 (sB (false))) 73 (sV undef)) 74 (sV undef)) 75 (sB (false))) V0 hp)) := by kernel_rfl
def F128_j4 (x0a : Option Addr) (x0n : Nat) (x0c : Nat) (x1 : Int) (x2 : Int) (x3 : Int) (x4 : Value) (x10 : Bool) (x11 : Bool) (x12 : Int) (x13 : Int) (x14 : Int) (hp : HP) (I2 : (Int × Int × Int × Bool × Bool) → HP → Prop) (K : Value → HP → Prop) : Prop :=
  (ite2 x10 (ite2 x11 (F128_j7 x0a x0n x0c x1 x2 x3 x4 x10 x11 x12 x13 ((x14 : Int) == 1) hp I2 K) (F128_j7 x0a x0n x0c x1 x2 x3 x4 x10 x11 x12 x13 false hp I2 K)) (F128_j7 x0a x0n x0c x1 x2 x3 x4 x10 x11 x12 x13 false hp I2 K))
theorem F128_r23 (e : Env) (x14 : Int) (hp : HP) (K : Env → PV → HP → Prop) : RW Try.prog 148 [] (opsAt Try.f128 [1, 1, 0, 0, 0, 1, 1, 1, 1, 1, 0, 0]) (List.range 2) (upd e 14 (sI (x14))) V0 hp K =
    (K (upd (upd (upd e 14 (sI (x14))) 55 (sI (x14))) 56 (sB (((x14 : Int) == 2)))) V0 hp) := by kernel_rfl
theorem F128_r24 (e : Env) (x0a : Option Addr) (x0n : Nat) (x0c : Nat) (x1 : Int) (x2 : Int) (x4 : Value) (hp : HP) (K : Env → PV → HP → Prop) : RW Try.prog 148 [] (opsAt Try.f128 [1, 1, 0, 0, 0, 1, 1, 1, 1, 1, 0, 1, 0, 0]) (List.range 5) (upd (upd (upd (upd e 4 (sV x4)) 2 (sI (x2))) 1 (sI (x1))) 0 (sV (Value.slice x0a x0n x0c))) V0 hp K =
    (CF Try.prog 150 [(Value.slice x0a x0n x0c), (Value.int .i64 x1), (Value.int .i64 x2), x4] hp fun u1 h2 => (K (upd (upd (upd (upd (upd (upd (upd (upd (upd e 4 (sV x4)) 2 (sI (x2))) 1 (sI (x1))) 0 (sV (Value.slice x0a x0n x0c))) 57 (sV (Value.slice x0a x0n x0c))) 58 (sI (x1))) 59 (sI (x2))) 60 (sV x4)) 61 (sV u1)) V0 h2)) := by kernel_rfl
theorem F128_r25 (e : Env) (x1 : Int) (x2 : Int) (x13 : Int) (hp : HP) (K : Env → PV → HP → Prop) : RW Try.prog 148 [] (opsAt Try.f128 [1, 1, 0, 0, 0, 1, 1, 1, 1, 1, 0, 1, 0, 1, 0]) (List.range 7) (upd (upd (upd e 13 (sI (x13))) 2 (sI (x2))) 1 (sI (x1))) V0 hp K =
    (K (upd (upd (upd (upd (upd (upd (upd (upd (upd (upd e 13 (sI (x13))) 2 (sI (x2))) 1 (sI (x1))) 62 (sI (x2))) 63 (sI ((IntKind.wrap .i64 (x2 - 1))))) 64 (sI (x13))) 65 (sI (x1))) 66 (sI ((IntKind.wrap .i64 (x13 - x1))))) 67 (sI ((IntKind.wrap .i64 ((IntKind.wrap .i64 (x2 - 1)) - (IntKind.wrap .i64 (x13 - x1))))))) 13 (sI ((IntKind.wrap .i64 ((IntKind.wrap .i64 (x2 - 1)) - (IntKind.wrap .i64 (x13 - x1))))))) V0 hp) := by kernel_rfl
theorem F128_r26 (e : Env) (hp : HP) (K : Env → PV → HP → Prop) : RW Try.prog 148 [] (opsAt Try.f128 [1, 1, 0, 0, 0, 1, 1, 1, 1, 1, 0, 1, 0, 1, 1]) (List.range 1) e V0 hp K =
    (K (upd e 14 (sI (1))) V0 hp) := by kernel_rfl
def F128_j3 (x0a : Option Addr) (x0n : Nat) (x0c : Nat) (x1 : Int) (x2 : Int) (x3 : Int) (x4 : Value) (x10 : Bool) (x11 : Bool) (x12 : Int) (hp : HP) (I2 : (Int × Int × Int × Bool × Bool) → HP → Prop) (K : Value → HP → Prop) : Prop :=
  (CF Try.prog 149 [(Value.slice x0a x0n x0c), (Value.int .i64 x1), (Value.int .i64 x2), x4] hp fun u_5 h_6 => (tup2V u_5 fun u_7 u_8 => (intV u_7 .i64 fun i_9 => (intV u_8 .i64 fun i_10 => (ite2 ((i_10 : Int) == 2) (CF Try.prog 150 [(Value.slice x0a x0n x0c), (Value.int .i64 x1), (Value.int .i64 x2), x4] h_6 fun u_39 h_40 => (F128_j4 x0a x0n x0c x1 x2 x3 x4 x10 x11 x12 (IntKind.wrap .i64 ((IntKind.wrap .i64 (x2 - 1)) - (IntKind.wrap .i64 (i_9 - x1)))) 1 h_40 I2 K)) (F128_j4 x0a x0n x0c x1 x2 x3 x4 x10 x11 x12 i_9 i_10 h_6 I2 K))))))
theorem F128_r27 (e : Env) (x10 : Bool) (hp : HP) (K : Env → PV → HP → Prop) : RW Try.prog 148 [] (opsAt Try.f128 [1, 1, 0, 0, 0, 1, 1, 1, 0, 0]) (List.range 2) (upd e 10 (sB (x10))) V0 hp K =
    (K (upd (upd (upd e 10 (sB (x10))) 38 (sB (x10))) 39 (sB ((!x10)))) V0 hp) := by kernel_rfl
theorem F128_r28 (e : Env) (x0a : Option Addr) (x0n : Nat) (x0c : Nat) (x1 : Int) (x2 : Int) (x4 : Value) (hp : HP) (K : Env → PV → HP → Prop) : RW Try.prog 148 [] (opsAt Try.f128 [1, 1, 0, 0, 0, 1, 1, 1, 0, 1, 0, 0]) (List.range 5) (upd (upd (upd (upd e 4 (sV x4)) 2 (sI (x2))) 1 (sI (x1))) 0 (sV (Value.slice x0a x0n x0c))) V0 hp K =
    (CF Try.prog 148 [(Value.slice x0a x0n x0c), (Value.int .i64 x1), (Value.int .i64 x2), x4] hp fun u1 h2 => (K (upd (upd (upd (upd (upd (upd (upd (upd (upd e 4 (sV x4)) 2 (sI (x2))) 1 (sI (x1))) 0 (sV (Value.slice x0a x0n x0c))) 40 (sV (Value.slice x0a x0n x0c))) 41 (sI (x1))) 42 (sI (x2))) 43 (sV x4)) 44 (sV u1)) V0 h2)) := by kernel_rfl
theorem F128_r29 (e : Env) (x3 : Int) (hp : HP) (K : Env → PV → HP → Prop) : RW Try.prog 148 [] (opsAt Try.f128 [1, 1, 0, 0, 0, 1, 1, 1, 0, 1, 0, 1]) (List.range 3) (upd e 3 (sI (x3))) V0 hp K =
    (K (upd (upd (upd (upd e 3 (sI (x3))) 45 (sI (x3))) 46 (sI ((IntKind.wrap .i64 (x3 - 1))))) 3 (sI ((IntKind.wrap .i64 (x3 - 1))))) V0 hp) := by kernel_rfl
def F128_l2 (x0a : Option Addr) (x0n : Nat) (x0c : Nat) (x4 : Value) (K : Value → HP → Prop) (I2 : (Int × Int × Int × Bool × Bool) → HP → Prop) (x1 : Int) (x2 : Int) (x3 : Int) (x10 : Bool) (x11 : Bool) (hp : HP) : Prop :=
  (ite2 (decide (((IntKind.wrap .i64 (x2 - x1)) : Int) ≤ 12)) (CF Try.prog 146 [(Value.slice x0a x0n x0c), (Value.int .i64 x1), (Value.int .i64 x2), x4] hp fun u_1 h_2 => (K (.tuple ⟨[]⟩) h_2)) (ite2 ((x3 : Int) == 0) (CF Try.prog 147 [(Value.slice x0a x0n x0c), (Value.int .i64 x1), (Value.int .i64 x2), x4] hp fun u_3 h_4 => (K (.tuple ⟨[]⟩) h_4)) (ite2 (!x10) (CF Try.prog 148 [(Value.slice x0a x0n x0c), (Value.int .i64 x1), (Value.int .i64 x2), x4] hp fun u_41 h_42 => (F128_j3 x0a x0n x0c x1 x2 (IntKind.wrap .i64 (x3 - 1)) x4 x10 x11 (IntKind.wrap .i64 (x2 - x1)) h_42 I2 K)) (F128_j3 x0a x0n x0c x1 x2 x3 x4 x10 x11 (IntKind.wrap .i64 (x2 - x1)) hp I2 K))))
def F128_j1 (x0a : Option Addr) (x0n : Nat) (x0c : Nat) (x1 : Int) (x2 : Int) (x3 : Int) (x4 : Value) (x10 : Bool) (x11 : Bool) (hp : HP) (K : Value → HP → Prop) : Prop :=
  (LoopP (σ := Int × Int × Int × Bool × Bool) (fun I s hp => F128_l2 x0a x0n x0c x4  K I s.1 s.2.1 s.2.2.1 s.2.2.2.1 s.2.2.2.2 hp) (x1, x2, x3, x10, x11) hp)
theorem F128_r30 (e : Env) (hp : HP) (K : Env → PV → HP → Prop) : RW Try.prog 148 [] (opsAt Try.f128 [1, 0]) (List.range 1) e V0 hp K =
    (K (upd e 11 (sB (true))) V0 hp) := by kernel_rfl
def F128 (x0a : Option Addr) (x0n : Nat) (x0c : Nat) (x1 : Int) (x2 : Int) (x3 : Int) (x4 : Value) (hp : HP) (K : Value → HP → Prop) : Prop :=
  (F128_j1 x0a x0n x0c x1 x2 x3 x4 true true hp  K)
noncomputable def F128_code : Code := (.seq (.region 0 (opsAt Try.f128 [0]) false) (.seq (.region 1 (opsAt Try.f128 [1, 0]) false) (.block 0 (.loop (.block 1 (.seq (.region 2 (opsAt Try.f128 [1, 1, 0, 0, 0, 0]) false) (.seq (.seq (.region 3 (opsAt Try.f128 [1, 1, 0, 0, 0, 1, 0, 0]) false) (.cond (.tmp 25) (.seq (.region 4 (opsAt Try.f128 [1, 1, 0, 0, 0, 1, 0, 1, 0, 0]) false) .ret) .skip)) (.seq (.seq (.region 5 (opsAt Try.f128 [1, 1, 0, 0, 0, 1, 1, 0, 0]) false) (.cond (.tmp 32) (.seq (.region 6 (opsAt Try.f128 [1, 1, 0, 0, 0, 1, 1, 0, 1, 0, 0]) false) .ret) .skip)) (.seq (.seq (.region 7 (opsAt Try.f128 [1, 1, 0, 0, 0, 1, 1, 1, 0, 0]) false) (.cond (.tmp 39) (.seq (.region 8 (opsAt Try.f128 [1, 1, 0, 0, 0, 1, 1, 1, 0, 1, 0, 0]) false) (.region 9 (opsAt Try.f128 [1, 1, 0, 0, 0, 1, 1, 1, 0, 1, 0, 1]) false)) .skip)) (.seq (.region 10 (opsAt Try.f128 [1, 1, 0, 0, 0, 1, 1, 1, 1, 0]) false) (.seq (.seq (.region 11 (opsAt Try.f128 [1, 1, 0, 0, 0, 1, 1, 1, 1, 1, 0, 0]) false) (.cond (.tmp 56) (.seq (.region 12 (opsAt Try.f128 [1, 1, 0, 0, 0, 1, 1, 1, 1, 1, 0, 1, 0, 0]) false) (.seq (.region 13 (opsAt Try.f128 [1, 1, 0, 0, 0, 1, 1, 1, 1, 1, 0, 1, 0, 1, 0]) false) (.region 14 (opsAt Try.f128 [1, 1, 0, 0, 0, 1, 1, 1, 1, 1, 0, 1, 0, 1, 1]) false))) .skip)) (.seq (.seq (.region 15 (opsAt Try.f128 [1, 1, 0, 0, 0, 1, 1, 1, 1, 1, 1, 0, 0]) false) (.cond (.tmp 75) (.seq (.region 16 (opsAt Try.f128 [1, 1, 0, 0, 0, 1, 1, 1, 1, 1, 1, 0, 1, 0, 0]) false) (.cond (.tmp 80) .ret .skip)) .skip)) (.seq (.seq (.region 17 (opsAt Try.f128 [1, 1, 0, 0, 0, 1, 1, 1, 1, 1, 1, 1, 0, 0]) true) (.cond (.tmp 97) (.seq (.region 18 (opsAt Try.f128 [1, 1, 0, 0, 0, 1, 1, 1, 1, 1, 1, 1, 0, 1, 0, 0]) false) (.seq (.region 19 (opsAt Try.f128 [1, 1, 0, 0, 0, 1, 1, 1, 1, 1, 1, 1, 0, 1, 0, 1, 0]) false) (.exit 1))) .skip)) (.seq (.region 20 (opsAt Try.f128 [1, 1, 0, 0, 0, 1, 1, 1, 1, 1, 1, 1, 1, 0]) false) (.seq (.region 21 (opsAt Try.f128 [1, 1, 0, 0, 0, 1, 1, 1, 1, 1, 1, 1, 1, 1, 0]) false) (.seq (.region 22 (opsAt Try.f128 [1, 1, 0, 0, 0, 1, 1, 1, 1, 1, 1, 1, 1, 1, 1, 0]) false) (.seq (.region 23 (opsAt Try.f128 [1, 1, 0, 0, 0, 1, 1, 1, 1, 1, 1, 1, 1, 1, 1, 1, 0]) false) (.seq (.region 24 (opsAt Try.f128 [1, 1, 0, 0, 0, 1, 1, 1, 1, 1, 1, 1, 1, 1, 1, 1, 1, 0]) false) (.cond (.tmp 125) (.seq (.region 25 (opsAt Try.f128 [1, 1, 0, 0, 0, 1, 1, 1, 1, 1, 1, 1, 1, 1, 1, 1, 1, 1, 0, 0]) false) (.seq (.region 26 (opsAt Try.f128 [1, 1, 0, 0, 0, 1, 1, 1, 1, 1, 1, 1, 1, 1, 1, 1, 1, 1, 0, 1, 0]) false) (.region 27 (opsAt Try.f128 [1, 1, 0, 0, 0, 1, 1, 1, 1, 1, 1, 1, 1, 1, 1, 1, 1, 1, 0, 1, 1]) false))) (.seq (.region 28 (opsAt Try.f128 [1, 1, 0, 0, 0, 1, 1, 1, 1, 1, 1, 1, 1, 1, 1, 1, 1, 1, 1, 0]) false) (.seq (.region 29 (opsAt Try.f128 [1, 1, 0, 0, 0, 1, 1, 1, 1, 1, 1, 1, 1, 1, 1, 1, 1, 1, 1, 1, 0]) false) (.region 30 (opsAt Try.f128 [1, 1, 0, 0, 0, 1, 1, 1, 1, 1, 1, 1, 1, 1, 1, 1, 1, 1, 1, 1, 1]) false))))))))))))))))))))))
theorem F128_body : Try.f128.body = some F128_code := by kernel_rfl
theorem F128_ok (x0a : Option Addr) (x0n : Nat) (x0c : Nat) (x1 : Int) (x2 : Int) (x3 : Int) (x4 : Value) (hp : HP) (K : Value → HP → Prop) (h : F128 x0a x0n x0c x1 x2 x3 x4 hp K) : CF Try.prog 128 [(Value.slice x0a x0n x0c), (Value.int .i64 x1), (Value.int .i64 x2), (Value.int .i64 x3), x4] hp K := by
 refine .inl ⟨by kernel_rfl, AC.intro (N := 148) Try.func128 F128_body rfl (Nat.le_of_ble_eq_true rfl) ?_⟩
 unfold F128 at h
 unfold F128_code
 refine AWP.seq' ?_
 refine AWP.rgn (F128_r0 (upd (upd (upd (upd (upd E0 4 (sV x4)) 3 (sI (x3))) 2 (sI (x2))) 1 (sI (x1))) 0 (sV (Value.slice x0a x0n x0c)))  hp _) ?_ (Rv 0 _ (Rv 1 _ (Rv 2 _ (Rv 3 _ (Rv 4 _ (Rn)))))) (Sc rfl (Sc rfl (Sc rfl (Sc rfl (Sc rfl (Sn)))))) (Sn)
 refine AWP.seq (fun env pv hp => ∃ (x0a : Option Addr) (x0n : Nat) (x0c : Nat) (x1 : Int) (x2 : Int) (x3 : Int) (x4 : Value) (x10 : Bool) (x11 : Bool), Sub (upd (upd (upd (upd (upd (upd (upd E0 11 (sB (x11))) 10 (sB (x10))) 4 (sV x4)) 3 (sI (x3))) 2 (sI (x2))) 1 (sI (x1))) 0 (sV (Value.slice x0a x0n x0c))) env ∧ Sub V0 pv ∧ (F128_j1 x0a x0n x0c x1 x2 x3 x4 x10 x11 hp  K)) ?_ ?_
 ·refine AWP.rgn (F128_r30 (upd (upd (upd (upd (upd (upd E0 10 (sB (true))) 4 (sV x4)) 3 (sI (x3))) 2 (sI (x2))) 1 (sI (x1))) 0 (sV (Value.slice x0a x0n x0c)))  hp _) ?_ (Rv 0 _ (Rv 1 _ (Rv 2 _ (Rv 3 _ (Rv 4 _ (Rv 10 _ (Rn))))))) (Sc rfl (Sc rfl (Sc rfl (Sc rfl (Sc rfl (Sc rfl (Sn))))))) (Sn)
  exact ⟨x0a, x0n, x0c, x1, x2, x3, x4, true, true, (Sc rfl (Sc rfl (Sc rfl (Sc rfl (Sc rfl (Sc rfl (Sc rfl (Sn)))))))), (Sn), h⟩
 ·rintro env pv hp ⟨x0a, x0n, x0c, x1, x2, x3, x4, x10, x11, he, hv, h⟩
  refine AWP.sub (env' := (upd (upd (upd (upd (upd (upd (upd E0 11 (sB (x11))) 10 (sB (x10))) 4 (sV x4)) 3 (sI (x3))) 2 (sI (x2))) 1 (sI (x1))) 0 (sV (Value.slice x0a x0n x0c)))) (pv' := V0) ?_ (Rv 0 _ (Rv 1 _ (Rv 2 _ (Rv 3 _ (Rv 4 _ (Rv 10 _ (Rv 11 _ (Rn)))))))) he hv (HSub.refl _)
  clear he hv
  unfold F128_j1 at h
  refine AWP.block ?_
  refine AWP.loop (σ := Int × Int × Int × Bool × Bool) (fun I s hp => F128_l2 x0a x0n x0c x4  K I s.1 s.2.1 s.2.2.1 s.2.2.2.1 s.2.2.2.2 hp) (fun s => (upd (upd (upd (upd (upd (upd (upd E0 11 (sB (s.2.2.2.2))) 10 (sB (s.2.2.2.1))) 4 (sV x4)) 3 (sI (s.2.2.1))) 2 (sI (s.2.1))) 1 (sI (s.1))) 0 (sV (Value.slice x0a x0n x0c)))) (fun s => V0) (x1, x2, x3, x10, x11) h (fun s => (Rv 0 _ (Rv 1 _ (Rv 2 _ (Rv 3 _ (Rv 4 _ (Rv 10 _ (Rv 11 _ (Rn))))))))) (Sc rfl (Sc rfl (Sc rfl (Sc rfl (Sc rfl (Sc rfl (Sc rfl (Sn)))))))) (Sn) ?_
  intro I2 s hp h
  obtain ⟨x1, x2, x3, x10, x11⟩ := s
  replace h : F128_l2 x0a x0n x0c x4  K I2 x1 x2 x3 x10 x11 hp := h
  unfold F128_l2 at h
  refine AWP.block ?_
  refine AWP.seq' ?_
  refine AWP.rgn (F128_r1 (upd (upd (upd (upd (upd E0 11 (sB (x11))) 10 (sB (x10))) 4 (sV x4)) 3 (sI (x3))) 0 (sV (Value.slice x0a x0n x0c))) x1 x2 hp _) ?_ (Rv 1 _ (Rv 2 _ (Rv 0 _ (Rv 3 _ (Rv 4 _ (Rv 10 _ (Rv 11 _ (Rn)))))))) (Sc rfl (Sc rfl (Sc rfl (Sc rfl (Sc rfl (Sc rfl (Sc rfl (Sn)))))))) (Sn)
  refine AWP.seq' ?_
  refine AWP.seq' ?_
  refine AWP.rgn (F128_r2 (upd (upd (upd (upd (upd (upd (upd E0 11 (sB (x11))) 10 (sB (x10))) 4 (sV x4)) 3 (sI (x3))) 2 (sI (x2))) 1 (sI (x1))) 0 (sV (Value.slice x0a x0n x0c))) (IntKind.wrap .i64 (x2 - x1)) hp _) ?_ (Rv 12 _ (Rv 0 _ (Rv 1 _ (Rv 2 _ (Rv 3 _ (Rv 4 _ (Rv 10 _ (Rv 11 _ (Rn))))))))) (Sc rfl (Sc rfl (Sc rfl (Sc rfl (Sc rfl (Sc rfl (Sc rfl (Sc rfl (Sn))))))))) (Sn)
  refine AWP.cond (t := (decide (((IntKind.wrap .i64 (x2 - x1)) : Int) ≤ 12))) rfl (fun e => ?_) (fun e => ?_)
  ·replace h := ite2_t h e
   refine AWP.seq' ?_
   refine AWP.rgn (F128_r3 E0 x0a x0n x0c x1 x2 x4 hp _) ?_ (Rv 0 _ (Rv 1 _ (Rv 2 _ (Rv 4 _ (Rn))))) (Sc rfl (Sc rfl (Sc rfl (Sc rfl (Sn))))) (Sn)
   refine CF_mono h (fun u_1 h_2 h => ?_)
   refine AWP.ret ?_
   exact h
  ·replace h := ite2_f h e
   refine AWP.skip ?_
   refine AWP.seq' ?_
   refine AWP.seq' ?_
   refine AWP.rgn (F128_r4 (upd (upd (upd (upd (upd (upd (upd E0 12 (sI ((IntKind.wrap .i64 (x2 - x1))))) 11 (sB (x11))) 10 (sB (x10))) 4 (sV x4)) 2 (sI (x2))) 1 (sI (x1))) 0 (sV (Value.slice x0a x0n x0c))) x3 hp _) ?_ (Rv 3 _ (Rv 0 _ (Rv 1 _ (Rv 2 _ (Rv 4 _ (Rv 10 _ (Rv 11 _ (Rv 12 _ (Rn))))))))) (Sc rfl (Sc rfl (Sc rfl (Sc rfl (Sc rfl (Sc rfl (Sc rfl (Sc rfl (Sn))))))))) (Sn)
   refine AWP.cond (t := ((x3 : Int) == 0)) rfl (fun e => ?_) (fun e => ?_)
   ·replace h := ite2_t h e
    refine AWP.seq' ?_
    refine AWP.rgn (F128_r5 E0 x0a x0n x0c x1 x2 x4 hp _) ?_ (Rv 0 _ (Rv 1 _ (Rv 2 _ (Rv 4 _ (Rn))))) (Sc rfl (Sc rfl (Sc rfl (Sc rfl (Sn))))) (Sn)
    refine CF_mono h (fun u_3 h_4 h => ?_)
    refine AWP.ret ?_
    exact h
   ·replace h := ite2_f h e
    refine AWP.skip ?_
    refine AWP.seq (fun env pv hp => ∃ (x1 : Int) (x2 : Int) (x3 : Int) (x10 : Bool) (x11 : Bool) (x12 : Int), Sub (upd (upd (upd (upd (upd (upd (upd (upd E0 12 (sI (x12))) 11 (sB (x11))) 10 (sB (x10))) 4 (sV x4)) 3 (sI (x3))) 2 (sI (x2))) 1 (sI (x1))) 0 (sV (Value.slice x0a x0n x0c))) env ∧ Sub V0 pv ∧ (F128_j3 x0a x0n x0c x1 x2 x3 x4 x10 x11 x12 hp I2 K)) ?_ ?_
    ·refine AWP.seq' ?_
     refine AWP.rgn (F128_r27 (upd (upd (upd (upd (upd (upd (upd E0 12 (sI ((IntKind.wrap .i64 (x2 - x1))))) 11 (sB (x11))) 4 (sV x4)) 3 (sI (x3))) 2 (sI (x2))) 1 (sI (x1))) 0 (sV (Value.slice x0a x0n x0c))) x10 hp _) ?_ (Rv 10 _ (Rv 0 _ (Rv 1 _ (Rv 2 _ (Rv 3 _ (Rv 4 _ (Rv 11 _ (Rv 12 _ (Rn))))))))) (Sc rfl (Sc rfl (Sc rfl (Sc rfl (Sc rfl (Sc rfl (Sc rfl (Sc rfl (Sn))))))))) (Sn)
     refine AWP.cond (t := (!x10)) rfl (fun e => ?_) (fun e => ?_)
     ·replace h := ite2_t h e
      refine AWP.seq' ?_
      refine AWP.rgn (F128_r28 (upd (upd (upd (upd E0 12 (sI ((IntKind.wrap .i64 (x2 - x1))))) 11 (sB (x11))) 10 (sB (x10))) 3 (sI (x3))) x0a x0n x0c x1 x2 x4 hp _) ?_ (Rv 0 _ (Rv 1 _ (Rv 2 _ (Rv 4 _ (Rv 3 _ (Rv 10 _ (Rv 11 _ (Rv 12 _ (Rn))))))))) (Sc rfl (Sc rfl (Sc rfl (Sc rfl (Sc rfl (Sc rfl (Sc rfl (Sc rfl (Sn))))))))) (Sn)
      refine CF_mono h (fun u_41 h_42 h => ?_)
      refine AWP.rgn (F128_r29 (upd (upd (upd (upd (upd (upd (upd E0 12 (sI ((IntKind.wrap .i64 (x2 - x1))))) 11 (sB (x11))) 10 (sB (x10))) 4 (sV x4)) 2 (sI (x2))) 1 (sI (x1))) 0 (sV (Value.slice x0a x0n x0c))) x3 h_42 _) ?_ (Rv 3 _ (Rv 0 _ (Rv 1 _ (Rv 2 _ (Rv 4 _ (Rv 10 _ (Rv 11 _ (Rv 12 _ (Rn))))))))) (Sc rfl (Sc rfl (Sc rfl (Sc rfl (Sc rfl (Sc rfl (Sc rfl (Sc rfl (Sn))))))))) (Sn)
      exact ⟨x1, x2, (IntKind.wrap .i64 (x3 - 1)), x10, x11, (IntKind.wrap .i64 (x2 - x1)), (Sc rfl (Sc rfl (Sc rfl (Sc rfl (Sc rfl (Sc rfl (Sc rfl (Sc rfl (Sn))))))))), (Sn), h⟩
     ·replace h := ite2_f h e
      refine AWP.skip ?_
      exact ⟨x1, x2, x3, x10, x11, (IntKind.wrap .i64 (x2 - x1)), (Sc rfl (Sc rfl (Sc rfl (Sc rfl (Sc rfl (Sc rfl (Sc rfl (Sc rfl (Sn))))))))), (Sn), h⟩
    ·rintro env pv hp ⟨x1, x2, x3, x10, x11, x12, he, hv, h⟩
     refine AWP.sub (env' := (upd (upd (upd (upd (upd (upd (upd (upd E0 12 (sI (x12))) 11 (sB (x11))) 10 (sB (x10))) 4 (sV x4)) 3 (sI (x3))) 2 (sI (x2))) 1 (sI (x1))) 0 (sV (Value.slice x0a x0n x0c)))) (pv' := V0) ?_ (Rv 0 _ (Rv 1 _ (Rv 2 _ (Rv 3 _ (Rv 4 _ (Rv 10 _ (Rv 11 _ (Rv 12 _ (Rn))))))))) he hv (HSub.refl _)
     clear he hv
     unfold F128_j3 at h
     refine AWP.seq' ?_
     refine AWP.rgn (F128_r6 (upd (upd (upd (upd E0 12 (sI (x12))) 11 (sB (x11))) 10 (sB (x10))) 3 (sI (x3))) x0a x0n x0c x1 x2 x4 hp _) ?_ (Rv 0 _ (Rv 1 _ (Rv 2 _ (Rv 4 _ (Rv 3 _ (Rv 10 _ (Rv 11 _ (Rv 12 _ (Rn))))))))) (Sc rfl (Sc rfl (Sc rfl (Sc rfl (Sc rfl (Sc rfl (Sc rfl (Sc rfl (Sn))))))))) (Sn)
     refine CF_mono h (fun u_5 h_6 h => ?_)
     refine tup2V_mono h (fun u_7 u_8 h => ?_)
     refine intV_mono h (fun i_9 h => ?_)
     refine intV_mono h (fun i_10 h => ?_)
     refine AWP.seq (fun env pv hp => ∃ (x1 : Int) (x2 : Int) (x3 : Int) (x10 : Bool) (x11 : Bool) (x12 : Int) (x13 : Int) (x14 : Int), Sub (upd (upd (upd (upd (upd (upd (upd (upd (upd (upd E0 14 (sI (x14))) 13 (sI (x13))) 12 (sI (x12))) 11 (sB (x11))) 10 (sB (x10))) 4 (sV x4)) 3 (sI (x3))) 2 (sI (x2))) 1 (sI (x1))) 0 (sV (Value.slice x0a x0n x0c))) env ∧ Sub V0 pv ∧ (F128_j4 x0a x0n x0c x1 x2 x3 x4 x10 x11 x12 x13 x14 hp I2 K)) ?_ ?_
     ·refine AWP.seq' ?_
      refine AWP.rgn (F128_r23 (upd (upd (upd (upd (upd (upd (upd (upd (upd E0 13 (sI (i_9))) 12 (sI (x12))) 11 (sB (x11))) 10 (sB (x10))) 4 (sV x4)) 3 (sI (x3))) 2 (sI (x2))) 1 (sI (x1))) 0 (sV (Value.slice x0a x0n x0c))) i_10 h_6 _) ?_ (Rv 14 _ (Rv 0 _ (Rv 1 _ (Rv 2 _ (Rv 3 _ (Rv 4 _ (Rv 10 _ (Rv 11 _ (Rv 12 _ (Rv 13 _ (Rn))))))))))) (Sc rfl (Sc rfl (Sc rfl (Sc rfl (Sc rfl (Sc rfl (Sc rfl (Sc rfl (Sc rfl (Sc rfl (Sn))))))))))) (Sn)
      refine AWP.cond (t := ((i_10 : Int) == 2)) rfl (fun e => ?_) (fun e => ?_)
      ·replace h := ite2_t h e
       refine AWP.seq' ?_
       refine AWP.rgn (F128_r24 (upd (upd (upd (upd (upd E0 13 (sI (i_9))) 12 (sI (x12))) 11 (sB (x11))) 10 (sB (x10))) 3 (sI (x3))) x0a x0n x0c x1 x2 x4 h_6 _) ?_ (Rv 0 _ (Rv 1 _ (Rv 2 _ (Rv 4 _ (Rv 3 _ (Rv 10 _ (Rv 11 _ (Rv 12 _ (Rv 13 _ (Rn)))))))))) (Sc rfl (Sc rfl (Sc rfl (Sc rfl (Sc rfl (Sc rfl (Sc rfl (Sc rfl (Sc rfl (Sn)))))))))) (Sn)
       refine CF_mono h (fun u_39 h_40 h => ?_)
       refine AWP.seq' ?_
       refine AWP.rgn (F128_r25 (upd (upd (upd (upd (upd (upd E0 12 (sI (x12))) 11 (sB (x11))) 10 (sB (x10))) 4 (sV x4)) 3 (sI (x3))) 0 (sV (Value.slice x0a x0n x0c))) x1 x2 i_9 h_40 _) ?_ (Rv 1 _ (Rv 2 _ (Rv 13 _ (Rv 0 _ (Rv 3 _ (Rv 4 _ (Rv 10 _ (Rv 11 _ (Rv 12 _ (Rn)))))))))) (Sc rfl (Sc rfl (Sc rfl (Sc rfl (Sc rfl (Sc rfl (Sc rfl (Sc rfl (Sc rfl (Sn)))))))))) (Sn)
       refine AWP.rgn (F128_r26 (upd (upd (upd (upd (upd (upd (upd (upd (upd E0 13 (sI ((IntKind.wrap .i64 ((IntKind.wrap .i64 (x2 - 1)) - (IntKind.wrap .i64 (i_9 - x1))))))) 12 (sI (x12))) 11 (sB (x11))) 10 (sB (x10))) 4 (sV x4)) 3 (sI (x3))) 2 (sI (x2))) 1 (sI (x1))) 0 (sV (Value.slice x0a x0n x0c)))  h_40 _) ?_ (Rv 0 _ (Rv 1 _ (Rv 2 _ (Rv 3 _ (Rv 4 _ (Rv 10 _ (Rv 11 _ (Rv 12 _ (Rv 13 _ (Rn)))))))))) (Sc rfl (Sc rfl (Sc rfl (Sc rfl (Sc rfl (Sc rfl (Sc rfl (Sc rfl (Sc rfl (Sn)))))))))) (Sn)
       exact ⟨x1, x2, x3, x10, x11, x12, (IntKind.wrap .i64 ((IntKind.wrap .i64 (x2 - 1)) - (IntKind.wrap .i64 (i_9 - x1)))), 1, (Sc rfl (Sc rfl (Sc rfl (Sc rfl (Sc rfl (Sc rfl (Sc rfl (Sc rfl (Sc rfl (Sc rfl (Sn))))))))))), (Sn), h⟩
      ·replace h := ite2_f h e
       refine AWP.skip ?_
       exact ⟨x1, x2, x3, x10, x11, x12, i_9, i_10, (Sc rfl (Sc rfl (Sc rfl (Sc rfl (Sc rfl (Sc rfl (Sc rfl (Sc rfl (Sc rfl (Sc rfl (Sn))))))))))), (Sn), h⟩
     ·rintro env pv hp ⟨x1, x2, x3, x10, x11, x12, x13, x14, he, hv, h⟩
      refine AWP.sub (env' := (upd (upd (upd (upd (upd (upd (upd (upd (upd (upd E0 14 (sI (x14))) 13 (sI (x13))) 12 (sI (x12))) 11 (sB (x11))) 10 (sB (x10))) 4 (sV x4)) 3 (sI (x3))) 2 (sI (x2))) 1 (sI (x1))) 0 (sV (Value.slice x0a x0n x0c)))) (pv' := V0) ?_ (Rv 0 _ (Rv 1 _ (Rv 2 _ (Rv 3 _ (Rv 4 _ (Rv 10 _ (Rv 11 _ (Rv 12 _ (Rv 13 _ (Rv 14 _ (Rn))))))))))) he hv (HSub.refl _)
      clear he hv
      unfold F128_j4 at h
      refine AWP.seq (fun env pv hp => ∃ (x1 : Int) (x2 : Int) (x3 : Int) (x10 : Bool) (x11 : Bool) (x12 : Int) (x13 : Int), Sub (upd (upd (upd (upd (upd (upd (upd (upd (upd E0 13 (sI (x13))) 12 (sI (x12))) 11 (sB (x11))) 10 (sB (x10))) 4 (sV x4)) 3 (sI (x3))) 2 (sI (x2))) 1 (sI (x1))) 0 (sV (Value.slice x0a x0n x0c))) env ∧ Sub V0 pv ∧ (F128_j5 x0a x0n x0c x1 x2 x3 x4 x10 x11 x12 x13 hp I2 K)) ?_ ?_
      ·refine AWP.seq (fun env pv hp => ∃ (x1 : Int) (x2 : Int) (x3 : Int) (x10 : Bool) (x11 : Bool) (x12 : Int) (x13 : Int) (x75 : Bool), Sub (upd (upd (upd (upd (upd (upd (upd (upd (upd (upd E0 75 (sB (x75))) 13 (sI (x13))) 12 (sI (x12))) 11 (sB (x11))) 10 (sB (x10))) 4 (sV x4)) 3 (sI (x3))) 2 (sI (x2))) 1 (sI (x1))) 0 (sV (Value.slice x0a x0n x0c))) env ∧ Sub V0 pv ∧ (F128_j7 x0a x0n x0c x1 x2 x3 x4 x10 x11 x12 x13 x75 hp I2 K)) ?_ ?_
       ·refine AWP.rgn (F128_r22 (upd (upd (upd (upd (upd (upd (upd E0 13 (sI (x13))) 12 (sI (x12))) 4 (sV x4)) 3 (sI (x3))) 2 (sI (x2))) 1 (sI (x1))) 0 (sV (Value.slice x0a x0n x0c))) x10 x11 x14 hp _) ?_ (Rv 10 _ (Rv 11 _ (Rv 14 _ (Rv 0 _ (Rv 1 _ (Rv 2 _ (Rv 3 _ (Rv 4 _ (Rv 12 _ (Rv 13 _ (Rn))))))))))) (Sc rfl (Sc rfl (Sc rfl (Sc rfl (Sc rfl (Sc rfl (Sc rfl (Sc rfl (Sc rfl (Sc rfl (Sn))))))))))) (Sn)
        refine ite2_mono h (fun h => ?_) (fun h => ?_)
        ·refine ite2_mono h (fun h => ?_) (fun h => ?_)
         ·exact ⟨x1, x2, x3, x10, x11, x12, x13, ((x14 : Int) == 1), (Sc rfl (Sc rfl (Sc rfl (Sc rfl (Sc rfl (Sc rfl (Sc rfl (Sc rfl (Sc rfl (Sc rfl (Sn))))))))))), (Sn), h⟩
         ·exact ⟨x1, x2, x3, x10, x11, x12, x13, false, (Sc rfl (Sc rfl (Sc rfl (Sc rfl (Sc rfl (Sc rfl (Sc rfl (Sc rfl (Sc rfl (Sc rfl (Sn))))))))))), (Sn), h⟩
        ·exact ⟨x1, x2, x3, x10, x11, x12, x13, false, (Sc rfl (Sc rfl (Sc rfl (Sc rfl (Sc rfl (Sc rfl (Sc rfl (Sc rfl (Sc rfl (Sc rfl (Sn))))))))))), (Sn), h⟩
       ·rintro env pv hp ⟨x1, x2, x3, x10, x11, x12, x13, x75, he, hv, h⟩
        refine AWP.sub (env' := (upd (upd (upd (upd (upd (upd (upd (upd (upd (upd E0 75 (sB (x75))) 13 (sI (x13))) 12 (sI (x12))) 11 (sB (x11))) 10 (sB (x10))) 4 (sV x4)) 3 (sI (x3))) 2 (sI (x2))) 1 (sI (x1))) 0 (sV (Value.slice x0a x0n x0c)))) (pv' := V0) ?_ (Rv 0 _ (Rv 1 _ (Rv 2 _ (Rv 3 _ (Rv 4 _ (Rv 10 _ (Rv 11 _ (Rv 12 _ (Rv 13 _ (Rv 75 _ (Rn))))))))))) he hv (HSub.refl _)
        clear he hv
        unfold F128_j7 at h
        refine AWP.cond (t := x75) rfl (fun e => ?_) (fun e => ?_)
        ·replace h := ite2_t h e
         refine AWP.seq' ?_
         refine AWP.rgn (F128_r21 (upd (upd (upd (upd (upd E0 13 (sI (x13))) 12 (sI (x12))) 11 (sB (x11))) 10 (sB (x10))) 3 (sI (x3))) x0a x0n x0c x1 x2 x4 hp _) ?_ (Rv 0 _ (Rv 1 _ (Rv 2 _ (Rv 4 _ (Rv 3 _ (Rv 10 _ (Rv 11 _ (Rv 12 _ (Rv 13 _ (Rn)))))))))) (Sc rfl (Sc rfl (Sc rfl (Sc rfl (Sc rfl (Sc rfl (Sc rfl (Sc rfl (Sc rfl (Sn)))))))))) (Sn)
         refine CF_mono h (fun u_36 h_37 h => ?_)
         refine boolV_mono h (fun q_38 h => ?_)
         refine AWP.cond (t := q_38) rfl (fun e => ?_) (fun e => ?_)
         ·replace h := ite2_t h e
          refine AWP.ret ?_
          exact h
         ·replace h := ite2_f h e
          refine AWP.skip ?_
          exact ⟨x1, x2, x3, x10, x11, x12, x13, (Sc rfl (Sc rfl (Sc rfl (Sc rfl (Sc rfl (Sc rfl (Sc rfl (Sc rfl (Sc rfl (Sn)))))))))), (Sn), h⟩
        ·replace h := ite2_f h e
         refine AWP.skip ?_
         exact ⟨x1, x2, x3, x10, x11, x12, x13, (Sc rfl (Sc rfl (Sc rfl (Sc rfl (Sc rfl (Sc rfl (Sc rfl (Sc rfl (Sc rfl (Sn)))))))))), (Sn), h⟩
      ·rintro env pv hp ⟨x1, x2, x3, x10, x11, x12, x13, he, hv, h⟩
       refine AWP.sub (env' := (upd (upd (upd (upd (upd (upd (upd (upd (upd E0 13 (sI (x13))) 12 (sI (x12))) 11 (sB (x11))) 10 (sB (x10))) 4 (sV x4)) 3 (sI (x3))) 2 (sI (x2))) 1 (sI (x1))) 0 (sV (Value.slice x0a x0n x0c)))) (pv' := V0) ?_ (Rv 0 _ (Rv 1 _ (Rv 2 _ (Rv 3 _ (Rv 4 _ (Rv 10 _ (Rv 11 _ (Rv 12 _ (Rv 13 _ (Rn)))))))))) he hv (HSub.refl _)
       clear he hv
       unfold F128_j5 at h
       refine AWP.seq' ?_
       refine AWP.seq (fun env pv hp => ∃ (x1 : Int) (x2 : Int) (x3 : Int) (x10 : Bool) (x11 : Bool) (x12 : Int) (x13 : Int) (x97 : Bool), Sub (upd (upd (upd (upd (upd (upd (upd (upd (upd (upd E0 97 (sB (x97))) 13 (sI (x13))) 12 (sI (x12))) 11 (sB (x11))) 10 (sB (x10))) 4 (sV x4)) 3 (sI (x3))) 2 (sI (x2))) 1 (sI (x1))) 0 (sV (Value.slice x0a x0n x0c))) env ∧ Sub V0 pv ∧ (F128_j6 x0a x0n x0c x1 x2 x3 x4 x10 x11 x12 x13 x97 hp I2 K)) ?_ ?_
       ·refine AWP.rgnD (by kernel_rfl) (by kernel_rfl) (F128_r20 (upd (upd (upd (upd (upd E0 12 (sI (x12))) 11 (sB (x11))) 10 (sB (x10))) 3 (sI (x3))) 2 (sI (x2))) x0a x0n x0c x1 x4 x13 hp _) ?_ (Rv 0 _ (Rv 1 _ (Rv 4 _ (Rv 13 _ (Rv 2 _ (Rv 3 _ (Rv 10 _ (Rv 11 _ (Rv 12 _ (Rn)))))))))) (Sc rfl (Sc rfl (Sc rfl (Sc rfl (Sc rfl (Sc rfl (Sc rfl (Sc rfl (Sc rfl (Sn)))))))))) (Sn)
        refine ite2_mono h (fun h => ?_) (fun h => ?_)
        ·refine ⟨h.1, h.2.1, ?_⟩
         replace h := h.2.2
         refine ptrN_mono h (fun b_24 o_25 h => ?_)
         refine ldL_mono h (fun l_26 h => ?_)
         refine ⟨h.1, h.2.1, ?_⟩
         replace h := h.2.2
         refine ptrN_mono h (fun b_27 o_28 h => ?_)
         refine ldL_mono h (fun l_29 h => ?_)
         refine fnV_mono h (fun f_30 ga_31 gb_32 h => ?_)
         refine CF_mono h (fun u_33 h_34 h => ?_)
         refine intV_mono h (fun i_35 h => ?_)
         exact ⟨x1, x2, x3, x10, x11, x12, x13, (!(decide ((i_35 : Int) < 0))), (Sc rfl (Sc rfl (Sc rfl (Sc rfl (Sc rfl (Sc rfl (Sc rfl (Sc rfl (Sc rfl (Sc rfl (Sn))))))))))), (Sn), h⟩
        ·exact ⟨x1, x2, x3, x10, x11, x12, x13, false, (Sc rfl (Sc rfl (Sc rfl (Sc rfl (Sc rfl (Sc rfl (Sc rfl (Sc rfl (Sc rfl (Sc rfl (Sn))))))))))), (Sn), h⟩
       ·rintro env pv hp ⟨x1, x2, x3, x10, x11, x12, x13, x97, he, hv, h⟩
        refine AWP.sub (env' := (upd (upd (upd (upd (upd (upd (upd (upd (upd (upd E0 97 (sB (x97))) 13 (sI (x13))) 12 (sI (x12))) 11 (sB (x11))) 10 (sB (x10))) 4 (sV x4)) 3 (sI (x3))) 2 (sI (x2))) 1 (sI (x1))) 0 (sV (Value.slice x0a x0n x0c)))) (pv' := V0) ?_ (Rv 0 _ (Rv 1 _ (Rv 2 _ (Rv 3 _ (Rv 4 _ (Rv 10 _ (Rv 11 _ (Rv 12 _ (Rv 13 _ (Rv 97 _ (Rn))))))))))) he hv (HSub.refl _)
        clear he hv
        unfold F128_j6 at h
        refine AWP.cond (t := x97) rfl (fun e => ?_) (fun e => ?_)
        ·replace h := ite2_t h e
         refine AWP.seq' ?_
         refine AWP.rgn (F128_r7 (upd (upd (upd E0 11 (sB (x11))) 10 (sB (x10))) 3 (sI (x3))) x0a x0n x0c x1 x2 x4 x13 hp _) ?_ (Rv 0 _ (Rv 1 _ (Rv 2 _ (Rv 4 _ (Rv 13 _ (Rv 3 _ (Rv 10 _ (Rv 11 _ (Rn))))))))) (Sc rfl (Sc rfl (Sc rfl (Sc rfl (Sc rfl (Sc rfl (Sc rfl (Sc rfl (Sn))))))))) (Sn)
         refine CF_mono h (fun u_11 h_12 h => ?_)
         refine intV_mono h (fun i_13 h => ?_)
         refine AWP.seq' ?_
         refine AWP.rgn (F128_r8 (upd (upd (upd (upd (upd (upd E0 11 (sB (x11))) 10 (sB (x10))) 4 (sV x4)) 3 (sI (x3))) 2 (sI (x2))) 0 (sV (Value.slice x0a x0n x0c))) i_13 h_12 _) ?_ (Rv 15 _ (Rv 0 _ (Rv 2 _ (Rv 3 _ (Rv 4 _ (Rv 10 _ (Rv 11 _ (Rn)))))))) (Sc rfl (Sc rfl (Sc rfl (Sc rfl (Sc rfl (Sc rfl (Sc rfl (Sn)))))))) (Sn)
         refine AWP.exit ?_
         exact ⟨(i_13, x2, x3, x10, x11), (Sc rfl (Sc rfl (Sc rfl (Sc rfl (Sc rfl (Sc rfl (Sc rfl (Sn)))))))), (Sn), h⟩
        ·replace h := ite2_f h e
         refine AWP.skip ?_
         refine AWP.seq' ?_
         refine AWP.rgn (F128_r9 (upd (upd E0 12 (sI (x12))) 3 (sI (x3))) x0a x0n x0c x1 x2 x4 x13 hp _) ?_ (Rv 0 _ (Rv 1 _ (Rv 2 _ (Rv 4 _ (Rv 13 _ (Rv 3 _ (Rv 12 _ (Rn)))))))) (Sc rfl (Sc rfl (Sc rfl (Sc rfl (Sc rfl (Sc rfl (Sc rfl (Sn)))))))) (Sn)
         refine CF_mono h (fun u_14 h_15 h => ?_)
         refine tup2V_mono h (fun u_16 u_17 h => ?_)
         refine intV_mono h (fun i_18 h => ?_)
         refine boolV_mono h (fun q_19 h => ?_)
         refine AWP.seq' ?_
         refine AWP.rgn (F128_r10 (upd (upd (upd (upd (upd (upd (upd E0 16 (sI (i_18))) 12 (sI (x12))) 4 (sV x4)) 3 (sI (x3))) 2 (sI (x2))) 1 (sI (x1))) 0 (sV (Value.slice x0a x0n x0c))) q_19 h_15 _) ?_ (Rv 17 _ (Rv 0 _ (Rv 1 _ (Rv 2 _ (Rv 3 _ (Rv 4 _ (Rv 12 _ (Rv 16 _ (Rn))))))))) (Sc rfl (Sc rfl (Sc rfl (Sc rfl (Sc rfl (Sc rfl (Sc rfl (Sc rfl (Sn))))))))) (Sn)
         refine AWP.seq' ?_
         refine AWP.rgn (F128_r11 (upd (upd (upd (upd (upd E0 12 (sI (x12))) 11 (sB (q_19))) 4 (sV x4)) 3 (sI (x3))) 0 (sV (Value.slice x0a x0n x0c))) x1 x2 i_18 h_15 _) ?_ (Rv 1 _ (Rv 2 _ (Rv 16 _ (Rv 0 _ (Rv 3 _ (Rv 4 _ (Rv 11 _ (Rv 12 _ (Rn))))))))) (Sc rfl (Sc rfl (Sc rfl (Sc rfl (Sc rfl (Sc rfl (Sc rfl (Sc rfl (Sn))))))))) (Sn)
         refine AWP.seq' ?_
         refine AWP.rgn (F128_r12 (upd (upd (upd (upd (upd (upd (upd (upd (upd E0 19 (sI ((IntKind.wrap .i64 (x2 - i_18))))) 18 (sI ((IntKind.wrap .i64 (i_18 - x1))))) 16 (sI (i_18))) 11 (sB (q_19))) 4 (sV x4)) 3 (sI (x3))) 2 (sI (x2))) 1 (sI (x1))) 0 (sV (Value.slice x0a x0n x0c))) x12 h_15 _) ?_ (Rv 12 _ (Rv 0 _ (Rv 1 _ (Rv 2 _ (Rv 3 _ (Rv 4 _ (Rv 11 _ (Rv 16 _ (Rv 18 _ (Rv 19 _ (Rn))))))))))) (Sc rfl (Sc rfl (Sc rfl (Sc rfl (Sc rfl (Sc rfl (Sc rfl (Sc rfl (Sc rfl (Sc rfl (Sn))))))))))) (Sn)
         refine ⟨h.1, ?_⟩
         replace h := h.2
         refine AWP.seq' ?_
         refine AWP.rgn (F128_r13 (upd (upd (upd (upd (upd (upd (upd (upd E0 20 (sI ((IntKind.wrap .i64 (Int.tdiv x12 8))))) 16 (sI (i_18))) 11 (sB (q_19))) 4 (sV x4)) 3 (sI (x3))) 2 (sI (x2))) 1 (sI (x1))) 0 (sV (Value.slice x0a x0n x0c))) (IntKind.wrap .i64 (i_18 - x1)) (IntKind.wrap .i64 (x2 - i_18)) h_15 _) ?_ (Rv 18 _ (Rv 19 _ (Rv 0 _ (Rv 1 _ (Rv 2 _ (Rv 3 _ (Rv 4 _ (Rv 11 _ (Rv 16 _ (Rv 20 _ (Rn))))))))))) (Sc rfl (Sc rfl (Sc rfl (Sc rfl (Sc rfl (Sc rfl (Sc rfl (Sc rfl (Sc rfl (Sc rfl (Sn))))))))))) (Sn)
         refine AWP.cond (t := (decide (((IntKind.wrap .i64 (i_18 - x1)) : Int) < (IntKind.wrap .i64 (x2 - i_18))))) rfl (fun e => ?_) (fun e => ?_)
         ·replace h := ite2_t h e
          refine AWP.seq' ?_
          refine AWP.rgn (F128_r14 (upd (upd (upd (upd (upd (upd (upd E0 16 (sI (i_18))) 11 (sB (q_19))) 4 (sV x4)) 3 (sI (x3))) 2 (sI (x2))) 1 (sI (x1))) 0 (sV (Value.slice x0a x0n x0c))) (IntKind.wrap .i64 (i_18 - x1)) (IntKind.wrap .i64 (Int.tdiv x12 8)) h_15 _) ?_ (Rv 18 _ (Rv 20 _ (Rv 0 _ (Rv 1 _ (Rv 2 _ (Rv 3 _ (Rv 4 _ (Rv 11 _ (Rv 16 _ (Rn)))))))))) (Sc rfl (Sc rfl (Sc rfl (Sc rfl (Sc rfl (Sc rfl (Sc rfl (Sc rfl (Sc rfl (Sn)))))))))) (Sn)
          refine AWP.seq' ?_
          refine AWP.rgn (F128_r15 (upd (upd (upd E0 11 (sB (q_19))) 10 (sB ((decide (((IntKind.wrap .i64 (i_18 - x1)) : Int) ≥ (IntKind.wrap .i64 (Int.tdiv x12 8))))))) 2 (sI (x2))) x0a x0n x0c x1 x3 x4 i_18 h_15 _) ?_ (Rv 0 _ (Rv 1 _ (Rv 3 _ (Rv 4 _ (Rv 16 _ (Rv 2 _ (Rv 10 _ (Rv 11 _ (Rn))))))))) (Sc rfl (Sc rfl (Sc rfl (Sc rfl (Sc rfl (Sc rfl (Sc rfl (Sc rfl (Sn))))))))) (Sn)
          refine CF_mono h (fun u_20 h_21 h => ?_)
          refine AWP.rgn (F128_r16 (upd (upd (upd (upd (upd (upd E0 11 (sB (q_19))) 10 (sB ((decide (((IntKind.wrap .i64 (i_18 - x1)) : Int) ≥ (IntKind.wrap .i64 (Int.tdiv x12 8))))))) 4 (sV x4)) 3 (sI (x3))) 2 (sI (x2))) 0 (sV (Value.slice x0a x0n x0c))) i_18 h_21 _) ?_ (Rv 16 _ (Rv 0 _ (Rv 2 _ (Rv 3 _ (Rv 4 _ (Rv 10 _ (Rv 11 _ (Rn)))))))) (Sc rfl (Sc rfl (Sc rfl (Sc rfl (Sc rfl (Sc rfl (Sc rfl (Sn)))))))) (Sn)
          exact ⟨((IntKind.wrap .i64 (i_18 + 1)), x2, x3, (decide (((IntKind.wrap .i64 (i_18 - x1)) : Int) ≥ (IntKind.wrap .i64 (Int.tdiv x12 8)))), q_19), (Sc rfl (Sc rfl (Sc rfl (Sc rfl (Sc rfl (Sc rfl (Sc rfl (Sn)))))))), (Sn), h⟩
         ·replace h := ite2_f h e
          refine AWP.seq' ?_
          refine AWP.rgn (F128_r17 (upd (upd (upd (upd (upd (upd (upd E0 16 (sI (i_18))) 11 (sB (q_19))) 4 (sV x4)) 3 (sI (x3))) 2 (sI (x2))) 1 (sI (x1))) 0 (sV (Value.slice x0a x0n x0c))) (IntKind.wrap .i64 (x2 - i_18)) (IntKind.wrap .i64 (Int.tdiv x12 8)) h_15 _) ?_ (Rv 19 _ (Rv 20 _ (Rv 0 _ (Rv 1 _ (Rv 2 _ (Rv 3 _ (Rv 4 _ (Rv 11 _ (Rv 16 _ (Rn)))))))))) (Sc rfl (Sc rfl (Sc rfl (Sc rfl (Sc rfl (Sc rfl (Sc rfl (Sc rfl (Sc rfl (Sn)))))))))) (Sn)
          refine AWP.seq' ?_
          refine AWP.rgn (F128_r18 (upd (upd (upd E0 11 (sB (q_19))) 10 (sB ((decide (((IntKind.wrap .i64 (x2 - i_18)) : Int) ≥ (IntKind.wrap .i64 (Int.tdiv x12 8))))))) 1 (sI (x1))) x0a x0n x0c x2 x3 x4 i_18 h_15 _) ?_ (Rv 0 _ (Rv 2 _ (Rv 3 _ (Rv 4 _ (Rv 16 _ (Rv 1 _ (Rv 10 _ (Rv 11 _ (Rn))))))))) (Sc rfl (Sc rfl (Sc rfl (Sc rfl (Sc rfl (Sc rfl (Sc rfl (Sc rfl (Sn))))))))) (Sn)
          refine CF_mono h (fun u_22 h_23 h => ?_)
          refine AWP.rgn (F128_r19 (upd (upd (upd (upd (upd (upd E0 11 (sB (q_19))) 10 (sB ((decide (((IntKind.wrap .i64 (x2 - i_18)) : Int) ≥ (IntKind.wrap .i64 (Int.tdiv x12 8))))))) 4 (sV x4)) 3 (sI (x3))) 1 (sI (x1))) 0 (sV (Value.slice x0a x0n x0c))) i_18 h_23 _) ?_ (Rv 16 _ (Rv 0 _ (Rv 1 _ (Rv 3 _ (Rv 4 _ (Rv 10 _ (Rv 11 _ (Rn)))))))) (Sc rfl (Sc rfl (Sc rfl (Sc rfl (Sc rfl (Sc rfl (Sc rfl (Sn)))))))) (Sn)
          exact ⟨(x1, i_18, x3, (decide (((IntKind.wrap .i64 (x2 - i_18)) : Int) ≥ (IntKind.wrap .i64 (Int.tdiv x12 8)))), q_19), (Sc rfl (Sc rfl (Sc rfl (Sc rfl (Sc rfl (Sc rfl (Sc rfl (Sn)))))))), (Sn), h⟩
-- 87 slices.SortFunc[[]interpreter/expiry.thing,interpreter/expiry.thing]
theorem F87_r0 (e : Env) (x0a : Option Addr) (x0n : Nat) (x0c : Nat) (hp : HP) (K : Env → PV → HP → Prop) : RW Try.prog 14 [] (opsAt Try.f87 [0]) (List.range 3) (upd e 0 (sV (Value.slice x0a x0n x0c))) V0 hp K =
    (K (upd (upd (upd (upd e 0 (sV (Value.slice x0a x0n x0c))) 5 (sV (Value.slice x0a x0n x0c))) 6 (sI ((x0n : Nat)))) 4 (sI ((x0n : Nat)))) V0 hp) := by kernel_rfl
theorem F87_r1 (e : Env) (x0a : Option Addr) (x0n : Nat) (x0c : Nat) (x1 : Value) (x4 : Int) (hp : HP) (K : Env → PV → HP → Prop) : RW Try.prog 14 [] (opsAt Try.f87 [1]) (List.range 7) (upd (upd (upd e 4 (sI (x4))) 1 (sV x1)) 0 (sV (Value.slice x0a x0n x0c))) V0 hp K =
    (CF Try.prog 129 [(Value.int .u64 (IntKind.wrap .u64 (x4)))] hp fun u1 h2 => (intV u1 .i64 fun i3 => (CF Try.prog 128 [(Value.slice x0a x0n x0c), (Value.int .i64 0), (Value.int .i64 x4), (Value.int .i64 i3), x1] h2 fun u4 h5 => (K (upd (upd (upd (upd (upd (upd (upd (upd (upd (upd e 4 (sI (x4))) 1 (sV x1)) 0 (sV (Value.slice x0a x0n x0c))) 7 (sV (Value.slice x0a x0n x0c))) 8 (sI (x4))) 9 (sI (x4))) 10 (sV (Value.int .u64 (IntKind.wrap .u64 (x4))))) 11 (sI (i3))) 12 (sV x1)) 13 (sV u4)) V0 h5)))) := by kernel_rfl
def F87 (x0a : Option Addr) (x0n : Nat) (x0c : Nat) (x1 : Value) (hp : HP) (K : Value → HP → Prop) : Prop :=
  (CF Try.prog 129 [(Value.int .u64 (IntKind.wrap .u64 ((x0n : Nat))))] hp fun u_1 h_2 => (intV u_1 .i64 fun i_3 => (CF Try.prog 128 [(Value.slice x0a x0n x0c), (Value.int .i64 0), (Value.int .i64 (x0n : Nat)), (Value.int .i64 i_3), x1] h_2 fun u_4 h_5 => (K (.tuple ⟨[]⟩) h_5))))
noncomputable def F87_code : Code := (.seq (.region 0 (opsAt Try.f87 [0]) false) (.region 1 (opsAt Try.f87 [1]) false))
theorem F87_body : Try.f87.body = some F87_code := by kernel_rfl
theorem F87_ok (x0a : Option Addr) (x0n : Nat) (x0c : Nat) (x1 : Value) (hp : HP) (K : Value → HP → Prop) (h : F87 x0a x0n x0c x1 hp K) : CF Try.prog 87 [(Value.slice x0a x0n x0c), x1] hp K := by
 refine .inl ⟨by kernel_rfl, AC.intro (N := 14) Try.func87 F87_body rfl (Nat.le_of_ble_eq_true rfl) ?_⟩
 unfold F87 at h
 unfold F87_code
 refine AWP.seq' ?_
 refine AWP.rgn (F87_r0 (upd E0 1 (sV x1)) x0a x0n x0c hp _) ?_ (Rv 0 _ (Rv 1 _ (Rn))) (Sc rfl (Sc rfl (Sn))) (Sn)
 refine AWP.rgn (F87_r1 E0 x0a x0n x0c x1 (x0n : Nat) hp _) ?_ (Rv 0 _ (Rv 1 _ (Rv 4 _ (Rn)))) (Sc rfl (Sc rfl (Sc rfl (Sn)))) (Sn)
 refine CF_mono h (fun u_1 h_2 h => ?_)
 refine intV_mono h (fun i_3 h => ?_)
 refine CF_mono h (fun u_4 h_5 h => ?_)
 exact h
end Go.Proofs

set_option linter.unusedVariables false
set_option maxRecDepth 20000
namespace Go.Proofs
open Go Go.HL
-- 173 (*slices.xorshift).Next
theorem F173_r0 (e : Env) (hp : HP) (K : Env → PV → HP → Prop) : RW Try.prog 33 [] (opsAt Try.f173 [0]) (List.range 1) e V0 hp K =
    (K (upd e 2 (sV (Value.int .u64 0))) V0 hp) := by kernel_rfl
theorem F173_r1 (e : Env) (x0 : Option Addr) (hp : HP) (K : Env → PV → HP → Prop) : RW Try.prog 33 [] (opsAt Try.f173 [1, 0]) (List.range 10) (upd e 0 (sV (Value.pointer x0))) V0 hp K =
    (ptrN x0 fun b1 o2 => (ldV (HP.cell hp b1 o2) fun v3 => (intV v3 .u64 fun i4 => (ptrN x0 fun b5 o6 => (ldV (HP.cell hp b5 o6) fun v7 => (intV v7 .u64 fun i8 => ((0 ≤ (13 : Int)) ∧ (ptrN x0 fun b9 o10 => (HP.st hp b9 o10 (Value.int .u64 (bxor .u64 i4 (IntKind.wrap .u64 (i8 * 2 ^ (min (Int.toNat 13) (IntKind.bits .u64)))))) fun h11 => (K (upd (upd (upd (upd (upd (upd (upd (upd (upd (upd e 0 (sV (Value.pointer x0))) 3 (sV (Value.pointer x0))) 4 (sV (ptr b1 o2))) 5 (sV (Value.int .u64 i4))) 6 (sV (Value.pointer x0))) 7 (sV (ptr b5 o6))) 8 (sV (Value.int .u64 i8))) 9 (sV (Value.int .u64 (IntKind.wrap .u64 (i8 * 2 ^ (min (Int.toNat 13) (IntKind.bits .u64))))))) 10 (sV (Value.int .u64 (bxor .u64 i4 (IntKind.wrap .u64 (i8 * 2 ^ (min (Int.toNat 13) (IntKind.bits .u64)))))))) 11 (sV (ptr b9 o10))) V0 h11)))))))))) := by kernel_rfl
theorem F173_r2 (e : Env) (x0 : Option Addr) (hp : HP) (K : Env → PV → HP → Prop) : RW Try.prog 33 [] (opsAt Try.f173 [1, 1, 0]) (List.range 10) (upd e 0 (sV (Value.pointer x0))) V0 hp K =
    (ptrN x0 fun b1 o2 => (ldV (HP.cell hp b1 o2) fun v3 => (intV v3 .u64 fun i4 => (ptrN x0 fun b5 o6 => (ldV (HP.cell hp b5 o6) fun v7 => (intV v7 .u64 fun i8 => ((0 ≤ (7 : Int)) ∧ (ptrN x0 fun b9 o10 => (HP.st hp b9 o10 (Value.int .u64 (bxor .u64 i4 (Int.fdiv i8 (2 ^ (min (Int.toNat 7) (IntKind.bits .u64)))))) fun h11 => (K (upd (upd (upd (upd (upd (upd (upd (upd (upd (upd e 0 (sV (Value.pointer x0))) 12 (sV (Value.pointer x0))) 13 (sV (ptr b1 o2))) 14 (sV (Value.int .u64 i4))) 15 (sV (Value.pointer x0))) 16 (sV (ptr b5 o6))) 17 (sV (Value.int .u64 i8))) 18 (sV (Value.int .u64 (Int.fdiv i8 (2 ^ (min (Int.toNat 7) (IntKind.bits .u64))))))) 19 (sV (Value.int .u64 (bxor .u64 i4 (Int.fdiv i8 (2 ^ (min (Int.toNat 7) (IntKind.bits .u64)))))))) 20 (sV (ptr b9 o10))) V0 h11)))))))))) := by kernel_rfl
theorem F173_r3 (e : Env) (x0 : Option Addr) (hp : HP) (K : Env → PV → HP → Prop) : RW Try.prog 33 [] (opsAt Try.f173 [1, 1, 1, 0]) (List.range 10) (upd e 0 (sV (Value.pointer x0))) V0 hp K =
    (ptrN x0 fun b1 o2 => (ldV (HP.cell hp b1 o2) fun v3 => (intV v3 .u64 fun i4 => (ptrN x0 fun b5 o6 => (ldV (HP.cell hp b5 o6) fun v7 => (intV v7 .u64 fun i8 => ((0 ≤ (17 : Int)) ∧ (ptrN x0 fun b9 o10 => (HP.st hp b9 o10 (Value.int .u64 (bxor .u64 i4 (IntKind.wrap .u64 (i8 * 2 ^ (min (Int.toNat 17) (IntKind.bits .u64)))))) fun h11 => (K (upd (upd (upd (upd (upd (upd (upd (upd (upd (upd e 0 (sV (Value.pointer x0))) 21 (sV (Value.pointer x0))) 22 (sV (ptr b1 o2))) 23 (sV (Value.int .u64 i4))) 24 (sV (Value.pointer x0))) 25 (sV (ptr b5 o6))) 26 (sV (Value.int .u64 i8))) 27 (sV (Value.int .u64 (IntKind.wrap .u64 (i8 * 2 ^ (min (Int.toNat 17) (IntKind.bits .u64))))))) 28 (sV (Value.int .u64 (bxor .u64 i4 (IntKind.wrap .u64 (i8 * 2 ^ (min (Int.toNat 17) (IntKind.bits .u64)))))))) 29 (sV (ptr b9 o10))) V0 h11)))))))))) := by kernel_rfl
theorem F173_r4 (e : Env) (x0 : Option Addr) (hp : HP) (K : Env → PV → HP → Prop) : RW Try.prog 33 [] (opsAt Try.f173 [1, 1, 1, 1, 0]) (List.range 4) (upd e 0 (sV (Value.pointer x0))) V0 hp K =
    (ptrN x0 fun b1 o2 => (ldV (HP.cell hp b1 o2) fun v3 => (intV v3 .u64 fun i4 => (K (upd (upd (upd (upd (upd e 0 (sV (Value.pointer x0))) 30 (sV (Value.pointer x0))) 31 (sV (ptr b1 o2))) 32 (sV (Value.int .u64 i4))) 2 (sV (Value.int .u64 i4))) V0 hp)))) := by kernel_rfl
def F173 (x0 : Option Addr) (hp : HP) (K : Value → HP → Prop) : Prop :=
  (ptrN x0 fun b_1 o_2 => (ldV (HP.cell hp b_1 o_2) fun v_3 => (intV v_3 .u64 fun i_4 => (ptrN x0 fun b_5 o_6 => (ldV (HP.cell hp b_5 o_6) fun v_7 => (intV v_7 .u64 fun i_8 => ((0 ≤ (13 : Int)) ∧ (ptrN x0 fun b_9 o_10 => (HP.st hp b_9 o_10 (Value.int .u64 (bxor .u64 i_4 (IntKind.wrap .u64 (i_8 * 2 ^ (min (Int.toNat 13) (IntKind.bits .u64)))))) fun h_11 => (ptrN x0 fun b_12 o_13 => (ldV (HP.cell h_11 b_12 o_13) fun v_14 => (intV v_14 .u64 fun i_15 => (ptrN x0 fun b_16 o_17 => (ldV (HP.cell h_11 b_16 o_17) fun v_18 => (intV v_18 .u64 fun i_19 => ((0 ≤ (7 : Int)) ∧ (ptrN x0 fun b_20 o_21 => (HP.st h_11 b_20 o_21 (Value.int .u64 (bxor .u64 i_15 (Int.fdiv i_19 (2 ^ (min (Int.toNat 7) (IntKind.bits .u64)))))) fun h_22 => (ptrN x0 fun b_23 o_24 => (ldV (HP.cell h_22 b_23 o_24) fun v_25 => (intV v_25 .u64 fun i_26 => (ptrN x0 fun b_27 o_28 => (ldV (HP.cell h_22 b_27 o_28) fun v_29 => (intV v_29 .u64 fun i_30 => ((0 ≤ (17 : Int)) ∧ (ptrN x0 fun b_31 o_32 => (HP.st h_22 b_31 o_32 (Value.int .u64 (bxor .u64 i_26 (IntKind.wrap .u64 (i_30 * 2 ^ (min (Int.toNat 17) (IntKind.bits .u64)))))) fun h_33 => (ptrN x0 fun b_34 o_35 => (ldV (HP.cell h_33 b_34 o_35) fun v_36 => (intV v_36 .u64 fun i_37 => (K (Value.int .u64 i_37) h_33)))))))))))))))))))))))))))))))
noncomputable def F173_code : Code := (.seq (.region 0 (opsAt Try.f173 [0]) false) (.seq (.region 1 (opsAt Try.f173 [1, 0]) true) (.seq (.region 2 (opsAt Try.f173 [1, 1, 0]) true) (.seq (.region 3 (opsAt Try.f173 [1, 1, 1, 0]) true) (.seq (.region 4 (opsAt Try.f173 [1, 1, 1, 1, 0]) false) .ret)))))
theorem F173_body : Try.f173.body = some F173_code := by kernel_rfl
theorem F173_ok (x0 : Option Addr) (hp : HP) (K : Value → HP → Prop) (h : F173 x0 hp K) : CF Try.prog 173 [(Value.pointer x0)] hp K := by
 refine .inl ⟨by kernel_rfl, AC.intro (N := 33) Try.func173 F173_body rfl (Nat.le_of_ble_eq_true rfl) ?_⟩
 unfold F173 at h
 unfold F173_code
 refine AWP.seq' ?_
 refine AWP.rgn (F173_r0 (upd E0 0 (sV (Value.pointer x0)))  hp _) ?_ (Rv 0 _ (Rn)) (Sc rfl (Sn)) (Sn)
 refine AWP.seq' ?_
 refine AWP.rgnD (by kernel_rfl) (by kernel_rfl) (F173_r1 E0 x0 hp _) ?_ (Rv 0 _ (Rn)) (Sc rfl (Sn)) (Sn)
 refine ptrN_mono h (fun b_1 o_2 h => ?_)
 refine ldV_mono h (fun v_3 h => ?_)
 refine intV_mono h (fun i_4 h => ?_)
 refine ptrN_mono h (fun b_5 o_6 h => ?_)
 refine ldV_mono h (fun v_7 h => ?_)
 refine intV_mono h (fun i_8 h => ?_)
 refine ⟨h.1, ?_⟩
 replace h := h.2
 refine ptrN_mono h (fun b_9 o_10 h => ?_)
 refine st_mono h (fun h_11 h => ?_)
 refine AWP.seq' ?_
 refine AWP.rgnD (by kernel_rfl) (by kernel_rfl) (F173_r2 E0 x0 h_11 _) ?_ (Rv 0 _ (Rn)) (Sc rfl (Sn)) (Sn)
 refine ptrN_mono h (fun b_12 o_13 h => ?_)
 refine ldV_mono h (fun v_14 h => ?_)
 refine intV_mono h (fun i_15 h => ?_)
 refine ptrN_mono h (fun b_16 o_17 h => ?_)
 refine ldV_mono h (fun v_18 h => ?_)
 refine intV_mono h (fun i_19 h => ?_)
 refine ⟨h.1, ?_⟩
 replace h := h.2
 refine ptrN_mono h (fun b_20 o_21 h => ?_)
 refine st_mono h (fun h_22 h => ?_)
 refine AWP.seq' ?_
 refine AWP.rgnD (by kernel_rfl) (by kernel_rfl) (F173_r3 E0 x0 h_22 _) ?_ (Rv 0 _ (Rn)) (Sc rfl (Sn)) (Sn)
 refine ptrN_mono h (fun b_23 o_24 h => ?_)
 refine ldV_mono h (fun v_25 h => ?_)
 refine intV_mono h (fun i_26 h => ?_)
 refine ptrN_mono h (fun b_27 o_28 h => ?_)
 refine ldV_mono h (fun v_29 h => ?_)
 refine intV_mono h (fun i_30 h => ?_)
 refine ⟨h.1, ?_⟩
 replace h := h.2
 refine ptrN_mono h (fun b_31 o_32 h => ?_)
 refine st_mono h (fun h_33 h => ?_)
 refine AWP.seq' ?_
 refine AWP.rgn (F173_r4 E0 x0 h_33 _) ?_ (Rv 0 _ (Rn)) (Sc rfl (Sn)) (Sn)
 refine ptrN_mono h (fun b_34 o_35 h => ?_)
 refine ldV_mono h (fun v_36 h => ?_)
 refine intV_mono h (fun i_37 h => ?_)
 refine AWP.ret ?_
 exact h
-- 172 slices.nextPowerOfTwo
theorem F172_r0 (e : Env) (hp : HP) (K : Env → PV → HP → Prop) : RW Try.prog 7 [] (opsAt Try.f172 [0]) (List.range 1) e V0 hp K =
    (K (upd e 2 (sV (Value.int .u64 0))) V0 hp) := by kernel_rfl
theorem F172_r1 (e : Env) (x0 : Int) (hp : HP) (K : Env → PV → HP → Prop) : RW Try.prog 7 [] (opsAt Try.f172 [1, 0]) (List.range 5) (upd e 0 (sI (x0))) V0 hp K =
    (CF Try.prog 129 [(Value.int .u64 (IntKind.wrap .u64 (x0)))] hp fun u1 h2 => (intV u1 .i64 fun i3 => ((0 ≤ (i3 : Int)) ∧ (K (upd (upd (upd (upd (upd (upd e 0 (sI (x0))) 3 (sI (x0))) 4 (sV (Value.int .u64 (IntKind.wrap .u64 (x0))))) 5 (sI (i3))) 6 (sV (Value.int .u64 (IntKind.wrap .u64 (1 * 2 ^ (min (Int.toNat i3) (IntKind.bits .u64))))))) 2 (sV (Value.int .u64 (IntKind.wrap .u64 (1 * 2 ^ (min (Int.toNat i3) (IntKind.bits .u64))))))) V0 h2)))) := by kernel_rfl
def F172 (x0 : Int) (hp : HP) (K : Value → HP → Prop) : Prop :=
  (CF Try.prog 129 [(Value.int .u64 (IntKind.wrap .u64 (x0)))] hp fun u_1 h_2 => (intV u_1 .i64 fun i_3 => ((0 ≤ (i_3 : Int)) ∧ (K (Value.int .u64 (IntKind.wrap .u64 (1 * 2 ^ (min (Int.toNat i_3) (IntKind.bits .u64))))) h_2))))
noncomputable def F172_code : Code := (.seq (.region 0 (opsAt Try.f172 [0]) false) (.seq (.region 1 (opsAt Try.f172 [1, 0]) false) .ret))
theorem F172_body : Try.f172.body = some F172_code := by kernel_rfl
theorem F172_ok (x0 : Int) (hp : HP) (K : Value → HP → Prop) (h : F172 x0 hp K) : CF Try.prog 172 [(Value.int .i64 x0)] hp K := by
 refine .inl ⟨by kernel_rfl, AC.intro (N := 7) Try.func172 F172_body rfl (Nat.le_of_ble_eq_true rfl) ?_⟩
 unfold F172 at h
 unfold F172_code
 refine AWP.seq' ?_
 refine AWP.rgn (F172_r0 (upd E0 0 (sI (x0)))  hp _) ?_ (Rv 0 _ (Rn)) (Sc rfl (Sn)) (Sn)
 refine AWP.seq' ?_
 refine AWP.rgn (F172_r1 E0 x0 hp _) ?_ (Rv 0 _ (Rn)) (Sc rfl (Sn)) (Sn)
 refine CF_mono h (fun u_1 h_2 h => ?_)
 refine intV_mono h (fun i_3 h => ?_)
 refine ⟨h.1, ?_⟩
 replace h := h.2
 refine AWP.ret ?_
 exact h
-- 129 math/bits.Len
theorem F129_r0 (e : Env) (hp : HP) (K : Env → PV → HP → Prop) : RW Try.prog 8 [] (opsAt Try.f129 [0]) (List.range 1) e V0 hp K =
    (K (upd e 2 (sI (0))) V0 hp) := by kernel_rfl
theorem F129_r1 (e : Env) (x0 : Int) (hp : HP) (K : Env → PV → HP → Prop) : RW Try.prog 8 [] (opsAt Try.f129 [1, 1, 0]) (List.range 3) (upd e 0 (sV (Value.int .u64 x0))) V0 hp K =
    (CF Try.prog 155 [(Value.int .u64 x0)] hp fun u1 h2 => (intV u1 .i64 fun i3 => (K (upd (upd (upd (upd e 0 (sV (Value.int .u64 x0))) 6 (sV (Value.int .u64 x0))) 7 (sI (i3))) 2 (sI (i3))) V0 h2))) := by kernel_rfl
def F129 (x0 : Int) (hp : HP) (K : Value → HP → Prop) : Prop :=
  (CF Try.prog 155 [(Value.int .u64 x0)] hp fun u_1 h_2 => (intV u_1 .i64 fun i_3 => (K (Value.int .i64 i_3) h_2)))
noncomputable def F129_code : Code := (.seq (.region 0 (opsAt Try.f129 [0]) false) (.seq (.cond (.const (.bool false)) (.seq (.region 1 (opsAt Try.f129 [1, 0, 0, 0]) false) .ret) .skip) (.seq (.region 2 (opsAt Try.f129 [1, 1, 0]) false) .ret)))
theorem F129_body : Try.f129.body = some F129_code := by kernel_rfl
theorem F129_ok (x0 : Int) (hp : HP) (K : Value → HP → Prop) (h : F129 x0 hp K) : CF Try.prog 129 [(Value.int .u64 x0)] hp K := by
 refine .inl ⟨by kernel_rfl, AC.intro (N := 8) Try.func129 F129_body rfl (Nat.le_of_ble_eq_true rfl) ?_⟩
 unfold F129 at h
 unfold F129_code
 refine AWP.seq' ?_
 refine AWP.rgn (F129_r0 (upd E0 0 (sV (Value.int .u64 x0)))  hp _) ?_ (Rv 0 _ (Rn)) (Sc rfl (Sn)) (Sn)
 refine AWP.seq' ?_
 refine AWP.condK ?_
 refine AWP.skip ?_
 refine AWP.seq' ?_
 refine AWP.rgn (F129_r1 E0 x0 hp _) ?_ (Rv 0 _ (Rn)) (Sc rfl (Sn)) (Sn)
 refine CF_mono h (fun u_1 h_2 h => ?_)
 refine intV_mono h (fun i_3 h => ?_)
 refine AWP.ret ?_
 exact h
-- 155 math/bits.Len64
theorem F155_r0 (e : Env) (hp : HP) (K : Env → PV → HP → Prop) : RW Try.prog 25 [] (opsAt Try.f155 [0]) (List.range 1) e V0 hp K =
    (K (upd e 2 (sI (0))) V0 hp) := by kernel_rfl
theorem F155_r1 (e : Env) (x0 : Int) (x2 : Int) (hp : HP) (K : Env → PV → HP → Prop) : RW Try.prog 25 [] (opsAt Try.f155 [1, 1, 1, 1, 0]) (List.range 7) (upd (upd e 2 (sI (x2))) 0 (sV (Value.int .u64 x0))) V0 hp K =
    ((0 ≤ ((IntKind.wrap .u8 (x0)) : Int)) ∧ (((IntKind.wrap .u8 (x0)) : Int) < (ByteArray.size (⟨#[0, 1, 2, 2, 3, 3, 3, 3, 4, 4, 4, 4, 4, 4, 4, 4, 5, 5, 5, 5, 5, 5, 5, 5, 5, 5, 5, 5, 5, 5, 5, 5, 6, 6, 6, 6, 6, 6, 6, 6, 6, 6, 6, 6, 6, 6, 6, 6, 6, 6, 6, 6, 6, 6, 6, 6, 6, 6, 6, 6, 6, 6, 6, 6, 7, 7, 7, 7, 7, 7, 7, 7, 7, 7, 7, 7, 7, 7, 7, 7, 7, 7, 7, 7, 7, 7, 7, 7, 7, 7, 7, 7, 7, 7, 7, 7, 7, 7, 7, 7, 7, 7, 7, 7, 7, 7, 7, 7, 7, 7, 7, 7, 7, 7, 7, 7, 7, 7, 7, 7, 7, 7, 7, 7, 7, 7, 7, 7, 8, 8, 8, 8, 8, 8, 8, 8, 8, 8, 8, 8, 8, 8, 8, 8, 8, 8, 8, 8, 8, 8, 8, 8, 8, 8, 8, 8, 8, 8, 8, 8, 8, 8, 8, 8, 8, 8, 8, 8, 8, 8, 8, 8, 8, 8, 8, 8, 8, 8, 8, 8, 8, 8, 8, 8, 8, 8, 8, 8, 8, 8, 8, 8, 8, 8, 8, 8, 8, 8, 8, 8, 8, 8, 8, 8, 8, 8, 8, 8, 8, 8, 8, 8, 8, 8, 8, 8, 8, 8, 8, 8, 8, 8, 8, 8, 8, 8, 8, 8, 8, 8, 8, 8, 8, 8, 8, 8, 8, 8, 8, 8, 8, 8, 8, 8, 8, 8, 8, 8, 8, 8, 8, 8, 8, 8, 8, 8]⟩ : ByteArray) : Nat)) ∧ (K (upd (upd (upd (upd (upd (upd (upd (upd (upd e 2 (sI (x2))) 0 (sV (Value.int .u64 x0))) 19 (sI (x2))) 20 (sV (Value.int .u64 x0))) 21 (sV (Value.int .u8 (IntKind.wrap .u8 (x0))))) 22 (sV (Value.int .u8 (bt (⟨#[0, 1, 2, 2, 3, 3, 3, 3, 4, 4, 4, 4, 4, 4, 4, 4, 5, 5, 5, 5, 5, 5, 5, 5, 5, 5, 5, 5, 5, 5, 5, 5, 6, 6, 6, 6, 6, 6, 6, 6, 6, 6, 6, 6, 6, 6, 6, 6, 6, 6, 6, 6, 6, 6, 6, 6, 6, 6, 6, 6, 6, 6, 6, 6, 7, 7, 7, 7, 7, 7, 7, 7, 7, 7, 7, 7, 7, 7, 7, 7, 7, 7, 7, 7, 7, 7, 7, 7, 7, 7, 7, 7, 7, 7, 7, 7, 7, 7, 7, 7, 7, 7, 7, 7, 7, 7, 7, 7, 7, 7, 7, 7, 7, 7, 7, 7, 7, 7, 7, 7, 7, 7, 7, 7, 7, 7, 7, 7, 8, 8, 8, 8, 8, 8, 8, 8, 8, 8, 8, 8, 8, 8, 8, 8, 8, 8, 8, 8, 8, 8, 8, 8, 8, 8, 8, 8, 8, 8, 8, 8, 8, 8, 8, 8, 8, 8, 8, 8, 8, 8, 8, 8, 8, 8, 8, 8, 8, 8, 8, 8, 8, 8, 8, 8, 8, 8, 8, 8, 8, 8, 8, 8, 8, 8, 8, 8, 8, 8, 8, 8, 8, 8, 8, 8, 8, 8, 8, 8, 8, 8, 8, 8, 8, 8, 8, 8, 8, 8, 8, 8, 8, 8, 8, 8, 8, 8, 8, 8, 8, 8, 8, 8, 8, 8, 8, 8, 8, 8, 8, 8, 8, 8, 8, 8, 8, 8, 8, 8, 8, 8, 8, 8, 8, 8, 8, 8]⟩ : ByteArray) (IntKind.wrap .u8 (x0)))))) 23 (sI ((IntKind.wrap .i64 ((bt (⟨#[0, 1, 2, 2, 3, 3, 3, 3, 4, 4, 4, 4, 4, 4, 4, 4, 5, 5, 5, 5, 5, 5, 5, 5, 5, 5, 5, 5, 5, 5, 5, 5, 6, 6, 6, 6, 6, 6, 6, 6, 6, 6, 6, 6, 6, 6, 6, 6, 6, 6, 6, 6, 6, 6, 6, 6, 6, 6, 6, 6, 6, 6, 6, 6, 7, 7, 7, 7, 7, 7, 7, 7, 7, 7, 7, 7, 7, 7, 7, 7, 7, 7, 7, 7, 7, 7, 7, 7, 7, 7, 7, 7, 7, 7, 7, 7, 7, 7, 7, 7, 7, 7, 7, 7, 7, 7, 7, 7, 7, 7, 7, 7, 7, 7, 7, 7, 7, 7, 7, 7, 7, 7, 7, 7, 7, 7, 7, 7, 8, 8, 8, 8, 8, 8, 8, 8, 8, 8, 8, 8, 8, 8, 8, 8, 8, 8, 8, 8, 8, 8, 8, 8, 8, 8, 8, 8, 8, 8, 8, 8, 8, 8, 8, 8, 8, 8, 8, 8, 8, 8, 8, 8, 8, 8, 8, 8, 8, 8, 8, 8, 8, 8, 8, 8, 8, 8, 8, 8, 8, 8, 8, 8, 8, 8, 8, 8, 8, 8, 8, 8, 8, 8, 8, 8, 8, 8, 8, 8, 8, 8, 8, 8, 8, 8, 8, 8, 8, 8, 8, 8, 8, 8, 8, 8, 8, 8, 8, 8, 8, 8, 8, 8, 8, 8, 8, 8, 8, 8, 8, 8, 8, 8, 8, 8, 8, 8, 8, 8, 8, 8, 8, 8, 8, 8, 8, 8]⟩ : ByteArray) (IntKind.wrap .u8 (x0)))))))) 24 (sI ((IntKind.wrap .i64 (x2 + (IntKind.wrap .i64 ((bt (⟨#[0, 1, 2, 2, 3, 3, 3, 3, 4, 4, 4, 4, 4, 4, 4, 4, 5, 5, 5, 5, 5, 5, 5, 5, 5, 5, 5, 5, 5, 5, 5, 5, 6, 6, 6, 6, 6, 6, 6, 6, 6, 6, 6, 6, 6, 6, 6, 6, 6, 6, 6, 6, 6, 6, 6, 6, 6, 6, 6, 6, 6, 6, 6, 6, 7, 7, 7, 7, 7, 7, 7, 7, 7, 7, 7, 7, 7, 7, 7, 7, 7, 7, 7, 7, 7, 7, 7, 7, 7, 7, 7, 7, 7, 7, 7, 7, 7, 7, 7, 7, 7, 7, 7, 7, 7, 7, 7, 7, 7, 7, 7, 7, 7, 7, 7, 7, 7, 7, 7, 7, 7, 7, 7, 7, 7, 7, 7, 7, 8, 8, 8, 8, 8, 8, 8, 8, 8, 8, 8, 8, 8, 8, 8, 8, 8, 8, 8, 8, 8, 8, 8, 8, 8, 8, 8, 8, 8, 8, 8, 8, 8, 8, 8, 8, 8, 8, 8, 8, 8, 8, 8, 8, 8, 8, 8, 8, 8, 8, 8, 8, 8, 8, 8, 8, 8, 8, 8, 8, 8, 8, 8, 8, 8, 8, 8, 8, 8, 8, 8, 8, 8, 8, 8, 8, 8, 8, 8, 8, 8, 8, 8, 8, 8, 8, 8, 8, 8, 8, 8, 8, 8, 8, 8, 8, 8, 8, 8, 8, 8, 8, 8, 8, 8, 8, 8, 8, 8, 8, 8, 8, 8, 8, 8, 8, 8, 8, 8, 8, 8, 8, 8, 8, 8, 8, 8, 8]⟩ : ByteArray) (IntKind.wrap .u8 (x0)))))))))) 2 (sI ((IntKind.wrap .i64 (x2 + (IntKind.wrap .i64 ((bt (⟨#[0, 1, 2, 2, 3, 3, 3, 3, 4, 4, 4, 4, 4, 4, 4, 4, 5, 5, 5, 5, 5, 5, 5, 5, 5, 5, 5, 5, 5, 5, 5, 5, 6, 6, 6, 6, 6, 6, 6, 6, 6, 6, 6, 6, 6, 6, 6, 6, 6, 6, 6, 6, 6, 6, 6, 6, 6, 6, 6, 6, 6, 6, 6, 6, 7, 7, 7, 7, 7, 7, 7, 7, 7, 7, 7, 7, 7, 7, 7, 7, 7, 7, 7, 7, 7, 7, 7, 7, 7, 7, 7, 7, 7, 7, 7, 7, 7, 7, 7, 7, 7, 7, 7, 7, 7, 7, 7, 7, 7, 7, 7, 7, 7, 7, 7, 7, 7, 7, 7, 7, 7, 7, 7, 7, 7, 7, 7, 7, 8, 8, 8, 8, 8, 8, 8, 8, 8, 8, 8, 8, 8, 8, 8, 8, 8, 8, 8, 8, 8, 8, 8, 8, 8, 8, 8, 8, 8, 8, 8, 8, 8, 8, 8, 8, 8, 8, 8, 8, 8, 8, 8, 8, 8, 8, 8, 8, 8, 8, 8, 8, 8, 8, 8, 8, 8, 8, 8, 8, 8, 8, 8, 8, 8, 8, 8, 8, 8, 8, 8, 8, 8, 8, 8, 8, 8, 8, 8, 8, 8, 8, 8, 8, 8, 8, 8, 8, 8, 8, 8, 8, 8, 8, 8, 8, 8, 8, 8, 8, 8, 8, 8, 8, 8, 8, 8, 8, 8, 8, 8, 8, 8, 8, 8, 8, 8, 8, 8, 8, 8, 8, 8, 8, 8, 8, 8, 8]⟩ : ByteArray) (IntKind.wrap .u8 (x0)))))))))) V0 hp)) := by kernel_rfl
def F155_j3 (x0 : Int) (x2 : Int) (hp : HP) (K : Value → HP → Prop) : Prop :=
  ((0 ≤ ((IntKind.wrap .u8 (x0)) : Int)) ∧ (((IntKind.wrap .u8 (x0)) : Int) < (ByteArray.size (⟨#[0, 1, 2, 2, 3, 3, 3, 3, 4, 4, 4, 4, 4, 4, 4, 4, 5, 5, 5, 5, 5, 5, 5, 5, 5, 5, 5, 5, 5, 5, 5, 5, 6, 6, 6, 6, 6, 6, 6, 6, 6, 6, 6, 6, 6, 6, 6, 6, 6, 6, 6, 6, 6, 6, 6, 6, 6, 6, 6, 6, 6, 6, 6, 6, 7, 7, 7, 7, 7, 7, 7, 7, 7, 7, 7, 7, 7, 7, 7, 7, 7, 7, 7, 7, 7, 7, 7, 7, 7, 7, 7, 7, 7, 7, 7, 7, 7, 7, 7, 7, 7, 7, 7, 7, 7, 7, 7, 7, 7, 7, 7, 7, 7, 7, 7, 7, 7, 7, 7, 7, 7, 7, 7, 7, 7, 7, 7, 7, 8, 8, 8, 8, 8, 8, 8, 8, 8, 8, 8, 8, 8, 8, 8, 8, 8, 8, 8, 8, 8, 8, 8, 8, 8, 8, 8, 8, 8, 8, 8, 8, 8, 8, 8, 8, 8, 8, 8, 8, 8, 8, 8, 8, 8, 8, 8, 8, 8, 8, 8, 8, 8, 8, 8, 8, 8, 8, 8, 8, 8, 8, 8, 8, 8, 8, 8, 8, 8, 8, 8, 8, 8, 8, 8, 8, 8, 8, 8, 8, 8, 8, 8, 8, 8, 8, 8, 8, 8, 8, 8, 8, 8, 8, 8, 8, 8, 8, 8, 8, 8, 8, 8, 8, 8, 8, 8, 8, 8, 8, 8, 8, 8, 8, 8, 8, 8, 8, 8, 8, 8, 8, 8, 8, 8, 8, 8, 8]⟩ : ByteArray) : Nat)) ∧ (K (Value.int .i64 (IntKind.wrap .i64 (x2 + (IntKind.wrap .i64 ((bt (⟨#[0, 1, 2, 2, 3, 3, 3, 3, 4, 4, 4, 4, 4, 4, 4, 4, 5, 5, 5, 5, 5, 5, 5, 5, 5, 5, 5, 5, 5, 5, 5, 5, 6, 6, 6, 6, 6, 6, 6, 6, 6, 6, 6, 6, 6, 6, 6, 6, 6, 6, 6, 6, 6, 6, 6, 6, 6, 6, 6, 6, 6, 6, 6, 6, 7, 7, 7, 7, 7, 7, 7, 7, 7, 7, 7, 7, 7, 7, 7, 7, 7, 7, 7, 7, 7, 7, 7, 7, 7, 7, 7, 7, 7, 7, 7, 7, 7, 7, 7, 7, 7, 7, 7, 7, 7, 7, 7, 7, 7, 7, 7, 7, 7, 7, 7, 7, 7, 7, 7, 7, 7, 7, 7, 7, 7, 7, 7, 7, 8, 8, 8, 8, 8, 8, 8, 8, 8, 8, 8, 8, 8, 8, 8, 8, 8, 8, 8, 8, 8, 8, 8, 8, 8, 8, 8, 8, 8, 8, 8, 8, 8, 8, 8, 8, 8, 8, 8, 8, 8, 8, 8, 8, 8, 8, 8, 8, 8, 8, 8, 8, 8, 8, 8, 8, 8, 8, 8, 8, 8, 8, 8, 8, 8, 8, 8, 8, 8, 8, 8, 8, 8, 8, 8, 8, 8, 8, 8, 8, 8, 8, 8, 8, 8, 8, 8, 8, 8, 8, 8, 8, 8, 8, 8, 8, 8, 8, 8, 8, 8, 8, 8, 8, 8, 8, 8, 8, 8, 8, 8, 8, 8, 8, 8, 8, 8, 8, 8, 8, 8, 8, 8, 8, 8, 8, 8, 8]⟩ : ByteArray) (IntKind.wrap .u8 (x0)))))))) hp))
theorem F155_r2 (e : Env) (x0 : Int) (hp : HP) (K : Env → PV → HP → Prop) : RW Try.prog 25 [] (opsAt Try.f155 [1, 1, 1, 0, 0]) (List.range 2) (upd e 0 (sV (Value.int .u64 x0))) V0 hp K =
    (K (upd (upd (upd e 0 (sV (Value.int .u64 x0))) 13 (sV (Value.int .u64 x0))) 14 (sB ((decide ((x0 : Int) ≥ 256))))) V0 hp) := by kernel_rfl
theorem F155_r3 (e : Env) (x0 : Int) (hp : HP) (K : Env → PV → HP → Prop) : RW Try.prog 25 [] (opsAt Try.f155 [1, 1, 1, 0, 1, 0, 0]) (List.range 3) (upd e 0 (sV (Value.int .u64 x0))) V0 hp K =
    ((0 ≤ (8 : Int)) ∧ (K (upd (upd (upd (upd e 0 (sV (Value.int .u64 x0))) 15 (sV (Value.int .u64 x0))) 16 (sV (Value.int .u64 (Int.fdiv x0 (2 ^ (min (Int.toNat 8) (IntKind.bits .u64))))))) 0 (sV (Value.int .u64 (Int.fdiv x0 (2 ^ (min (Int.toNat 8) (IntKind.bits .u64))))))) V0 hp)) := by kernel_rfl
theorem F155_r4 (e : Env) (x2 : Int) (hp : HP) (K : Env → PV → HP → Prop) : RW Try.prog 25 [] (opsAt Try.f155 [1, 1, 1, 0, 1, 0, 1]) (List.range 3) (upd e 2 (sI (x2))) V0 hp K =
    (K (upd (upd (upd (upd e 2 (sI (x2))) 17 (sI (x2))) 18 (sI ((IntKind.wrap .i64 (x2 + 8))))) 2 (sI ((IntKind.wrap .i64 (x2 + 8))))) V0 hp) := by kernel_rfl
def F155_j2 (x0 : Int) (x2 : Int) (hp : HP) (K : Value → HP → Prop) : Prop :=
  (ite2 (decide ((x0 : Int) ≥ 256)) ((0 ≤ (8 : Int)) ∧ (F155_j3 (Int.fdiv x0 (2 ^ (min (Int.toNat 8) (IntKind.bits .u64)))) (IntKind.wrap .i64 (x2 + 8)) hp  K)) (F155_j3 x0 x2 hp  K))
theorem F155_r5 (e : Env) (x0 : Int) (hp : HP) (K : Env → PV → HP → Prop) : RW Try.prog 25 [] (opsAt Try.f155 [1, 1, 0, 0]) (List.range 2) (upd e 0 (sV (Value.int .u64 x0))) V0 hp K =
    (K (upd (upd (upd e 0 (sV (Value.int .u64 x0))) 7 (sV (Value.int .u64 x0))) 8 (sB ((decide ((x0 : Int) ≥ 65536))))) V0 hp) := by kernel_rfl
theorem F155_r6 (e : Env) (x0 : Int) (hp : HP) (K : Env → PV → HP → Prop) : RW Try.prog 25 [] (opsAt Try.f155 [1, 1, 0, 1, 0, 0]) (List.range 3) (upd e 0 (sV (Value.int .u64 x0))) V0 hp K =
    ((0 ≤ (16 : Int)) ∧ (K (upd (upd (upd (upd e 0 (sV (Value.int .u64 x0))) 9 (sV (Value.int .u64 x0))) 10 (sV (Value.int .u64 (Int.fdiv x0 (2 ^ (min (Int.toNat 16) (IntKind.bits .u64))))))) 0 (sV (Value.int .u64 (Int.fdiv x0 (2 ^ (min (Int.toNat 16) (IntKind.bits .u64))))))) V0 hp)) := by kernel_rfl
theorem F155_r7 (e : Env) (x2 : Int) (hp : HP) (K : Env → PV → HP → Prop) : RW Try.prog 25 [] (opsAt Try.f155 [1, 1, 0, 1, 0, 1]) (List.range 3) (upd e 2 (sI (x2))) V0 hp K =
    (K (upd (upd (upd (upd e 2 (sI (x2))) 11 (sI (x2))) 12 (sI ((IntKind.wrap .i64 (x2 + 16))))) 2 (sI ((IntKind.wrap .i64 (x2 + 16))))) V0 hp) := by kernel_rfl
def F155_j1 (x0 : Int) (x2 : Int) (hp : HP) (K : Value → HP → Prop) : Prop :=
  (ite2 (decide ((x0 : Int) ≥ 65536)) ((0 ≤ (16 : Int)) ∧ (F155_j2 (Int.fdiv x0 (2 ^ (min (Int.toNat 16) (IntKind.bits .u64)))) (IntKind.wrap .i64 (x2 + 16)) hp  K)) (F155_j2 x0 x2 hp  K))
theorem F155_r8 (e : Env) (x0 : Int) (hp : HP) (K : Env → PV → HP → Prop) : RW Try.prog 25 [] (opsAt Try.f155 [1, 0, 0]) (List.range 2) (upd e 0 (sV (Value.int .u64 x0))) V0 hp K =
    (K (upd (upd (upd e 0 (sV (Value.int .u64 x0))) 3 (sV (Value.int .u64 x0))) 4 (sB ((decide ((x0 : Int) ≥ 4294967296))))) V0 hp) := by kernel_rfl
theorem F155_r9 (e : Env) (x0 : Int) (hp : HP) (K : Env → PV → HP → Prop) : RW Try.prog 25 [] (opsAt Try.f155 [1, 0, 1, 0, 0]) (List.range 3) (upd e 0 (sV (Value.int .u64 x0))) V0 hp K =
    ((0 ≤ (32 : Int)) ∧ (K (upd (upd (upd (upd e 0 (sV (Value.int .u64 x0))) 5 (sV (Value.int .u64 x0))) 6 (sV (Value.int .u64 (Int.fdiv x0 (2 ^ (min (Int.toNat 32) (IntKind.bits .u64))))))) 0 (sV (Value.int .u64 (Int.fdiv x0 (2 ^ (min (Int.toNat 32) (IntKind.bits .u64))))))) V0 hp)) := by kernel_rfl
theorem F155_r10 (e : Env) (hp : HP) (K : Env → PV → HP → Prop) : RW Try.prog 25 [] (opsAt Try.f155 [1, 0, 1, 0, 1]) (List.range 1) e V0 hp K =
    (K (upd e 2 (sI (32))) V0 hp) := by kernel_rfl
def F155 (x0 : Int) (hp : HP) (K : Value → HP → Prop) : Prop :=
  (ite2 (decide ((x0 : Int) ≥ 4294967296)) ((0 ≤ (32 : Int)) ∧ (F155_j1 (Int.fdiv x0 (2 ^ (min (Int.toNat 32) (IntKind.bits .u64)))) 32 hp  K)) (F155_j1 x0 0 hp  K))
noncomputable def F155_code : Code := (.seq (.region 0 (opsAt Try.f155 [0]) false) (.seq (.seq (.region 1 (opsAt Try.f155 [1, 0, 0]) false) (.cond (.tmp 4) (.seq (.region 2 (opsAt Try.f155 [1, 0, 1, 0, 0]) false) (.region 3 (opsAt Try.f155 [1, 0, 1, 0, 1]) false)) .skip)) (.seq (.seq (.region 4 (opsAt Try.f155 [1, 1, 0, 0]) false) (.cond (.tmp 8) (.seq (.region 5 (opsAt Try.f155 [1, 1, 0, 1, 0, 0]) false) (.region 6 (opsAt Try.f155 [1, 1, 0, 1, 0, 1]) false)) .skip)) (.seq (.seq (.region 7 (opsAt Try.f155 [1, 1, 1, 0, 0]) false) (.cond (.tmp 14) (.seq (.region 8 (opsAt Try.f155 [1, 1, 1, 0, 1, 0, 0]) false) (.region 9 (opsAt Try.f155 [1, 1, 1, 0, 1, 0, 1]) false)) .skip)) (.seq (.region 10 (opsAt Try.f155 [1, 1, 1, 1, 0]) false) .ret)))))
theorem F155_body : Try.f155.body = some F155_code := by kernel_rfl
theorem F155_ok (x0 : Int) (hp : HP) (K : Value → HP → Prop) (h : F155 x0 hp K) : CF Try.prog 155 [(Value.int .u64 x0)] hp K := by
 refine .inl ⟨by kernel_rfl, AC.intro (N := 25) Try.func155 F155_body rfl (Nat.le_of_ble_eq_true rfl) ?_⟩
 unfold F155 at h
 unfold F155_code
 refine AWP.seq' ?_
 refine AWP.rgn (F155_r0 (upd E0 0 (sV (Value.int .u64 x0)))  hp _) ?_ (Rv 0 _ (Rn)) (Sc rfl (Sn)) (Sn)
 refine AWP.seq (fun env pv hp => ∃ (x0 : Int) (x2 : Int), Sub (upd (upd E0 2 (sI (x2))) 0 (sV (Value.int .u64 x0))) env ∧ Sub V0 pv ∧ (F155_j1 x0 x2 hp  K)) ?_ ?_
 ·refine AWP.seq' ?_
  refine AWP.rgn (F155_r8 (upd E0 2 (sI (0))) x0 hp _) ?_ (Rv 0 _ (Rv 2 _ (Rn))) (Sc rfl (Sc rfl (Sn))) (Sn)
  refine AWP.cond (t := (decide ((x0 : Int) ≥ 4294967296))) rfl (fun e => ?_) (fun e => ?_)
  ·replace h := ite2_t h e
   refine AWP.seq' ?_
   refine AWP.rgn (F155_r9 E0 x0 hp _) ?_ (Rv 0 _ (Rn)) (Sc rfl (Sn)) (Sn)
   refine ⟨h.1, ?_⟩
   replace h := h.2
   refine AWP.rgn (F155_r10 (upd E0 0 (sV (Value.int .u64 (Int.fdiv x0 (2 ^ (min (Int.toNat 32) (IntKind.bits .u64)))))))  hp _) ?_ (Rv 0 _ (Rn)) (Sc rfl (Sn)) (Sn)
   exact ⟨(Int.fdiv x0 (2 ^ (min (Int.toNat 32) (IntKind.bits .u64)))), 32, (Sc rfl (Sc rfl (Sn))), (Sn), h⟩
  ·replace h := ite2_f h e
   refine AWP.skip ?_
   exact ⟨x0, 0, (Sc rfl (Sc rfl (Sn))), (Sn), h⟩
 ·rintro env pv hp ⟨x0, x2, he, hv, h⟩
  refine AWP.sub (env' := (upd (upd E0 2 (sI (x2))) 0 (sV (Value.int .u64 x0)))) (pv' := V0) ?_ (Rv 0 _ (Rv 2 _ (Rn))) he hv (HSub.refl _)
  clear he hv
  unfold F155_j1 at h
  refine AWP.seq (fun env pv hp => ∃ (x0 : Int) (x2 : Int), Sub (upd (upd E0 2 (sI (x2))) 0 (sV (Value.int .u64 x0))) env ∧ Sub V0 pv ∧ (F155_j2 x0 x2 hp  K)) ?_ ?_
  ·refine AWP.seq' ?_
   refine AWP.rgn (F155_r5 (upd E0 2 (sI (x2))) x0 hp _) ?_ (Rv 0 _ (Rv 2 _ (Rn))) (Sc rfl (Sc rfl (Sn))) (Sn)
   refine AWP.cond (t := (decide ((x0 : Int) ≥ 65536))) rfl (fun e => ?_) (fun e => ?_)
   ·replace h := ite2_t h e
    refine AWP.seq' ?_
    refine AWP.rgn (F155_r6 (upd E0 2 (sI (x2))) x0 hp _) ?_ (Rv 0 _ (Rv 2 _ (Rn))) (Sc rfl (Sc rfl (Sn))) (Sn)
    refine ⟨h.1, ?_⟩
    replace h := h.2
    refine AWP.rgn (F155_r7 (upd E0 0 (sV (Value.int .u64 (Int.fdiv x0 (2 ^ (min (Int.toNat 16) (IntKind.bits .u64))))))) x2 hp _) ?_ (Rv 2 _ (Rv 0 _ (Rn))) (Sc rfl (Sc rfl (Sn))) (Sn)
    exact ⟨(Int.fdiv x0 (2 ^ (min (Int.toNat 16) (IntKind.bits .u64)))), (IntKind.wrap .i64 (x2 + 16)), (Sc rfl (Sc rfl (Sn))), (Sn), h⟩
   ·replace h := ite2_f h e
    refine AWP.skip ?_
    exact ⟨x0, x2, (Sc rfl (Sc rfl (Sn))), (Sn), h⟩
  ·rintro env pv hp ⟨x0, x2, he, hv, h⟩
   refine AWP.sub (env' := (upd (upd E0 2 (sI (x2))) 0 (sV (Value.int .u64 x0)))) (pv' := V0) ?_ (Rv 0 _ (Rv 2 _ (Rn))) he hv (HSub.refl _)
   clear he hv
   unfold F155_j2 at h
   refine AWP.seq (fun env pv hp => ∃ (x0 : Int) (x2 : Int), Sub (upd (upd E0 2 (sI (x2))) 0 (sV (Value.int .u64 x0))) env ∧ Sub V0 pv ∧ (F155_j3 x0 x2 hp  K)) ?_ ?_
   ·refine AWP.seq' ?_
    refine AWP.rgn (F155_r2 (upd E0 2 (sI (x2))) x0 hp _) ?_ (Rv 0 _ (Rv 2 _ (Rn))) (Sc rfl (Sc rfl (Sn))) (Sn)
    refine AWP.cond (t := (decide ((x0 : Int) ≥ 256))) rfl (fun e => ?_) (fun e => ?_)
    ·replace h := ite2_t h e
     refine AWP.seq' ?_
     refine AWP.rgn (F155_r3 (upd E0 2 (sI (x2))) x0 hp _) ?_ (Rv 0 _ (Rv 2 _ (Rn))) (Sc rfl (Sc rfl (Sn))) (Sn)
     refine ⟨h.1, ?_⟩
     replace h := h.2
     refine AWP.rgn (F155_r4 (upd E0 0 (sV (Value.int .u64 (Int.fdiv x0 (2 ^ (min (Int.toNat 8) (IntKind.bits .u64))))))) x2 hp _) ?_ (Rv 2 _ (Rv 0 _ (Rn))) (Sc rfl (Sc rfl (Sn))) (Sn)
     exact ⟨(Int.fdiv x0 (2 ^ (min (Int.toNat 8) (IntKind.bits .u64)))), (IntKind.wrap .i64 (x2 + 8)), (Sc rfl (Sc rfl (Sn))), (Sn), h⟩
    ·replace h := ite2_f h e
     refine AWP.skip ?_
     exact ⟨x0, x2, (Sc rfl (Sc rfl (Sn))), (Sn), h⟩
   ·rintro env pv hp ⟨x0, x2, he, hv, h⟩
    refine AWP.sub (env' := (upd (upd E0 2 (sI (x2))) 0 (sV (Value.int .u64 x0)))) (pv' := V0) ?_ (Rv 0 _ (Rv 2 _ (Rn))) he hv (HSub.refl _)
    clear he hv
    unfold F155_j3 at h
    refine AWP.seq' ?_
    refine AWP.rgn (F155_r1 E0 x0 x2 hp _) ?_ (Rv 0 _ (Rv 2 _ (Rn))) (Sc rfl (Sc rfl (Sn))) (Sn)
    refine ⟨h.1, h.2.1, ?_⟩
    replace h := h.2.2
    refine AWP.ret ?_
    exact h
end Go.Proofs

set_option linter.unusedVariables false
set_option maxRecDepth 20000
namespace Go.Proofs
open Go Go.HL

def lenTab : ByteArray := ⟨#[0, 1, 2, 2, 3, 3, 3, 3, 4, 4, 4, 4, 4, 4, 4, 4, 5, 5, 5, 5, 5, 5, 5, 5, 5, 5, 5, 5, 5, 5, 5, 5, 6, 6, 6, 6, 6, 6, 6, 6, 6, 6, 6, 6, 6, 6, 6, 6, 6, 6, 6, 6, 6, 6, 6, 6, 6, 6, 6, 6, 6, 6, 6, 6, 7, 7, 7, 7, 7, 7, 7, 7, 7, 7, 7, 7, 7, 7, 7, 7, 7, 7, 7, 7, 7, 7, 7, 7, 7, 7, 7, 7, 7, 7, 7, 7, 7, 7, 7, 7, 7, 7, 7, 7, 7, 7, 7, 7, 7, 7, 7, 7, 7, 7, 7, 7, 7, 7, 7, 7, 7, 7, 7, 7, 7, 7, 7, 7, 8, 8, 8, 8, 8, 8, 8, 8, 8, 8, 8, 8, 8, 8, 8, 8, 8, 8, 8, 8, 8, 8, 8, 8, 8, 8, 8, 8, 8, 8, 8, 8, 8, 8, 8, 8, 8, 8, 8, 8, 8, 8, 8, 8, 8, 8, 8, 8, 8, 8, 8, 8, 8, 8, 8, 8, 8, 8, 8, 8, 8, 8, 8, 8, 8, 8, 8, 8, 8, 8, 8, 8, 8, 8, 8, 8, 8, 8, 8, 8, 8, 8, 8, 8, 8, 8, 8, 8, 8, 8, 8, 8, 8, 8, 8, 8, 8, 8, 8, 8, 8, 8, 8, 8, 8, 8, 8, 8, 8, 8, 8, 8, 8, 8, 8, 8, 8, 8, 8, 8, 8, 8, 8, 8, 8, 8, 8, 8]⟩
theorem len_tab : ∀ y : Fin 256, bt lenTab (y.val : Int) = (Sort.bitsLen y.val : Nat) := by decide +kernel
theorem lenTab_size : lenTab.size = 256 := by kernel_rfl

theorem C155 {n : Nat} {hp : HP} {K : Value → HP → Prop} (hn : n ≤ 65535) (h : ∀ L : Nat, L ≤ 16 → n < 2 ^ L → (0 < n → 2 ^ L ≤ 2 * n) → K (.int .i64 L) hp) : CF Try.prog 155 [.int .u64 n] hp K := by
  refine F155_ok n hp K ?_
  have tail : ∀ (y o : Nat), y < 256 → o ≤ 8 → n < 2 ^ (o + Sort.bitsLen y) → (0 < n → 2 ^ (o + Sort.bitsLen y) ≤ 2 * n) → F155_j3 y o hp K := by
    intro y o hy ho h1 h2
    unfold F155_j3
    change (0 ≤ (IntKind.wrap .u8 (y : Int))) ∧ ((IntKind.wrap .u8 (y : Int)) < (ByteArray.size lenTab : Nat)) ∧ K (Value.int .i64 (IntKind.wrap .i64 ((o : Int) + IntKind.wrap .i64 (bt lenTab (IntKind.wrap .u8 (y : Int)))))) hp
    rw [wu8 (by omega) (by omega), lenTab_size]
    have := len_tab ⟨y, hy⟩
    simp only at this
    rw [this]
    have hb : Sort.bitsLen y ≤ 8 := (Sort.bitsLen_le_iff y 8).2 (by omega)
    rw [w64 (n := ((Sort.bitsLen y : Nat) : Int)) (by omega) (by omega), w64 (by omega) (by omega)]
    refine ⟨by omega, by omega, ?_⟩
    have e : (o : Int) + (Sort.bitsLen y : Nat) = ((o + Sort.bitsLen y : Nat) : Int) := by omega
    rw [e]
    exact h _ (by omega) h1 h2
  unfold F155
  rw [decide_eq_false (by omega : ¬ (n : Int) ≥ 4294967296), ite2_false]
  unfold F155_j1
  rw [decide_eq_false (by omega : ¬ (n : Int) ≥ 65536), ite2_false]
  unfold F155_j2
  by_cases h8 : n ≥ 256
  · rw [decide_eq_true (by omega : (n : Int) ≥ 256), ite2_true]
    refine ⟨by omega, ?_⟩
    have e1 : Int.fdiv (n : Int) (2 ^ (min (Int.toNat 8) (IntKind.bits .u64))) = ((n / 256 : Nat) : Int) := by
      show Int.fdiv (n : Int) 256 = _
      rw [Int.fdiv_eq_ediv_of_nonneg _ (by omega)]; omega
    have e2 : IntKind.wrap .i64 ((0 : Int) + 8) = ((8 : Nat) : Int) := by rw [w64 (by omega) (by omega)]; rfl
    rw [e1, e2]
    have ha := Sort.lt_two_pow_bitsLen (n / 256)
    have hb := Sort.two_pow_bitsLen_le (n := n / 256) (by omega)
    have hp : 2 ^ (8 + Sort.bitsLen (n / 256)) = 256 * 2 ^ Sort.bitsLen (n / 256) := by rw [Nat.pow_add]
    refine tail _ 8 (by omega) (by omega) (by rw [hp]; omega) (fun _ => by rw [hp]; omega)
  · rw [decide_eq_false (by omega : ¬ (n : Int) ≥ 256), ite2_false]
    refine tail n 0 (by omega) (by omega) ?_ ?_
    · rw [Nat.zero_add]; exact Sort.lt_two_pow_bitsLen n
    · intro h0; rw [Nat.zero_add]; exact Sort.two_pow_bitsLen_le h0

theorem C129 {n : Nat} {hp : HP} {K : Value → HP → Prop} (hn : n ≤ 65535) (h : ∀ L : Nat, L ≤ 16 → n < 2 ^ L → (0 < n → 2 ^ L ≤ 2 * n) → K (.int .i64 L) hp) : CF Try.prog 129 [.int .u64 n] hp K := by
  refine F129_ok n hp K ?_
  unfold F129
  refine C155 hn fun L h1 h2 h3 => ?_
  rw [intV_int]
  exact h L h1 h2 h3

theorem C172 {n : Nat} {hp : HP} {K : Value → HP → Prop} (hn : n ≤ 65535) (h : ∀ L : Nat, L ≤ 16 → n < 2 ^ L → (0 < n → 2 ^ L ≤ 2 * n) → K (.int .u64 ((2 ^ L : Nat) : Int)) hp) : CF Try.prog 172 [.int .i64 n] hp K := by
  refine F172_ok n hp K ?_
  unfold F172
  rw [wu64 (by omega) (by omega)]
  refine C129 hn fun L h1 h2 h3 => ?_
  rw [intV_int]
  refine ⟨by omega, ?_⟩
  have e : min (Int.toNat (L : Int)) (IntKind.bits .u64) = L := by
    show min (Int.toNat (L : Int)) 64 = L
    rw [Int.toNat_natCast]; omega
  have hle : 2 ^ L ≤ 2 ^ 16 := Nat.pow_le_pow_right (by omega) h1
  rw [e]
  have e2 : (1 : Int) * 2 ^ L = ((2 ^ L : Nat) : Int) := by rw [Int.one_mul]; simp
  rw [e2, wu64 (by omega) (by omega)]
  exact h L h1 h2 h3

theorem C173 {r : Nat} {y : Int} {hp : HP} {K : Value → HP → Prop} (hr : hp r = .cells 236 [.int .u64 y] 0) (h : ∀ z : Int, K (.int .u64 z) (hp.set r (.cells 236 [.int .u64 z] 0))) : CF Try.prog 173 [.pointer (some ⟨r, 0, none⟩)] hp K := by
  refine F173_ok _ hp K ?_
  unfold F173
  have hc : ∀ o, hp.cell r o = [Value.int .u64 y][o]? := fun o => HP.cell_of hr
  simp only [ptrN_some, hc, List.getElem?_cons_zero, ldV_some, intV_int]
  refine ⟨by omega, ?_⟩
  refine HP.st_at hr (by simp) ?_
  simp only [List.set_cons_zero]
  generalize bxor .u64 y _ = y2
  have hr2 : (hp.set r (.cells 236 [.int .u64 y2] 0)) r = .cells 236 [.int .u64 y2] 0 := HP.set_eq ..
  have hc2 : ∀ o, (hp.set r (.cells 236 [.int .u64 y2] 0)).cell r o = [Value.int .u64 y2][o]? := fun o => HP.cell_of hr2
  simp only [hc2, List.getElem?_cons_zero, ldV_some, intV_int]
  refine ⟨by omega, ?_⟩
  refine HP.st_at hr2 (by simp) ?_
  simp only [List.set_cons_zero, HP.set_set]
  generalize bxor .u64 y2 _ = y3
  have hr3 : (hp.set r (.cells 236 [.int .u64 y3] 0)) r = .cells 236 [.int .u64 y3] 0 := HP.set_eq ..
  have hc3 : ∀ o, (hp.set r (.cells 236 [.int .u64 y3] 0)).cell r o = [Value.int .u64 y3][o]? := fun o => HP.cell_of hr3
  simp only [hc3, List.getElem?_cons_zero, ldV_some, intV_int]
  refine ⟨by omega, ?_⟩
  refine HP.st_at hr3 (by simp) ?_
  simp only [List.set_cons_zero, HP.set_set]
  generalize bxor .u64 y3 _ = y4
  have hr4 : (hp.set r (.cells 236 [.int .u64 y4] 0)) r = .cells 236 [.int .u64 y4] 0 := HP.set_eq ..
  have hc4 : ∀ o, (hp.set r (.cells 236 [.int .u64 y4] 0)).cell r o = [Value.int .u64 y4][o]? := fun o => HP.cell_of hr4
  simp only [hc4, List.getElem?_cons_zero, ldV_some, intV_int]
  exact h y4

end Go.Proofs

set_option linter.unusedVariables false
set_option maxRecDepth 20000
namespace Go.Proofs
open Go Go.HL

section
variable {f : FuncId} {ga gb : List Value} {hp0 : HP} {b sp n c : Nat} {cf : Exp.Th → Exp.Th → Int}

theorem S148 {v : Value} {d : Array Exp.Th} {lo hi : Nat} {K : Value → HP → Prop} (hs : d.size = n) (hlo : lo ≤ hi) (hf : hi ≤ n) (hn : n ≤ 65535)
    (h : ∀ d', Sort.PermIn lo hi d d' → K (.tuple ⟨[]⟩) (HA hp0 b 148 sp th d')) :
    CF Try.prog 148 [.slice (some ⟨b, 0, none⟩) n c, .int .i64 lo, .int .i64 hi, v] (HA hp0 b 148 sp th d) K := by
  refine CF.drop (F148_ok _ n c lo hi _ _ _ ?_)
  unfold F148
  have w1 : IntKind.wrap .i64 ((hi : Int) - (lo : Int)) = ((hi - lo : Nat) : Int) := wi (by omega) (by omega)
  rw [w1]
  by_cases h8 : hi - lo ≥ 8
  · rw [decide_eq_true (by omega : ((hi - lo : Nat) : Int) ≥ 8), ite2_true]
    intro r hr
    obtain ⟨hrb, hr0⟩ := HA.ne_of_none hr
    refine HP.st_at (HP.set_eq ..) (by simp) ?_
    simp only [List.set_cons_zero, HP.set_set]
    rw [HA.set_comm hrb]
    refine C172 (n := hi - lo) (by omega) fun L hL1 hL2 hL3 => ?_
    have hL4 := hL3 (by omega)
    have hL5 : 2 ^ L ≤ 2 ^ 16 := Nat.pow_le_pow_right (by omega) hL1
    rw [intV_int]
    refine ⟨by omega, ?_⟩
    have e4 : Int.tdiv ((hi - lo : Nat) : Int) 4 = (((hi - lo) / 4 : Nat) : Int) := rfl
    generalize hm : hi - lo = m at *
    rw [e4]
    have v1 : IntKind.wrap .i64 ((m / 4 : Nat) : Int) = ((m / 4 : Nat) : Int) := wi rfl (by omega)
    have v2 : IntKind.wrap .i64 (((m / 4 : Nat) : Int) * 2) = ((m / 4 * 2 : Nat) : Int) := wi (by omega) (by omega)
    have v3 : IntKind.wrap .i64 ((lo : Int) + ((m / 4 * 2 : Nat) : Int)) = ((lo + m / 4 * 2 : Nat) : Int) := wi (by omega) (by omega)
    have v4 : IntKind.wrap .i64 (((lo + m / 4 * 2 : Nat) : Int) - 1) = ((lo + m / 4 * 2 - 1 : Nat) : Int) := wi (by omega) (by omega)
    have v5 : IntKind.wrap .i64 (((lo + m / 4 * 2 : Nat) : Int) + 1) = ((lo + m / 4 * 2 + 1 : Nat) : Int) := wi (by omega) (by omega)
    rw [v1, v2, v3, v4]
    unfold F148_j1
    generalize hz0 : IntKind.wrap .u64 (m : Int) = z0
    refine LoopP.by (J := fun k (x : Int) hp => ∃ (i : Nat) (d' : Array Exp.Th) (z : Int), x = i ∧ hp = HA (hp0.set r (.cells 236 [.int .u64 z] 0)) b 148 sp th d' ∧ Sort.PermIn lo hi d d' ∧ lo ≤ i ∧ k = lo + m / 4 * 2 + 2 - i) ?_
      (n := lo + m / 4 * 2 + 2 - (lo + m / 4 * 2 - 1)) ⟨lo + m / 4 * 2 - 1, d, z0, rfl, rfl, Sort.permIn_refl d lo hi, by omega, rfl⟩
    rintro I k x hp ⟨i, d', z, rfl, rfl, hpm, hli, rfl⟩ hI
    unfold F148_l2
    refine ⟨by omega, ?_⟩
    rw [e4, v1, v2, v3, v5]
    by_cases hi' : i ≤ lo + m / 4 * 2 + 1
    · rw [decide_eq_true (by omega : (i : Int) ≤ ((lo + m / 4 * 2 + 1 : Nat) : Int)), ite2_true]
      refine C173 (y := z) (by rw [HA.ne hrb, HP.set_eq]) fun z' => ?_
      rw [HA.set_comm hrb, HP.set_set, intV_int]
      have u1 : IntKind.wrap .u64 (((2 ^ L : Nat) : Int) - 1) = ((2 ^ L - 1 : Nat) : Int) := by rw [wu64 (by omega) (by omega)]; omega
      rw [u1]
      have hbd := band_le (z := z') (m := ((2 ^ L - 1 : Nat) : Int)) (by omega) (by omega)
      generalize band .u64 z' ((2 ^ L - 1 : Nat) : Int) = w at hbd
      obtain ⟨o, rfl⟩ : ∃ o : Nat, w = o := ⟨w.toNat, by omega⟩
      rw [w64 (n := (o : Int)) (by omega) (by omega)]
      have hs' : d'.size = n := by rw [hpm.1]; exact hs
      have step : ∀ o : Nat, o < m → F148_j3 (some ⟨b, 0, none⟩) n c lo m (some ⟨r, 0, none⟩) ((2 ^ L : Nat) : Int) i o (HA (hp0.set r (.cells 236 [.int .u64 z'] 0)) b 148 sp th d') I (fun v hp' => ∃ hp'', HSub hp'' hp' ∧ K v hp'') := by
        intro o ho
        unfold F148_j3
        have x1 : IntKind.wrap .i64 ((lo : Int) + (o : Int)) = ((lo + o : Nat) : Int) := wi (by omega) (by omega)
        have x2 : IntKind.wrap .i64 ((i : Int) + 1) = ((i + 1 : Nat) : Int) := wi (by omega) (by omega)
        rw [x1, x2]
        refine swapP th_len th_one hs' (i := i) (j := lo + o) rfl rfl (by omega) (by omega) ?_
        exact hI (lo + m / 4 * 2 + 2 - (i + 1)) _ _ (by omega) ⟨i + 1, _, z', rfl, rfl, Sort.permIn_trans _ _ _ _ _ hpm (Sort.swp_permIn d' lo hi i (lo + o) (by omega) (by omega) (by omega) (by omega) (by omega)), by omega, rfl⟩
      by_cases hom : o ≥ m
      · rw [decide_eq_true (by omega : (o : Int) ≥ (m : Int)), ite2_true]
        have x3 : IntKind.wrap .i64 ((o : Int) - (m : Int)) = ((o - m : Nat) : Int) := wi (by omega) (by omega)
        rw [x3]
        exact step (o - m) (by omega)
      · rw [decide_eq_false (by omega : ¬ (o : Int) ≥ (m : Int)), ite2_false]
        exact step o (by omega)
    · rw [decide_eq_false (by omega : ¬ (i : Int) ≤ ((lo + m / 4 * 2 + 1 : Nat) : Int)), ite2_false]
      exact ⟨_, HA.sub (HSub.set_fresh hp0 _ hr0), h d' hpm⟩
  · rw [decide_eq_false (by omega : ¬ ((hi - lo : Nat) : Int) ≥ 8), ite2_false]
    exact ⟨_, HSub.refl _, h d (Sort.permIn_refl d lo hi)⟩

/-- With the counter of swaps beside. -/
theorem S189 (hx : CmpX Try.prog f ga gb hp0 b 148 sp th n cf) {d : Array Exp.Th} {i j r : Nat} {s : Int} {K : Value → HP → Prop} (hs : d.size = n) (hi : i < n) (hj : j < n) (hrb : r ≠ b) (hr0 : hp0 r = .none)
    (h : ∀ (s' : Int) (x y : Nat), (x = i ∧ y = j) ∨ (x = j ∧ y = i) → K (.tuple ⟨[.int .i64 x, .int .i64 y]⟩) (HA (hp0.set r (.cells 3 [.int .i64 s'] 0)) b 148 sp th d)) :
    CF Try.prog 189 [.slice (some ⟨b, 0, none⟩) n c, .int .i64 i, .int .i64 j, .pointer (some ⟨r, 0, none⟩), .func (.func f) ⟨ga⟩ ⟨gb⟩] (HA (hp0.set r (.cells 3 [.int .i64 s] 0)) b 148 sp th d) K := by
  refine F189_ok _ n c i j _ _ _ K ?_
  unfold F189
  refine cmpP (hx _ (HSub.set_fresh hp0 _ hr0)) th_len hs (i := j) (j := i) rfl rfl hj hi ?_
  cases decide (cf d[j]! d[i]! < 0)
  · rw [ite2_false]
    exact h s i j (.inl ⟨rfl, rfl⟩)
  · have hc : (HA (hp0.set r (.cells 3 [.int .i64 s] 0)) b 148 sp th d) r = .cells 3 [.int .i64 s] 0 := by rw [HA.ne hrb, HP.set_eq]
    rw [ite2_true, ptrN_some, HP.cell_of hc]
    simp only [List.getElem?_cons_zero, ldV_some, intV_int, ptrN_some]
    refine HP.st_at hc (by simp) ?_
    rw [List.set_cons_zero, HA.set_comm hrb, HP.set_set]
    exact h _ j i (.inr ⟨rfl, rfl⟩)

theorem S175 (hx : CmpX Try.prog f ga gb hp0 b 148 sp th n cf) {d : Array Exp.Th} {i j k r : Nat} {s : Int} {K : Value → HP → Prop} (hs : d.size = n) (hi : i < n) (hj : j < n) (hk : k < n) (hrb : r ≠ b) (hr0 : hp0 r = .none)
    (h : ∀ (s' : Int) (x : Nat), x = i ∨ x = j ∨ x = k → K (.int .i64 x) (HA (hp0.set r (.cells 3 [.int .i64 s'] 0)) b 148 sp th d)) :
    CF Try.prog 175 [.slice (some ⟨b, 0, none⟩) n c, .int .i64 i, .int .i64 j, .int .i64 k, .pointer (some ⟨r, 0, none⟩), .func (.func f) ⟨ga⟩ ⟨gb⟩] (HA (hp0.set r (.cells 3 [.int .i64 s] 0)) b 148 sp th d) K := by
  refine F175_ok _ n c i j k _ _ _ K ?_
  unfold F175
  refine S189 hx hs hi hj hrb hr0 fun s1 a1 b1 h1 => ?_
  simp only [tup2V_mk, intV_int]
  refine S189 hx hs (by omega) hk hrb hr0 fun s2 a2 b2 h2 => ?_
  simp only [tup2V_mk, intV_int]
  refine S189 hx hs (by omega) (by omega) hrb hr0 fun s3 a3 b3 h3 => ?_
  simp only [tup2V_mk, intV_int]
  exact h s3 b3 (by omega)

theorem S174 (hx : CmpX Try.prog f ga gb hp0 b 148 sp th n cf) {d : Array Exp.Th} {i r : Nat} {s : Int} {K : Value → HP → Prop} (hs : d.size = n) (hi0 : 0 < i) (hi : i + 1 < n) (hn : n ≤ 65535) (hrb : r ≠ b) (hr0 : hp0 r = .none)
    (h : ∀ (s' : Int) (x : Nat), i - 1 ≤ x → x ≤ i + 1 → K (.int .i64 x) (HA (hp0.set r (.cells 3 [.int .i64 s'] 0)) b 148 sp th d)) :
    CF Try.prog 174 [.slice (some ⟨b, 0, none⟩) n c, .int .i64 i, .pointer (some ⟨r, 0, none⟩), .func (.func f) ⟨ga⟩ ⟨gb⟩] (HA (hp0.set r (.cells 3 [.int .i64 s] 0)) b 148 sp th d) K := by
  refine F174_ok _ n c i _ _ _ K ?_
  unfold F174
  have v1 : IntKind.wrap .i64 ((i : Int) - 1) = ((i - 1 : Nat) : Int) := wi (by omega) (by omega)
  have v2 : IntKind.wrap .i64 ((i : Int) + 1) = ((i + 1 : Nat) : Int) := wi (by omega) (by omega)
  rw [v1, v2]
  refine S175 hx hs (by omega) (by omega) (by omega) hrb hr0 fun s1 x h1 => ?_
  rw [intV_int]
  exact h s1 x (by omega) (by omega)

theorem S149 (hx : CmpX Try.prog f ga gb hp0 b 148 sp th n cf) {d : Array Exp.Th} {lo hi : Nat} {K : Value → HP → Prop} (hs : d.size = n) (hlo : lo < hi) (hf : hi ≤ n) (hn : n ≤ 65535)
    (h : ∀ (p : Nat) (w : Int), lo ≤ p → p < hi → K (.tuple ⟨[.int .i64 p, .int .i64 w]⟩) (HA hp0 b 148 sp th d)) :
    CF Try.prog 149 [.slice (some ⟨b, 0, none⟩) n c, .int .i64 lo, .int .i64 hi, .func (.func f) ⟨ga⟩ ⟨gb⟩] (HA hp0 b 148 sp th d) K := by
  refine CF.drop (F149_ok _ n c lo hi _ _ _ ?_)
  unfold F149
  intro r hr
  obtain ⟨hrb, hr0⟩ := HA.ne_of_none hr
  have w1 : IntKind.wrap .i64 ((hi : Int) - (lo : Int)) = ((hi - lo : Nat) : Int) := wi (by omega) (by omega)
  have e4 : Int.tdiv ((hi - lo : Nat) : Int) 4 = (((hi - lo) / 4 : Nat) : Int) := rfl
  simp only [w1, e4]
  refine ⟨by omega, by omega, by omega, ?_⟩
  clear e4 w1
  rw [HA.set_comm hrb]
  have hmm : hi = lo + (hi - lo) := by omega
  generalize hi - lo = m at *
  subst hmm
  have v0 : IntKind.wrap .i64 ((m / 4 : Nat) : Int) = ((m / 4 : Nat) : Int) := wi rfl (by omega)
  have v1 : IntKind.wrap .i64 (((m / 4 : Nat) : Int) * 1) = ((m / 4 : Nat) : Int) := wi (by omega) (by omega)
  have v2 : IntKind.wrap .i64 (((m / 4 : Nat) : Int) * 2) = ((m / 4 * 2 : Nat) : Int) := wi (by omega) (by omega)
  have v3 : IntKind.wrap .i64 (((m / 4 : Nat) : Int) * 3) = ((m / 4 * 3 : Nat) : Int) := wi (by omega) (by omega)
  have u1 : IntKind.wrap .i64 ((lo : Int) + ((m / 4 : Nat) : Int)) = ((lo + m / 4 : Nat) : Int) := wi (by omega) (by omega)
  have u2 : IntKind.wrap .i64 ((lo : Int) + ((m / 4 * 2 : Nat) : Int)) = ((lo + m / 4 * 2 : Nat) : Int) := wi (by omega) (by omega)
  have u3 : IntKind.wrap .i64 ((lo : Int) + ((m / 4 * 3 : Nat) : Int)) = ((lo + m / 4 * 3 : Nat) : Int) := wi (by omega) (by omega)
  simp only [v0, v1, v2, v3, u1, u2, u3]
  have fin : ∀ (s : Int) (p : Nat), lo ≤ p → p < lo + m → F149_j1 (some ⟨r, 0, none⟩) p (HA (hp0.set r (.cells 3 [.int .i64 s] 0)) b 148 sp th d) (fun v hp' => ∃ hp'', HSub hp'' hp' ∧ K v hp'') := by
    intro s p h1 h2
    have hc : (HA (hp0.set r (.cells 3 [.int .i64 s] 0)) b 148 sp th d) r = .cells 3 [.int .i64 s] 0 := by rw [HA.ne hrb, HP.set_eq]
    unfold F149_j1
    rw [ptrN_some, HP.cell_of hc]
    simp only [List.getElem?_cons_zero, ldV_some, intV_int]
    have hsub := HA.sub (b := b) (e := 148) (sp := sp) (en := th) (d := d) (HSub.set_fresh hp0 (.cells 3 [.int .i64 s] 0) hr0)
    cases (s == 0)
    · rw [ite2_false]
      cases (s == 12)
      · rw [ite2_false]; exact ⟨_, hsub, h p 0 h1 h2⟩
      · rw [ite2_true]; exact ⟨_, hsub, h p 2 h1 h2⟩
    · rw [ite2_true]; exact ⟨_, hsub, h p 1 h1 h2⟩
  have fin2 : ∀ (s : Int) (i j k : Nat), lo ≤ i → i < lo + m → lo ≤ j → j < lo + m → lo ≤ k → k < lo + m → F149_j2 (some ⟨b, 0, none⟩) n c (.func (.func f) ⟨ga⟩ ⟨gb⟩) (some ⟨r, 0, none⟩) i j k (HA (hp0.set r (.cells 3 [.int .i64 s] 0)) b 148 sp th d) (fun v hp' => ∃ hp'', HSub hp'' hp' ∧ K v hp'') := by
    intro s i j k h1 h2 h3 h4 h5 h6
    unfold F149_j2
    refine S175 hx hs (by omega) (by omega) (by omega) hrb hr0 fun s1 x hx1 => ?_
    rw [intV_int]
    exact fin s1 x (by omega) (by omega)
  by_cases h8 : m ≥ 8
  · rw [decide_eq_true (by omega : (m : Int) ≥ 8), ite2_true]
    by_cases h50 : m ≥ 50
    · rw [decide_eq_true (by omega : (m : Int) ≥ 50), ite2_true]
      refine S174 hx hs (by omega) (by omega) hn hrb hr0 fun s1 x1 a1 b1 => ?_
      rw [intV_int]
      refine S174 hx hs (by omega) (by omega) hn hrb hr0 fun s2 x2 a2 b2 => ?_
      rw [intV_int]
      refine S174 hx hs (by omega) (by omega) hn hrb hr0 fun s3 x3 a3 b3 => ?_
      rw [intV_int]
      exact fin2 s3 x1 x2 x3 (by omega) (by omega) (by omega) (by omega) (by omega) (by omega)
    · rw [decide_eq_false (by omega : ¬ (m : Int) ≥ 50), ite2_false]
      exact fin2 0 _ _ _ (by omega) (by omega) (by omega) (by omega) (by omega) (by omega)
  · rw [decide_eq_false (by omega : ¬ (m : Int) ≥ 8), ite2_false]
    exact fin 0 _ (by omega) (by omega)
end
end Go.Proofs

set_option linter.unusedVariables false
set_option maxRecDepth 20000
namespace Go.Proofs
open Go Go.HL

section
variable {f : FuncId} {ga gb : List Value} {hp0 : HP} {b sp n c : Nat} {cf : Exp.Th → Exp.Th → Int}

theorem S146 (hc : CmpOk Try.prog f ga gb hp0 b 148 sp th n cf) {d : Array Exp.Th} {lo hi : Nat} {K : Value → HP → Prop} (hs : d.size = n) (hlo : lo ≤ hi) (hhi : hi ≤ n) (hn : n ≤ 1000000000)
    (h : K (.tuple ⟨[]⟩) (HA hp0 b 148 sp th (Sort.insertionSort (ltC cf) d lo hi))) :
    CF Try.prog 146 [.slice (some ⟨b, 0, none⟩) n c, .int .i64 lo, .int .i64 hi, .func (.func f) ⟨ga⟩ ⟨gb⟩] (HA hp0 b 148 sp th d) K := by
  refine F146_ok _ n c lo hi _ _ K ?_
  unfold F146 F146_j1
  rw [w64 (by omega) (by omega)]
  refine LoopP.by (J := fun k (x : Int) hp => ∃ (i : Nat) (d' : Array Exp.Th), x = i ∧ hp = HA hp0 b 148 sp th d' ∧ d'.size = n ∧ lo < i ∧ k = hi - i ∧ Sort.insOuter (ltC cf) lo hi i d' = Sort.insertionSort (ltC cf) d lo hi) ?_
    (n := hi - (lo + 1)) ⟨lo + 1, d, by omega, rfl, hs, by omega, rfl, rfl⟩
  rintro I k x hp ⟨i, d', rfl, rfl, hs', hli, rfl, he⟩ hI
  unfold F146_l2
  rw [Sort.insOuter] at he
  by_cases hi' : i < hi
  · rw [decide_eq_true (by omega : (i : Int) < (hi : Int)), ite2_true]
    rw [if_pos hi'] at he
    unfold F146_j4
    refine LoopP.by (J := fun k (y : Int) hp => ∃ (j : Nat) (d2 : Array Exp.Th), y = j ∧ hp = HA hp0 b 148 sp th d2 ∧ d2.size = n ∧ j < n ∧ k = j ∧ Sort.insInner (ltC cf) lo j d2 = Sort.insInner (ltC cf) lo i d') ?_
      (n := i) ⟨i, d', rfl, rfl, hs', by omega, rfl, rfl⟩
    rintro I2 k2 y hp2 ⟨j, d2, rfl, rfl, hs2, hj, hk2, he2⟩ hI2
    unfold F146_l5
    have out : Sort.insInner (ltC cf) lo i d' = d2 → F146_j6 (some ⟨b, 0, none⟩) n c lo hi (.func (.func f) ⟨ga⟩ ⟨gb⟩) i j false (HA hp0 b 148 sp th d2) I I2 K := by
      intro heq
      unfold F146_j6 F146_j3
      rw [ite2_false, w64 (by omega) (by omega)]
      exact hI (hi - (i + 1)) _ _ (by omega) ⟨i + 1, d2, by omega, rfl, hs2, by omega, rfl, by rw [← heq]; exact he⟩
    by_cases hjl : lo < j
    · rw [decide_eq_true (by omega : (j : Int) > (lo : Int)), ite2_true]
      obtain ⟨j', rfl⟩ : ∃ j', j = j' + 1 := ⟨j - 1, by omega⟩
      have w1 : IntKind.wrap .i64 (((j' + 1 : Nat) : Int) - 1) = (j' : Int) := by rw [w64 (by omega) (by omega)]; omega
      have g1 := HA.get (hp0 := hp0) (b := b) (e := 148) (sp := sp) th_len (d := d2) (i := j' + 1) (by omega)
      have g0 := HA.get (hp0 := hp0) (b := b) (e := 148) (sp := sp) th_len (d := d2) (i := j') (by omega)
      simp only [w1, ptrN_some, Int.toNat_natCast, g1, g0, ldL_some, fnV_mk]
      refine ⟨by omega, by omega, by omega, by omega, ?_⟩
      refine hc d2 _ _ _ hs2 ?_
      rw [intV_int]
      rw [Sort.insInner] at he2
      have hgt : decide (j' + 1 > lo) = true := decide_eq_true (by omega)
      cases hlt : decide (cf d2[j' + 1]! d2[j']! < 0)
      · have : ltC cf d2[j' + 1]! d2[j']! = false := hlt
        rw [hgt, this] at he2
        exact out (by simpa using he2.symm)
      · have : ltC cf d2[j' + 1]! d2[j']! = true := hlt
        rw [hgt, this] at he2
        simp only [Bool.and_self, if_true] at he2
        unfold F146_j6
        simp only [ite2_true, w1, ptrN_some, Int.toNat_natCast, g0, g1, ldL_some]
        refine ⟨by omega, by omega, by omega, by omega, by omega, by omega, rfl, ?_⟩
        refine HA.st th_len th_one (by omega) _ ?_
        refine ⟨by omega, by omega, rfl, ?_⟩
        refine HA.st th_len th_one (by rw [Array.size_setIfInBounds]; omega) _ ?_
        exact hI2 j' _ _ (by omega) ⟨j', _, rfl, rfl, by rw [Array.size_setIfInBounds, Array.size_setIfInBounds]; exact hs2, by omega, rfl, he2⟩
    · rw [decide_eq_false (by omega : ¬ (j : Int) > (lo : Int)), ite2_false]
      refine out ?_
      cases j with
      | zero => rw [Sort.insInner] at he2; exact he2.symm
      | succ j =>
        rw [Sort.insInner] at he2
        have hgt : decide (j + 1 > lo) = false := decide_eq_false (by omega)
        rw [hgt] at he2
        simpa using he2.symm
  · rw [decide_eq_false (by omega : ¬ (i : Int) < (hi : Int)), ite2_false]
    rw [if_neg hi'] at he
    rw [he]
    exact h
end
end Go.Proofs

set_option linter.unusedVariables false
set_option maxRecDepth 20000
namespace Go.Proofs
open Go Go.HL

section
variable {f : FuncId} {ga gb : List Value} {hp0 : HP} {b sp n c : Nat} {cf : Exp.Th → Exp.Th → Int}

theorem S128 (hx : CmpX Try.prog f ga gb hp0 b 148 sp th n cf) (hS : Sort.SWO (ltC cf)) (hn : n ≤ 65535) : ∀ (m : Nat) {d : Array Exp.Th} {lo hi limit : Nat} {K : Value → HP → Prop}, d.size = n → lo ≤ hi → hi ≤ n → limit ≤ 64 → hi - lo ≤ m → Sort.Below (ltC cf) lo hi d →
    (∀ d', Sort.PermIn lo hi d d' → Sort.SortedIn (ltC cf) lo hi d' → K (.tuple ⟨[]⟩) (HA hp0 b 148 sp th d')) →
    CF Try.prog 128 [.slice (some ⟨b, 0, none⟩) n c, .int .i64 lo, .int .i64 hi, .int .i64 limit, .func (.func f) ⟨ga⟩ ⟨gb⟩] (HA hp0 b 148 sp th d) K := by
  intro m
  induction m using Nat.strongRecOn with
  | ind m ih =>
  intro d lo hi limit K hs hlo hhi hl hm hB h
  have hc := hx.ok
  refine F128_ok _ n c lo hi limit _ _ K ?_
  unfold F128 F128_j1
  refine LoopP.by (J := fun k (s : Int × Int × Int × Bool × Bool) hp => ∃ (a e lim : Nat) (wb wp : Bool) (d' : Array Exp.Th), s = ((a : Int), (e : Int), (lim : Int), wb, wp) ∧ hp = HA hp0 b 148 sp th d' ∧ d'.size = n ∧ a ≤ e ∧ e ≤ n ∧ lim ≤ 64 ∧ e - a ≤ hi - lo ∧ k = e - a ∧ Sort.Below (ltC cf) a e d' ∧
      (∀ R, Sort.PermIn a e d' R → Sort.SortedIn (ltC cf) a e R → K (.tuple ⟨[]⟩) (HA hp0 b 148 sp th R))) ?_
    (n := hi - lo) ⟨lo, hi, limit, true, true, d, rfl, rfl, hs, hlo, hhi, hl, Nat.le_refl _, rfl, hB, h⟩
  clear hs hlo hhi hl hB h
  rintro I k x hp ⟨a, e, lim, wb, wp, d, rfl, rfl, hs, hae, hen, hl, hle, rfl, hB, h⟩ hI
  unfold F128_l2
  simp only []
  have w1 : IntKind.wrap .i64 ((e : Int) - (a : Int)) = ((e - a : Nat) : Int) := wi (by omega) (by omega)
  rw [w1]
  by_cases h12 : e - a ≤ 12
  · rw [decide_eq_true (by omega : ((e - a : Nat) : Int) ≤ 12), ite2_true]
    refine S146 hc hs hae hen (by omega) ?_
    have hi := Sort.insertionSort_holds hS d a e hae (by omega)
    exact h _ hi.1 hi.2
  rw [decide_eq_false (by omega : ¬ ((e - a : Nat) : Int) ≤ 12), ite2_false]
  by_cases h0 : lim = 0
  · subst h0
    have hb : (((0 : Nat) : Int) == 0) = true := rfl
    rw [hb, ite2_true]
    refine S147 hc hs hae hen (by omega) ?_
    have hi := Sort.heapSort_holds hS d a e hae (by omega)
    exact h _ hi.1 hi.2
  have hb : ((lim : Int) == 0) = false := by rw [beq_eq_false_iff_ne]; omega
  rw [hb, ite2_false]
  -- from the pivot on
  have last : ∀ (lim' : Nat) (d3 : Array Exp.Th) (p : Nat) (wb wp : Bool), lim' ≤ 64 → Sort.PermIn a e d d3 → a ≤ p → p < e →
      F128_j5 (some ⟨b, 0, none⟩) n c a e lim' (.func (.func f) ⟨ga⟩ ⟨gb⟩) wb wp ((e - a : Nat) : Int) p (HA hp0 b 148 sp th d3) I K := by
    intro lim' d3 p wb wp hl' hp3 hpa hpe
    have hs3 : d3.size = n := by rw [hp3.1]; exact hs
    have B3 : Sort.Below (ltC cf) a e d3 := hB.perm (by omega) hp3
    -- by the partition in two
    have two : F128_j6 (some ⟨b, 0, none⟩) n c a e lim' (.func (.func f) ⟨ga⟩ ⟨gb⟩) wb wp ((e - a : Nat) : Int) p false (HA hp0 b 148 sp th d3) I K := by
      unfold F128_j6
      rw [ite2_false]
      refine S153 hc hs3 (by omega) hen (by omega) (by omega) ?_
      rcases hR : Sort.partition (ltC cf) d3 a e p with ⟨mid, ap, d4⟩
      obtain ⟨q1, q2, q3, q4, q5, q6, q7⟩ := Sort.round_part hS (Sort.partition_holds _) hpa hpe (by omega) B3 hR
      simp only [tup2V_mk, intV_int, boolV_bool]
      refine ⟨by omega, ?_⟩
      have v1 : IntKind.wrap .i64 ((mid : Int) - (a : Int)) = ((mid - a : Nat) : Int) := wi (by omega) (by omega)
      have v2 : IntKind.wrap .i64 ((e : Int) - (mid : Int)) = ((e - mid : Nat) : Int) := wi (by omega) (by omega)
      have v3 : IntKind.wrap .i64 ((mid : Int) + 1) = ((mid + 1 : Nat) : Int) := wi (by omega) (by omega)
      rw [v1, v2, v3]
      by_cases hlt : mid - a < e - mid
      · rw [decide_eq_true (by omega : ((mid - a : Nat) : Int) < ((e - mid : Nat) : Int)), ite2_true]
        refine ih (mid - a) (by omega) (by omega) q1 (by omega) hl' (Nat.le_refl _) q4 ?_
        intro L hL hsL
        obtain ⟨z1, z2⟩ := q6 L hL hsL
        exact hI (e - (mid + 1)) _ _ (by omega) ⟨mid + 1, e, lim', _, ap, L, rfl, rfl, by rw [hL.1]; omega, by omega, hen, hl', by omega, rfl, z1, fun R hR hsR => h R (Sort.permIn_trans _ _ _ _ _ hp3 (z2 R hR hsR).1) (z2 R hR hsR).2⟩
      · rw [decide_eq_false (by omega : ¬ ((mid - a : Nat) : Int) < ((e - mid : Nat) : Int)), ite2_false]
        refine ih (e - (mid + 1)) (by omega) (by omega) (by omega) hen hl' (Nat.le_refl _) q5 ?_
        intro L hL hsL
        obtain ⟨z1, z2⟩ := q7 L hL hsL
        exact hI (mid - a) _ _ (by omega) ⟨a, mid, lim', _, ap, L, rfl, rfl, by rw [hL.1]; omega, q1, by omega, hl', by omega, rfl, z1, fun R hR hsR => h R (Sort.permIn_trans _ _ _ _ _ hp3 (z2 R hR hsR).1) (z2 R hR hsR).2⟩
    unfold F128_j5
    by_cases ha : a > 0
    · rw [decide_eq_true (by omega : (a : Int) > 0), ite2_true]
      have v1 : IntKind.wrap .i64 ((a : Int) - 1) = ((a - 1 : Nat) : Int) := wi (by omega) (by omega)
      rw [v1]
      refine cmpP hc th_len hs3 (i := a - 1) (j := p) rfl rfl (by omega) (by omega) ?_
      have hlq : decide (cf d3[a - 1]! d3[p]! < 0) = ltC cf d3[a - 1]! d3[p]! := rfl
      rw [hlq]
      cases hlt : ltC cf d3[a - 1]! d3[p]!
      · unfold F128_j6
        simp only [Bool.not_false, ite2_true]
        refine S152 hc hs3 (by omega) hen (by omega) (by omega) ?_
        rcases hR : Sort.partitionEqual (ltC cf) d3 a e p with ⟨mid, d4⟩
        obtain ⟨q1, q2, q3, q4, q5⟩ := Sort.round_eq hS (Sort.partitionEqual_holds _) ha hpa hpe (by omega) B3 hlt hR
        rw [intV_int]
        exact hI (e - mid) _ _ (by omega) ⟨mid, e, lim', wb, wp, d4, rfl, rfl, by omega, q2, hen, hl', by omega, rfl, q4, fun R hR hsR => h R (Sort.permIn_trans _ _ _ _ _ hp3 (q5 R hR hsR).1) (q5 R hR hsR).2⟩
      · simp only [Bool.not_true]
        exact two
    · rw [decide_eq_false (by omega : ¬ (a : Int) > 0), ite2_false]
      exact two
  -- is it sorted already?
  have part : ∀ (lim' : Nat) (d2 : Array Exp.Th) (p : Nat) (w : Int), lim' ≤ 64 → Sort.PermIn a e d d2 → a ≤ p → p < e →
      F128_j4 (some ⟨b, 0, none⟩) n c a e lim' (.func (.func f) ⟨ga⟩ ⟨gb⟩) wb wp ((e - a : Nat) : Int) p w (HA hp0 b 148 sp th d2) I K := by
    intro lim' d2 p w hl' hp2 hpa hpe
    have hs2 : d2.size = n := by rw [hp2.1]; exact hs
    have B2 : Sort.Below (ltC cf) a e d2 := hB.perm (by omega) hp2
    have seven : ∀ q : Bool, F128_j7 (some ⟨b, 0, none⟩) n c a e lim' (.func (.func f) ⟨ga⟩ ⟨gb⟩) wb wp ((e - a : Nat) : Int) p q (HA hp0 b 148 sp th d2) I K := by
      intro q
      unfold F128_j7
      cases q
      · rw [ite2_false]; exact last lim' d2 p wb wp hl' hp2 hpa hpe
      · rw [ite2_true]
        refine S151 hc hs2 (by omega) hen (by omega) ?_
        obtain ⟨r1, r2⟩ := Sort.partialInsertionSort_holds hS d2 a e (by omega) (by omega) B2
        rw [boolV_bool]
        cases hq : (Sort.partialInsertionSort (ltC cf) d2 a e).2
        · rw [ite2_false]
          exact last lim' _ p wb wp hl' (Sort.permIn_trans _ _ _ _ _ hp2 r1) hpa hpe
        · rw [ite2_true]
          exact h _ (Sort.permIn_trans _ _ _ _ _ hp2 r1) (r2 hq)
    unfold F128_j4
    cases wb
    · rw [ite2_false]; exact seven _
    · rw [ite2_true]
      cases wp
      · rw [ite2_false]; exact seven _
      · rw [ite2_true]; exact seven _
  -- the pivot
  have piv : ∀ (lim' : Nat) (d1 : Array Exp.Th), lim' ≤ 64 → Sort.PermIn a e d d1 → F128_j3 (some ⟨b, 0, none⟩) n c a e lim' (.func (.func f) ⟨ga⟩ ⟨gb⟩) wb wp ((e - a : Nat) : Int) (HA hp0 b 148 sp th d1) I K := by
    intro lim' d1 hl' hp1
    have hs1 : d1.size = n := by rw [hp1.1]; exact hs
    unfold F128_j3
    refine S149 hx hs1 (by omega) hen hn fun p w hpa hpe => ?_
    simp only [tup2V_mk, intV_int]
    cases (w == 2)
    · rw [ite2_false]; exact part lim' d1 p w hl' hp1 hpa hpe
    · rw [ite2_true]
      refine S150 hs1 (by omega) hen (by omega) ?_
      have v1 : IntKind.wrap .i64 ((e : Int) - 1) = ((e - 1 : Nat) : Int) := wi (by omega) (by omega)
      have v2 : IntKind.wrap .i64 ((p : Int) - (a : Int)) = ((p - a : Nat) : Int) := wi (by omega) (by omega)
      have v3 : IntKind.wrap .i64 (((e - 1 : Nat) : Int) - ((p - a : Nat) : Int)) = ((e - 1 - (p - a) : Nat) : Int) := wi (by omega) (by omega)
      rw [v1, v2, v3]
      exact part lim' _ _ 1 hl' (Sort.permIn_trans _ _ _ _ _ hp1 (Sort.reverseRange_holds d1 a e hae (by omega))) (by omega) (by omega)
  cases wb
  · simp only [Bool.not_false, ite2_true]
    refine S148 hs hae hen hn fun d1 hp1 => ?_
    have v1 : IntKind.wrap .i64 ((lim : Int) - 1) = ((lim - 1 : Nat) : Int) := wi (by omega) (by omega)
    rw [v1]
    exact piv (lim - 1) d1 (by omega) hp1
  · simp only [Bool.not_true, ite2_false]
    exact piv lim d hl (Sort.permIn_refl d a e)
end

/-- SortFunc of a row: the same things, in their order. -/
theorem S87 {f : FuncId} {ga gb : List Value} {cf : Exp.Th → Exp.Th → Int} (hS : Sort.SWO (ltC cf)) {hp : HP} {s : Option Addr} {n c : Nat} {ts : List Exp.Th} (hr : Row hp s n c 148 2 (ts.flatMap th)) (hl : ts.length = n) (hn : n ≤ 65535)
    (hx : ∀ b, s = some ⟨b, 0, none⟩ → CmpX Try.prog f ga gb hp b 148 ((c - n) * 2) th n cf) {K : Value → HP → Prop}
    (h : ∀ (ts' : List Exp.Th) (hp' : HP), ts'.Perm ts → ts'.Pairwise (fun x y => ltC cf y x = false) → Row hp' s n c 148 2 (ts'.flatMap th) → (hp' = hp ∨ ∃ b e, s = some ⟨b, 0, none⟩ ∧ hp' = hp.set b e) → K (.tuple ⟨[]⟩) hp') :
    CF Try.prog 87 [.slice s n c, .func (.func f) ⟨ga⟩ ⟨gb⟩] hp K := by
  refine F87_ok s n c _ hp K ?_
  unfold F87
  rw [wu64 (by omega) (by omega)]
  refine C129 hn fun L hL _ _ => ?_
  rw [intV_int]
  have z0 : (Value.int .i64 0) = Value.int .i64 ((0 : Nat) : Int) := rfl
  rcases hr with ⟨rfl, rfl, rfl, hnil⟩ | ⟨b, rfl, hnc, hxl, hb⟩
  · have ht : ts = [] := List.eq_nil_of_length_eq_zero hl
    subst ht
    rw [z0]
    refine F128_ok none 0 0 ((0 : Nat) : Int) ((0 : Nat) : Int) L _ hp _ ?_
    unfold F128 F128_j1
    refine LoopP.by (J := fun k (s : Int × Int × Int × Bool × Bool) hp' => s.1 = 0 ∧ s.2.1 = 0 ∧ hp' = hp) ?_ (n := 0) ⟨rfl, rfl, rfl⟩
    rintro I k ⟨a, e, lim, wb, wp⟩ hp' ⟨h1, h2, rfl⟩ hI
    simp only at h1 h2
    subst h1 h2
    unfold F128_l2
    simp only []
    have w0 : IntKind.wrap .i64 ((0 : Int) - 0) = 0 := by rw [w64 (by omega) (by omega)]; omega
    rw [w0, decide_eq_true (by omega : (0 : Int) ≤ 12), ite2_true]
    refine F146_ok none 0 0 0 0 _ hp' _ ?_
    unfold F146 F146_j1
    have w1 : IntKind.wrap .i64 ((0 : Int) + 1) = 1 := by rw [w64 (by omega) (by omega)]; omega
    rw [w1]
    refine LoopP.by (J := fun k (x : Int) hp2 => x = 1 ∧ hp2 = hp') ?_ (n := 0) ⟨rfl, rfl⟩
    rintro I2 k2 x hp2 ⟨rfl, rfl⟩ hI2
    unfold F146_l2
    rw [decide_eq_false (by omega : ¬ (1 : Int) < 0), ite2_false]
    exact h [] _ (List.Perm.refl _) List.Pairwise.nil (.inl ⟨rfl, rfl, rfl, rfl⟩) (.inl rfl)
  · have hha : HA hp b 148 ((c - n) * 2) th ts.toArray = hp := HP.set_self _ _ _ hb
    rw [z0]
    have key := S128 (c := c) (hx b rfl) hS hn n (d := ts.toArray) (lo := 0) (hi := n) (limit := L) (K := fun u_4 h_5 => K (.tuple ⟨[]⟩) h_5) (by simpa using hl) (Nat.zero_le _) (Nat.le_refl _) (by omega) (by omega) (.inl rfl) ?_
    · rw [hha] at key; exact key
    intro d' hpm hst
    have hsz : d'.size = n := by rw [hpm.1]; simpa using hl
    have hpl : d'.toList.Perm ts := by
      have h3 := hpm.2.2
      have e1 : d'.extract 0 n = d' := by rw [← hsz]; simp
      have e2 : ts.toArray.extract 0 n = ts.toArray := by rw [← hl]; simp
      rw [e1, e2] at h3
      exact h3
    refine h d'.toList _ hpl ?_ (.inr ⟨b, rfl, hnc, by rw [flat_len th_len]; simp [hsz], by unfold HA; rw [HP.set_eq]⟩) (.inr ⟨b, _, rfl, rfl⟩)
    rw [List.pairwise_iff_getElem]
    intro i j hi hj hij
    have := hst i j (Nat.zero_le _) hij (by simpa [hsz] using hj)
    rw [getElem!_pos d' j (by simpa using hj), getElem!_pos d' i (by simpa using hi)] at this
    simpa using this
end Go.Proofs

set_option linter.unusedVariables false
set_option maxRecDepth 20000
namespace Go.HL
open Go
/-- One block alone. -/
def HP.only (b : Nat) (e : Ent) : HP := HP.set (fun _ => .none) b e
theorem HSub.only {hp : HP} {b : Nat} {e : Ent} (h : hp b = e) : HSub (HP.only b e) hp := fun x => by
  unfold HP.only
  by_cases hx : x = b
  · subst hx; rw [HP.set_eq]; exact .inr h.symm
  · rw [HP.set_ne _ _ hx]; exact .inl rfl
theorem Disj.only {hq : HP} {b : Nat} {e : Ent} (h : hq b = .none) : Disj hq (HP.only b e) := fun x => by
  unfold HP.only
  by_cases hx : x = b
  · subst hx; exact .inl h
  · rw [HP.set_ne _ _ hx]; exact .inr rfl
theorem Disj.only_none {hq : HP} {b : Nat} {e : Ent} (h : Disj hq (HP.only b e)) (he : e ≠ .none) : hq b = .none := by
  rcases h b with h | h
  · exact h
  · unfold HP.only at h; rw [HP.set_eq] at h; exact absurd h he
theorem HSub.of_only {hp : HP} {b : Nat} {e : Ent} (h : HSub (HP.only b e) hp) (he : e ≠ .none) : hp b = e := by
  rcases h b with h | h
  · unfold HP.only at h; rw [HP.set_eq] at h; exact absurd h he
  · unfold HP.only at h; rw [HP.set_eq] at h; exact h.symm
end Go.HL
namespace Go.Exp
theorem take_of_split {α : Type} {p : α → Bool} {done rest : List α} (hd : ∀ x ∈ done, p x = true) (hr : ∀ x, rest.head? = some x → p x = false) : (done ++ rest).takeWhile p = done ∧ (done ++ rest).dropWhile p = rest := by
  induction done with
  | nil =>
    cases rest with
    | nil => exact ⟨rfl, rfl⟩
    | cons x r =>
      have := hr x rfl
      simp [List.takeWhile_cons, List.dropWhile_cons, this]
  | cons x d ih =>
    have hx := hd x (by simp)
    obtain ⟨h1, h2⟩ := ih (fun y hy => hd y (by simp [hy]))
    simp [List.takeWhile_cons, List.dropWhile_cons, hx, h1, h2]
end Go.Exp
namespace Go.Proofs
open Go Go.HL
open Go.Exp (Th tlt swo_tlt Ord setW dropW insW)

def idv (t : Th) : List Value := [.int .i64 t.1]
theorem idv_len (t : Th) : (idv t).length = 1 := rfl
theorem idv_one (t : Th) : (idv t).all one = true := rfl

section
variable {hq : HP} {q : Nat} {w : List Th} {K : Value → HP → Prop}

theorem QD.sub {hp : HP} {o m : Nat} {d : Array Th} (h : QD hq q o m d) (hs : HSub hq hp) : QD hp q o m d := by
  obtain ⟨s, c, ent, h1, h2, h3, ⟨es, clock, he, hr⟩, h5, h6⟩ := h
  exact ⟨s, c, ent, hs.cells h1, hs.cells h2, h3.sub hs, ⟨es, clock, hs.obj he, hr⟩, h5, h6⟩
theorem QW.sub {hp : HP} (h : QW hq q w) (hs : HSub hq hp) : QW hp q w := by
  obtain ⟨o, m, d, h1, h2, h3, h4⟩ := h
  exact ⟨o, m, d, h1.sub hs, h2, h3, h4⟩

/-- One more number behind. -/
theorem app_one {hp : HP} {s : Option Addr} {n c : Nat} {xs : List Value} {x : Int} (hrow : Row hp s n c 3 1 xs) (hn : n ≤ 1000000) {K : Value → HP → Prop} {b : Nat} (hb : hp b = .none)
    (h : ∀ s2 c2 hp', Row hp' s2 (n + 1) c2 3 1 (xs ++ [.int .i64 x]) → (∀ h0 : HP, HSub h0 hp → (∀ b', s = some ⟨b', 0, none⟩ → h0 b' = .none) → HSub h0 hp' ∧ ∀ b', s2 = some ⟨b', 0, none⟩ → h0 b' = .none) → K (.slice s2 (n + 1) c2) hp') :
    opS Try.prog (Builtin.append_ #[24, 24] 24 ⟨[.slice s n c, .slice (some ⟨b, 0, none⟩) 1 1]⟩) (hp.set b (.cells 3 [.int .i64 x] 0)) K := by
  have sb := HSub.set_fresh hp (.cells 3 [.int .i64 x] 0) hb
  have sh : Shows (hp.set b (.cells 3 [.int .i64 x] 0)) (some ⟨b, 0, none⟩) 1 1 [.int .i64 x] := .inr ⟨b, 0, rfl, by rw [HP.cellN_of (HP.set_eq ..)]; exact cellsN_all rfl⟩
  refine opS_app (e := 3) (size := 1) (bytes := 8) (by kernel_rfl) (hrow.sub sb) sh rfl (by omega) (by omega) ?_
  intro s2 c2 hp' hrow' hup
  refine h s2 c2 hp' hrow' fun h0 hs0 hfr => ?_
  have s0 : HSub h0 (hp.set b (.cells 3 [.int .i64 x] 0)) := hs0.trans sb
  rcases hup with ⟨rfl, rfl⟩ | ⟨b', e', rfl, hb', rfl⟩
  · exact ⟨s0, hfr⟩
  · have hn0 : h0 b' = .none := by
      rcases hb' with hb' | hb'
      · exact s0.none hb'
      · exact hfr b' hb'
    exact ⟨s0.up hn0 e', fun b'' e => by cases e; exact hn0⟩

theorem C31 {now : Int} (h : QW hq q w) (hsz : w.length ≤ 1000000)
    (hK : ∀ (hp' hl : HP) (s : Option Addr) (c : Nat), HSub hl hp' → QW hl q (w.dropWhile fun t => decide (t.2 ≤ now)) → Row hp' s (w.takeWhile fun t => decide (t.2 ≤ now)).length c 3 1 ((w.takeWhile fun t => decide (t.2 ≤ now)).flatMap idv) →
      (∀ b, s = some ⟨b, 0, none⟩ → hl b = .none) → K (.slice s (w.takeWhile fun t => decide (t.2 ≤ now)).length c) hp') : CF Try.prog 31 [ptr q 0, .int .i64 now] hq K := by
  refine F31_ok _ now hq K ?_
  unfold F31
  refine C42 h ?_
  simp only [tup3V_mk, intV_int, boolV_bool]
  unfold F31_j2
  refine LoopP.by (J := fun k (s : Option Addr × Nat × Nat × Int × Bool) hp => ∃ (hl : HP) (rest done : List Th), HSub hl hp ∧ QW hl q rest ∧ w = done ++ rest ∧ (∀ t ∈ done, decide (t.2 ≤ now) = true) ∧ Row hp s.1 s.2.1 s.2.2.1 3 1 (done.flatMap idv) ∧ s.2.1 = done.length ∧
      (∀ b, s.1 = some ⟨b, 0, none⟩ → hl b = .none) ∧ s.2.2.2.1 = (rest.head?.map (·.2)).getD 0 ∧ s.2.2.2.2 = rest.head?.isSome ∧ k = rest.length) ?_
    (n := w.length) ⟨hq, w, [], HSub.refl _, h, rfl, (fun _ h => by cases h), .inl ⟨rfl, rfl, rfl, rfl⟩, rfl, (fun _ e => by cases e), rfl, rfl, rfl⟩
  rintro I k ⟨s, n, c, due, ok⟩ hp ⟨hl, rest, done, hs, hQ, hw, hd, hrow, hn, hfr, hdue, hok, rfl⟩ hI
  simp only at hrow hn hfr hdue hok
  subst hn hdue hok
  unfold F31_l3
  simp only []
  have stop : (∀ x, rest.head? = some x → decide (x.2 ≤ now) = false) → F31_j4 (some ⟨q, 0, none⟩) now s done.length c false hp I K := by
    intro hr
    unfold F31_j4 F31_j1
    rw [ite2_false]
    obtain ⟨e1, e2⟩ := Exp.take_of_split hd hr
    rw [← hw] at e1 e2
    rw [e1, e2] at hK
    exact hK hp hl s c hs hQ hrow hfr
  cases rest with
  | nil =>
    show ite2 false _ _
    rw [ite2_false]
    exact stop (fun x hx => by cases hx)
  | cons t rest =>
    show ite2 true (F31_j4 _ _ _ _ _ (decide (t.2 ≤ now)) _ _ _) _
    rw [ite2_true]
    cases hc : decide (t.2 ≤ now)
    · refine stop (fun x hx => ?_)
      simp only [List.head?_cons, Option.some.injEq] at hx
      subst hx; exact hc
    unfold F31_j4
    rw [ite2_true]
    have hlen := congrArg List.length hw
    simp only [List.length_append, List.length_cons] at hlen
    obtain ⟨o, m, d, hQ1, hH1, hp1, ho1⟩ := hQ
    have hqc : hp q = .cells 145 [ptr o 0] 0 := by
      obtain ⟨s', c', ent, h1, h2, _⟩ := hQ1
      exact hs.cells h1
    have hcq : ∀ x, hp.cell q x = [ptr o 0][x]? := fun x => HP.cell_of hqc
    have pp : ∀ (p : Nat) (c : Option Addr → Prop), ptrV (ptr p 0) c = c (some ⟨p, 0, none⟩) := fun _ _ => rfl
    simp only [ptrN_some, hcq, Nat.add_zero, List.getElem?_cons_zero, ldV_some, pp]
    have hdl : d.size = rest.length + 1 := by simpa using hp1.length_eq
    -- the least is the first
    have hroot : d[0]! = t := by
      have hm : d[0]! ∈ t :: rest := hp1.mem_iff.1 (mem_at (by omega))
      rcases List.mem_cons.1 hm with e | hm
      · exact e
      · have h1 := (List.pairwise_cons.1 ho1.1).1 _ hm
        have ht : t ∈ d.toList := hp1.mem_iff.2 (by simp)
        obtain ⟨k, hk, e'⟩ := List.getElem_of_mem ht
        have hk' : k < d.size := by simpa using hk
        have := hH1.root swo_tlt k hk'
        rw [getElem!_pos d k hk'] at this
        have e2 : d[k] = t := by rw [← e']; simp
        rw [e2, h1] at this
        cases this
    refine CF.loc hs (C85 (K := fun v h' => v = .iface 148 (.agg ⟨th t⟩) ∧ QW h' q rest) hQ1 (by omega) (by omega) hH1 fun hq' d' hQ' hP' hH' => ⟨by rw [hroot], o, m, d', hQ', hH', ?_, ho1.tail⟩) ?_
    · rw [hroot] at hP'
      exact (hP'.trans hp1).cons_inv
    rintro v hl' hp' ⟨rfl, hQ'⟩ hs' hfrm
    have hrow' : Row hp' s done.length c 3 1 (done.flatMap idv) ∧ ∀ b, s = some ⟨b, 0, none⟩ → hl' b = .none := by
      rcases hrow with ⟨r1, r2, r3, r4⟩ | ⟨b, r1, r2, r3, r4⟩
      · exact ⟨.inl ⟨r1, r2, r3, r4⟩, fun b e => by rw [r1] at e; cases e⟩
      · obtain ⟨f1, f2⟩ := hfrm (HP.only b _) (HSub.only r4) (Disj.only (hfr b r1))
        exact ⟨.inr ⟨b, r1, r2, r3, f1.of_only (by simp)⟩, fun b' e => by rw [r1] at e; cases e; exact f2.only_none (by simp)⟩
    refine rdS_assert (by kernel_rfl) ?_
    have q0 : (th t)[0]? = some (.int .i64 t.1) := rfl
    simp only [aggV_agg, q0, ldV_some, intV_int]
    intro b11 hb11
    refine app_one hrow'.1 (by omega) hb11 ?_
    intro s2 c2 hp2 hrow2 hf2
    obtain ⟨g1, g2⟩ := hf2 hl' hs' hrow'.2
    rw [slcV_slice]
    refine C42 (hQ'.sub g1) ?_
    simp only [tup3V_mk, intV_int, boolV_bool]
    refine hI rest.length _ _ (by simp) ⟨hl', rest, done ++ [t], g1, hQ', by rw [hw]; simp, ?_, ?_, by simp, g2, rfl, rfl, rfl⟩
    · intro x hx
      rcases List.mem_append.1 hx with hx | hx
      · exact hd x hx
      · rw [List.mem_singleton.1 hx]; exact hc
    · have : (done ++ [t]).flatMap idv = done.flatMap idv ++ [.int .i64 t.1] := by simp [idv]
      rw [this]; exact hrow2

def cfT (x y : Th) : Int := if tlt x y then -1 else 1
theorem ltC_cfT : ltC cfT = tlt := by
  funext x y
  unfold ltC cfT
  cases tlt x y <;> rfl

theorem C88 {x y : Th} {hp : HP} {K : Value → HP → Prop} (hK : K (.int .i64 (cfT x y)) hp) : CF Try.prog 88 [.agg ⟨th x⟩, .agg ⟨th y⟩] hp K := by
  refine F88_ok (th x) (th y) hp K ?_
  unfold F88
  have qa : ∀ t : Th, cellsN (th t) 0 2 = some (th t) := fun _ => rfl
  simp only [qa, ldL_some]
  refine C89 ?_
  rw [boolV_bool]
  unfold cfT at hK
  cases h : tlt x y
  · rw [h] at hK; rw [ite2_false]; exact hK
  · rw [h] at hK; rw [ite2_true]; exact hK

theorem C86 {a : Option Addr} {n c : Nat} {l : List Th} {hp : HP} {K : Value → HP → Prop} (hs : Shows hp a n 2 (l.flatMap th)) (hl : l.length = n) (hn : n ≤ 10000000)
    (h : ∀ s2 c2 hp', HSub hp hp' → Row hp' s2 n c2 148 2 (l.flatMap th) → (∀ b, s2 = some ⟨b, 0, none⟩ → hp b = .none) → K (.slice s2 n c2) hp') : CF Try.prog 86 [.slice a n c] hp K := by
  refine F86_ok a n c hp K ?_
  unfold F86
  cases a with
  | none =>
    have hn0 : n = 0 := by
      rcases hs with h | ⟨b, o, h, _⟩
      · exact h.1
      · cases h
    subst hn0
    have : l = [] := List.eq_nil_of_length_eq_zero hl
    subst this
    simp only [Option.isNone_none, ite2_true]
    exact h none 0 hp (HSub.refl _) (.inl ⟨rfl, rfl, rfl, rfl⟩) (fun b hb => by cases hb)
  | some a =>
    simp only [Option.isNone_some, ite2_false]
    intro b hb
    have hsub := HSub.set_fresh hp (.cells 148 [] 0) hb
    refine opS_app (e := 148) (size := 2) (bytes := 16) (xs := []) (by kernel_rfl) (.inr ⟨b, rfl, Nat.le_refl _, by simp, by simp [HP.set_eq]⟩) (hs.sub hsub) (all_flat th_one l) (by omega) (by omega) ?_
    intro s2 c2 hp' hrow hupd
    simp only [Nat.zero_add, List.nil_append, slcV_slice] at hrow ⊢
    have hsub' : HSub hp hp' ∧ ∀ b', s2 = some ⟨b', 0, none⟩ → hp b' = .none := by
      rcases hupd with ⟨rfl, rfl⟩ | ⟨b', e', rfl, hb', rfl⟩
      · exact ⟨hsub, fun b' e => by cases e; exact hb⟩
      · have hn' : hp b' = .none := by
          rcases hb' with hb' | hb'
          · exact hsub.none hb'
          · cases hb'; exact hb
        exact ⟨hsub.up hn' e', fun b'' e => by cases e; exact hn'⟩
    exact h s2 c2 hp' hsub'.1 hrow hsub'.2

theorem sorted_is {w ts : List Th} (ho : Ord w) (hp : ts.Perm w) (hs : ts.Pairwise fun x y => ltC cfT y x = false) : ts = w := by
  refine ho.eq_of ?_ hp
  have hnd : (ts.map (·.1)).Nodup := (hp.map (·.1)).nodup_iff.2 ho.2
  rw [ltC_cfT] at hs
  have h2 : ts.Pairwise fun x y => x ≠ y := List.Pairwise.imp (fun h e => h (by rw [e])) (List.pairwise_map.1 hnd)
  refine (hs.and h2).imp fun {x y} h3 => ?_
  obtain ⟨a, b⟩ := h3
  cases hc : tlt x y with
  | true => rfl
  | false => exact absurd (Exp.tlt_total hc a) b

theorem C33 (h : QW hq q w) (hsz : w.length ≤ 65535)
    (hK : ∀ (hp' : HP) (s : Option Addr) (c : Nat), HSub hq hp' → Row hp' s w.length c 3 1 (w.flatMap idv) → (∀ b, s = some ⟨b, 0, none⟩ → hq b = .none) → K (.slice s w.length c) hp') : CF Try.prog 33 [ptr q 0] hq K := by
  obtain ⟨o, m, d, hQ, hH, hp, ho⟩ := h
  refine F33_ok _ hq K ?_
  unfold F33
  refine C82 hQ ?_
  rw [boolV_bool, ite2_false]
  have hl : d.size = w.length := by simpa using hp.length_eq
  obtain ⟨s, c, ent, h1, h2, h3, h4, h5, h6⟩ := hQ
  have hc : ∀ x, hq.cell q x = [ptr o 0][x]? := fun x => HP.cell_of h1
  have hco : ∀ x, hq.cell o x = [Value.slice s d.size c, .map (some m)][x]? := fun x => HP.cell_of h2
  have pp : ∀ (p : Nat) (c : Option Addr → Prop), ptrV (ptr p 0) c = c (some ⟨p, 0, none⟩) := fun _ _ => rfl
  simp only [ptrN_some, hc, hco, Nat.add_zero, List.getElem?_cons_zero, ldV_some, pp, slcV_slice]
  refine C86 (l := d.toList) h3.shows (by simp) (by omega) ?_
  intro s2 c2 hp2 hs2 hrow2 hfr2
  rw [slcV_slice]
  refine S87 (cf := cfT) (by rw [ltC_cfT]; exact swo_tlt) hrow2 (by simp) (by omega) ?_ ?_
  · intro b hb hp1 h1 d' x y K' hsz' hk
    exact C88 hk
  intro ts' hp3 hperm hpw hrow3 hh3
  have hts : ts' = w := sorted_is ho (hperm.trans hp) hpw
  subst hts
  have hs3 : HSub hq hp3 := by
    rcases hh3 with rfl | ⟨b, e, hb, rfl⟩
    · exact hs2
    · exact hs2.up (hfr2 b hb) e
  unfold F33_j2
  refine LoopP.by (J := fun k (s : Option Addr × Nat × Nat × Int) hp => ∃ i : Nat, s.2.2.2 = i ∧ i + k = d.size ∧ HSub hp3 hp ∧ Row hp s.1 s.2.1 s.2.2.1 3 1 ((ts'.take i).flatMap idv) ∧ s.2.1 = i ∧ ∀ b, s.1 = some ⟨b, 0, none⟩ → hp3 b = .none) ?_
    (n := d.size) ⟨0, rfl, by omega, HSub.refl _, .inl ⟨rfl, rfl, rfl, by simp⟩, rfl, (fun b e => by cases e)⟩
  rintro I k ⟨s5, i, c5, x5⟩ hp5 ⟨i', hx, hik, hs5, hrow5, hn5, hfr5⟩ hI
  simp only at hx hrow5 hn5 hfr5
  subst hx hn5
  unfold F33_l3
  simp only []
  by_cases hi : i < d.size
  · rw [decide_eq_true (by omega : (i : Int) < ((d.size : Nat) : Int)), ite2_true]
    obtain ⟨b, oo, hs2e, hc2⟩ := (hrow3.sub hs5).shows.get th_len hl.symm hi
    rw [hs2e]
    have hz : [Value.int .i64 0, .int .i64 0] = th (0, 0) := rfl
    have hsp : splice (th (0, 0)) 0 (th (ts'[i]'(hl ▸ hi))) = th (ts'[i]'(hl ▸ hi)) := splice_all rfl
    have q0 : (th (ts'[i]'(hl ▸ hi)))[0]? = some (.int .i64 (ts'[i]'(hl ▸ hi)).1) := rfl
    simp only [ptrN_some, Int.toNat_natCast, hc2, ldL_some, th_len, th_one, if_true, hz, hsp, q0, ldV_some, intV_int]
    refine ⟨by omega, by omega, ?_⟩
    refine ifI (by decide) ?_
    intro b26 hb26
    refine app_one hrow5 (by omega) hb26 ?_
    intro s6 c6 hp6 hrow6 hf6
    obtain ⟨g1, g2⟩ := hf6 hp3 hs5 hfr5
    rw [slcV_slice]
    have w1 : IntKind.wrap .i64 ((i : Int) + 1) = ((i + 1 : Nat) : Int) := wi (by omega) (by omega)
    rw [w1]
    refine hI (k - 1) _ _ (by omega) ⟨i + 1, rfl, by omega, g1, ?_, rfl, g2⟩
    have e : (ts'.take (i + 1)).flatMap idv = (ts'.take i).flatMap idv ++ [.int .i64 (ts'[i]'(hl ▸ hi)).1] := by
      rw [List.take_succ_eq_append_getElem (hl ▸ hi), List.flatMap_append]; simp [idv]
    rw [e]; exact hrow6
  · rw [decide_eq_false (by omega : ¬ (i : Int) < ((d.size : Nat) : Int)), ite2_false]
    unfold F33_j1
    have hie : i = ts'.length := by omega
    subst hie
    rw [List.take_length] at hrow5
    exact hK hp5 s5 c5 (hs3.trans hs5) hrow5 (fun b e => hs3.none (hfr5 b e))
end
end Go.Proofs

set_option linter.unusedVariables false
set_option maxRecDepth 20000
namespace Go.Proofs
open Go Go.HL
-- 28 interpreter/interpreterlaw20.wakes
theorem F28_r0 (e : Env) (hp : HP) (K : Env → PV → HP → Prop) : RW Try.prog 39 [] (opsAt Try.f28 [0]) (List.range 1) e V0 hp K =
    (K (upd e 0 (sB (false))) V0 hp) := by kernel_rfl
theorem F28_r1 (e : Env) (hp : HP) (K : Env → PV → HP → Prop) : RW Try.prog 39 [] (opsAt Try.f28 [1, 0]) (List.range 2) e V0 hp K =
    (CF Try.prog 29 [] hp fun u1 h2 => (ptrV u1 fun p3 => (K (upd (upd e 5 (sV (Value.pointer p3))) 1 (sV (Value.pointer p3))) V0 h2))) := by kernel_rfl
theorem F28_r2 (e : Env) (x1 : Option Addr) (hp : HP) (K : Env → PV → HP → Prop) : RW Try.prog 39 [] (opsAt Try.f28 [1, 1, 0]) (List.range 2) (upd e 1 (sV (Value.pointer x1))) V0 hp K =
    (CF Try.prog 30 [(Value.pointer x1), (Value.int .i64 7), (Value.int .i64 5)] hp fun u1 h2 => (intV u1 .i64 fun i3 => (K (upd (upd (upd e 1 (sV (Value.pointer x1))) 6 (sV (Value.pointer x1))) 7 (sI (i3))) V0 h2))) := by kernel_rfl
theorem F28_r3 (e : Env) (x1 : Option Addr) (hp : HP) (K : Env → PV → HP → Prop) : RW Try.prog 39 [] (opsAt Try.f28 [1, 1, 1, 0]) (List.range 2) (upd e 1 (sV (Value.pointer x1))) V0 hp K =
    (CF Try.prog 30 [(Value.pointer x1), (Value.int .i64 3), (Value.int .i64 5)] hp fun u1 h2 => (intV u1 .i64 fun i3 => (K (upd (upd (upd e 1 (sV (Value.pointer x1))) 8 (sV (Value.pointer x1))) 9 (sI (i3))) V0 h2))) := by kernel_rfl
theorem F28_r4 (e : Env) (x1 : Option Addr) (hp : HP) (K : Env → PV → HP → Prop) : RW Try.prog 39 [] (opsAt Try.f28 [1, 1, 1, 1, 0]) (List.range 2) (upd e 1 (sV (Value.pointer x1))) V0 hp K =
    (CF Try.prog 30 [(Value.pointer x1), (Value.int .i64 9), (Value.int .i64 2)] hp fun u1 h2 => (intV u1 .i64 fun i3 => (K (upd (upd (upd e 1 (sV (Value.pointer x1))) 10 (sV (Value.pointer x1))) 11 (sI (i3))) V0 h2))) := by kernel_rfl
theorem F28_r5 (e : Env) (x1 : Option Addr) (hp : HP) (K : Env → PV → HP → Prop) : RW Try.prog 39 [] (opsAt Try.f28 [1, 1, 1, 1, 1, 0]) (List.range 9) (upd e 1 (sV (Value.pointer x1))) V0 hp K =
    (CF Try.prog 42 [(Value.pointer x1)] hp fun u1 h2 => (tup3V u1 fun u3 u4 u5 => (intV u3 .i64 fun i6 => (intV u4 .i64 fun i7 => (boolV u5 fun q8 => (K (upd (upd (upd (upd (upd (upd (upd (upd (upd (upd e 1 (sV (Value.pointer x1))) 13 (sV (Value.pointer x1))) 14 (sV (Value.tuple ⟨[(Value.int .i64 i6), (Value.int .i64 i7), (Value.bool q8)]⟩))) 12 (sV (Value.tuple ⟨[(Value.int .i64 i6), (Value.int .i64 i7), (Value.bool q8)]⟩))) 15 (sI (i6))) 16 (sI (i7))) 17 (sB (q8))) 2 (sI (i6))) 3 (sI (i7))) 4 (sB (q8))) V0 h2)))))) := by kernel_rfl
theorem F28_r6 (e : Env) (x1 : Option Addr) (x2 : Int) (x3 : Int) (x4 : Bool) (hp : HP) (K : Env → PV → HP → Prop) : RW Try.prog 39 [] (opsAt Try.f28 [1, 1, 1, 1, 1, 1, 0]) (List.range 22) (upd (upd (upd (upd e 4 (sB (x4))) 3 (sI (x3))) 2 (sI (x2))) 1 (sV (Value.pointer x1))) V0 hp K =
    (ite2 ((x2 : Int) == 9) (ite2 ((x3 : Int) == 2) (ite2 x4 (CF Try.prog 31 [(Value.pointer x1), (Value.int .i64 4)] hp fun u1 h2 => (slcV u1 fun a3 n4 c5 => (∀ b6 : Nat, h2 b6 = .none → (CF Try.prog 32 [(Value.slice a3 n4 c5), (Value.slice (some ⟨b6, 0, none⟩) 1 1)] (HP.set h2 b6 (.cells 3 [(Value.int .i64 9)] 0)) fun u7 h8 => (boolV u7 fun q9 => (ite2 q9 (CF Try.prog 33 [(Value.pointer x1)] h8 fun u10 h11 => (slcV u10 fun a12 n13 c14 => (∀ b15 : Nat, h11 b15 = .none → (CF Try.prog 32 [(Value.slice a12 n13 c14), (Value.slice (some ⟨b15, 0, none⟩) 2 2)] (HP.set h11 b15 (.cells 3 [(Value.int .i64 3), (Value.int .i64 7)] 0)) fun u16 h17 => (boolV u16 fun q18 => (K (upd (upd (upd (upd (upd (upd (upd (upd (upd (upd (upd (upd (upd (upd (upd (upd (upd (upd (upd (upd (upd (upd (upd (upd (upd (upd e 4 (sB (x4))) 3 (sI (x3))) 2 (sI (x2))) 1 (sV (Value.pointer x1))) 18 (sI (x2))) 19 (sB (((x2 : Int) == 9)))) 20 (sB (true))) 21 (sI (x3))) 22 (sB (((x3 : Int) == 2)))) 23 (sB (((x3 : Int) == 2)))) 24 (sB (true))) 25 (sB (x4))) 26 (sB (x4))) 27 (sB (true))) 28 (sV (Value.pointer x1))) 29 (sV (Value.slice a3 n4 c5))) 30 (sV (Value.slice (some ⟨b6, 0, none⟩) 1 1))) 31 (sB (q9))) 32 (sB (q9))) 33 (sB (true))) 34 (sV (Value.pointer x1))) 35 (sV (Value.slice a12 n13 c14))) 36 (sV (Value.slice (some ⟨b15, 0, none⟩) 2 2))) 37 (sB (q18))) 38 (sB (q18))) 0 (sB (q18))) V0 h17)))))) (K (upd (upd (upd (upd (upd (upd (upd (upd (upd (upd (upd (upd (upd (upd (upd (upd (upd (upd (upd (upd (upd (upd (upd (upd (upd (upd e 4 (sB (x4))) 3 (sI (x3))) 2 (sI (x2))) 1 (sV (Value.pointer x1))) 18 (sI (x2))) 19 (sB (((x2 : Int) == 9)))) 20 (sB (true))) 21 (sI (x3))) 22 (sB (((x3 : Int) == 2)))) 23 (sB (((x3 : Int) == 2)))) 24 (sB (true))) 25 (sB (x4))) 26 (sB (x4))) 27 (sB (true))) 28 (sV (Value.pointer x1))) 29 (sV (Value.slice a3 n4 c5))) 30 (sV (Value.slice (some ⟨b6, 0, none⟩) 1 1))) 31 (sB (q9))) 32 (sB (q9))) 33 (sB (false))) 34 (sV undef)) 35 (sV undef)) 36 (sV undef)) 37 (sV undef)) 38 (sB (false))) 0 (sB (false))) V0 h8))))))) (K (upd (upd (upd (upd (upd (upd (upd (upd (upd (upd (upd (upd (upd (upd (upd (upd (upd (upd (upd (upd (upd (upd (upd (upd (upd (upd e 4 (sB (x4))) 3 (sI (x3))) 2 (sI (x2))) 1 (sV (Value.pointer x1))) 18 (sI (x2))) 19 (sB (((x2 : Int) == 9)))) 20 (sB (true))) 21 (sI (x3))) 22 (sB (((x3 : Int) == 2)))) 23 (sB (((x3 : Int) == 2)))) 24 (sB (true))) 25 (sB (x4))) 26 (sB (x4))) 27 (sB (false))) 28 (sV undef)) 29 (sV undef)) 30 (sV undef)) 31 (sV undef)) 32 (sB (false))) 33 (sB (false))) 34 (sV undef)) 35 (sV undef)) 36 (sV undef)) 37 (sV undef)) 38 (sB (false))) 0 (sB (false))) V0 hp)) (K (upd (upd (upd (upd (upd (upd (upd (upd (upd (upd (upd (upd (upd (upd (upd (upd (upd (upd (upd (upd (upd (upd (upd (upd (upd (upd e 4 (sB (x4))) 3 (sI (x3))) 2 (sI (x2))) 1 (sV (Value.pointer x1))) 18 (sI (x2))) 19 (sB (((x2 : Int) == 9)))) 20 (sB (true))) 21 (sI (x3))) 22 (sB (((x3 : Int) == 2)))) 23 (sB (((x3 : Int) == 2)))) 24 (sB (false))) 25 (sV undef)) 26 (sB (false))) 27 (sB (false))) 28 (sV undef)) 29 (sV undef)) 30 (sV undef)) 31 (sV undef)) 32 (sB (false))) 33 (sB (false))) 34 (sV undef)) 35 (sV undef)) 36 (sV undef)) 37 (sV undef)) 38 (sB (false))) 0 (sB (false))) V0 hp)) (K (upd (upd (upd (upd (upd (upd (upd (upd (upd (upd (upd (upd (upd (upd (upd (upd (upd (upd (upd (upd (upd (upd (upd (upd (upd (upd e 4 (sB (x4))) 3 (sI (x3))) 2 (sI (x2))) 1 (sV (Value.pointer x1))) 18 (sI (x2))) 19 (sB (((x2 : Int) == 9)))) 20 (sB (false))) 21 (sV undef)) 22 (sV undef)) 23 (sB (false))) 24 (sB (false))) 25 (sV undef)) 26 (sB (false))) 27 (sB (false))) 28 (sV undef)) 29 (sV undef)) 30 (sV undef)) 31 (sV undef)) 32 (sB (false))) 33 (sB (false))) 34 (sV undef)) 35 (sV undef)) 36 (sV undef)) 37 (sV undef)) 38 (sB (false))) 0 (sB (false))) V0 hp)) := by kernel_rfl
def F28 (hp : HP) (K : Value → HP → Prop) : Prop :=
  (CF Try.prog 29 [] hp fun u_1 h_2 => (ptrV u_1 fun p_3 => (CF Try.prog 30 [(Value.pointer p_3), (Value.int .i64 7), (Value.int .i64 5)] h_2 fun u_4 h_5 => (intV u_4 .i64 fun i_6 => (CF Try.prog 30 [(Value.pointer p_3), (Value.int .i64 3), (Value.int .i64 5)] h_5 fun u_7 h_8 => (intV u_7 .i64 fun i_9 => (CF Try.prog 30 [(Value.pointer p_3), (Value.int .i64 9), (Value.int .i64 2)] h_8 fun u_10 h_11 => (intV u_10 .i64 fun i_12 => (CF Try.prog 42 [(Value.pointer p_3)] h_11 fun u_13 h_14 => (tup3V u_13 fun u_15 u_16 u_17 => (intV u_15 .i64 fun i_18 => (intV u_16 .i64 fun i_19 => (boolV u_17 fun q_20 => (ite2 ((i_18 : Int) == 9) (ite2 ((i_19 : Int) == 2) (ite2 q_20 (CF Try.prog 31 [(Value.pointer p_3), (Value.int .i64 4)] h_14 fun u_21 h_22 => (slcV u_21 fun a_23 n_24 c_25 => (∀ b_26 : Nat, h_22 b_26 = .none → (CF Try.prog 32 [(Value.slice a_23 n_24 c_25), (Value.slice (some ⟨b_26, 0, none⟩) 1 1)] (HP.set h_22 b_26 (.cells 3 [(Value.int .i64 9)] 0)) fun u_27 h_28 => (boolV u_27 fun q_29 => (ite2 q_29 (CF Try.prog 33 [(Value.pointer p_3)] h_28 fun u_30 h_31 => (slcV u_30 fun a_32 n_33 c_34 => (∀ b_35 : Nat, h_31 b_35 = .none → (CF Try.prog 32 [(Value.slice a_32 n_33 c_34), (Value.slice (some ⟨b_35, 0, none⟩) 2 2)] (HP.set h_31 b_35 (.cells 3 [(Value.int .i64 3), (Value.int .i64 7)] 0)) fun u_36 h_37 => (boolV u_36 fun q_38 => (K (Value.bool q_38) h_37)))))) (K (Value.bool false) h_28))))))) (K (Value.bool false) h_14)) (K (Value.bool false) h_14)) (K (Value.bool false) h_14)))))))))))))))
noncomputable def F28_code : Code := (.seq (.region 0 (opsAt Try.f28 [0]) false) (.seq (.region 1 (opsAt Try.f28 [1, 0]) false) (.seq (.region 2 (opsAt Try.f28 [1, 1, 0]) false) (.seq (.region 3 (opsAt Try.f28 [1, 1, 1, 0]) false) (.seq (.region 4 (opsAt Try.f28 [1, 1, 1, 1, 0]) false) (.seq (.region 5 (opsAt Try.f28 [1, 1, 1, 1, 1, 0]) false) (.seq (.region 6 (opsAt Try.f28 [1, 1, 1, 1, 1, 1, 0]) false) .ret)))))))
theorem F28_body : Try.f28.body = some F28_code := by kernel_rfl
theorem F28_ok (hp : HP) (K : Value → HP → Prop) (h : F28  hp K) : CF Try.prog 28 [] hp K := by
 refine .inl ⟨by kernel_rfl, AC.intro (N := 39) Try.func28 F28_body rfl (Nat.le_of_ble_eq_true rfl) ?_⟩
 unfold F28 at h
 unfold F28_code
 refine AWP.seq' ?_
 refine AWP.rgn (F28_r0 E0  hp _) ?_ (Rn) (Sn) (Sn)
 refine AWP.seq' ?_
 refine AWP.rgn (F28_r1 E0  hp _) ?_ (Rn) (Sn) (Sn)
 refine CF_mono h (fun u_1 h_2 h => ?_)
 refine ptrV_mono h (fun p_3 h => ?_)
 refine AWP.seq' ?_
 refine AWP.rgn (F28_r2 E0 p_3 h_2 _) ?_ (Rv 1 _ (Rn)) (Sc rfl (Sn)) (Sn)
 refine CF_mono h (fun u_4 h_5 h => ?_)
 refine intV_mono h (fun i_6 h => ?_)
 refine AWP.seq' ?_
 refine AWP.rgn (F28_r3 E0 p_3 h_5 _) ?_ (Rv 1 _ (Rn)) (Sc rfl (Sn)) (Sn)
 refine CF_mono h (fun u_7 h_8 h => ?_)
 refine intV_mono h (fun i_9 h => ?_)
 refine AWP.seq' ?_
 refine AWP.rgn (F28_r4 E0 p_3 h_8 _) ?_ (Rv 1 _ (Rn)) (Sc rfl (Sn)) (Sn)
 refine CF_mono h (fun u_10 h_11 h => ?_)
 refine intV_mono h (fun i_12 h => ?_)
 refine AWP.seq' ?_
 refine AWP.rgn (F28_r5 E0 p_3 h_11 _) ?_ (Rv 1 _ (Rn)) (Sc rfl (Sn)) (Sn)
 refine CF_mono h (fun u_13 h_14 h => ?_)
 refine tup3V_mono h (fun u_15 u_16 u_17 h => ?_)
 refine intV_mono h (fun i_18 h => ?_)
 refine intV_mono h (fun i_19 h => ?_)
 refine boolV_mono h (fun q_20 h => ?_)
 refine AWP.seq' ?_
 refine AWP.rgn (F28_r6 E0 p_3 i_18 i_19 q_20 h_14 _) ?_ (Rv 1 _ (Rv 2 _ (Rv 3 _ (Rv 4 _ (Rn))))) (Sc rfl (Sc rfl (Sc rfl (Sc rfl (Sn))))) (Sn)
 refine ite2_mono h (fun h => ?_) (fun h => ?_)
 ·refine ite2_mono h (fun h => ?_) (fun h => ?_)
  ·refine ite2_mono h (fun h => ?_) (fun h => ?_)
   ·refine CF_mono h (fun u_21 h_22 h => ?_)
    refine slcV_mono h (fun a_23 n_24 c_25 h => ?_)
    refine fun b_26 hb_b_26 => ?_
    replace h := h b_26 hb_b_26
    refine CF_mono h (fun u_27 h_28 h => ?_)
    refine boolV_mono h (fun q_29 h => ?_)
    refine ite2_mono h (fun h => ?_) (fun h => ?_)
    ·refine CF_mono h (fun u_30 h_31 h => ?_)
     refine slcV_mono h (fun a_32 n_33 c_34 h => ?_)
     refine fun b_35 hb_b_35 => ?_
     replace h := h b_35 hb_b_35
     refine CF_mono h (fun u_36 h_37 h => ?_)
     refine boolV_mono h (fun q_38 h => ?_)
     refine AWP.ret ?_
     exact h
    ·refine AWP.ret ?_
     exact h
   ·refine AWP.ret ?_
    exact h
  ·refine AWP.ret ?_
   exact h
 ·refine AWP.ret ?_
  exact h
-- 32 interpreter/interpreterlaw20.sameInts
theorem F32_r0 (e : Env) (hp : HP) (K : Env → PV → HP → Prop) : RW Try.prog 26 [] (opsAt Try.f32 [0]) (List.range 1) e V0 hp K =
    (K (upd e 4 (sB (false))) V0 hp) := by kernel_rfl
theorem F32_r1 (e : Env) (x0a : Option Addr) (x0n : Nat) (x0c : Nat) (x1a : Option Addr) (x1n : Nat) (x1c : Nat) (hp : HP) (K : Env → PV → HP → Prop) : RW Try.prog 26 [] (opsAt Try.f32 [1, 0, 0]) (List.range 5) (upd (upd e 1 (sV (Value.slice x1a x1n x1c))) 0 (sV (Value.slice x0a x0n x0c))) V0 hp K =
    (K (upd (upd (upd (upd (upd (upd (upd e 1 (sV (Value.slice x1a x1n x1c))) 0 (sV (Value.slice x0a x0n x0c))) 6 (sV (Value.slice x0a x0n x0c))) 7 (sI ((x0n : Nat)))) 8 (sV (Value.slice x1a x1n x1c))) 9 (sI ((x1n : Nat)))) 10 (sB ((((x0n : Nat) : Int) != (x1n : Nat))))) V0 hp) := by kernel_rfl
theorem F32_r2 (e : Env) (hp : HP) (K : Env → PV → HP → Prop) : RW Try.prog 26 [] (opsAt Try.f32 [1, 0, 1, 0, 0]) (List.range 1) e V0 hp K =
    (K (upd e 4 (sB (false))) V0 hp) := by kernel_rfl
theorem F32_r3 (e : Env) (x0a : Option Addr) (x0n : Nat) (x0c : Nat) (x5 : Int) (hp : HP) (K : Env → PV → HP → Prop) : RW Try.prog 26 [] (opsAt Try.f32 [1, 1, 0, 1, 0, 0, 0, 0]) (List.range 4) (upd (upd e 5 (sI (x5))) 0 (sV (Value.slice x0a x0n x0c))) V0 hp K =
    (K (upd (upd (upd (upd (upd (upd e 5 (sI (x5))) 0 (sV (Value.slice x0a x0n x0c))) 11 (sI (x5))) 12 (sV (Value.slice x0a x0n x0c))) 13 (sI ((x0n : Nat)))) 14 (sB ((decide ((x5 : Int) < (x0n : Nat)))))) V0 hp) := by kernel_rfl
theorem F32_r4 (e : Env) (x0a : Option Addr) (x0n : Nat) (x0c : Nat) (x1a : Option Addr) (x1n : Nat) (x1c : Nat) (x5 : Int) (hp : HP) (K : Env → PV → HP → Prop) : RW Try.prog 26 [] (opsAt Try.f32 [1, 1, 0, 1, 0, 0, 1, 0, 0, 0]) (List.range 9) (upd (upd (upd e 5 (sI (x5))) 1 (sV (Value.slice x1a x1n x1c))) 0 (sV (Value.slice x0a x0n x0c))) V0 hp K =
    ((0 ≤ (x5 : Int)) ∧ ((x5 : Int) < (x0n : Nat)) ∧ (ptrN x0a fun b1 o2 => (ldV (HP.cell hp b1 (o2 + Int.toNat x5 * 1)) fun v3 => (intV v3 .i64 fun i4 => ((0 ≤ (x5 : Int)) ∧ ((x5 : Int) < (x1n : Nat)) ∧ (ptrN x1a fun b5 o6 => (ldV (HP.cell hp b5 (o6 + Int.toNat x5 * 1)) fun v7 => (intV v7 .i64 fun i8 => (K (upd (upd (upd (upd (upd (upd (upd (upd (upd (upd (upd (upd e 5 (sI (x5))) 1 (sV (Value.slice x1a x1n x1c))) 0 (sV (Value.slice x0a x0n x0c))) 17 (sV (Value.slice x0a x0n x0c))) 18 (sI (x5))) 19 (sV (ptr b1 (o2 + Int.toNat x5 * 1)))) 20 (sI (i4))) 21 (sV (Value.slice x1a x1n x1c))) 22 (sI (x5))) 23 (sV (ptr b5 (o6 + Int.toNat x5 * 1)))) 24 (sI (i8))) 25 (sB (((i4 : Int) != i8)))) V0 hp))))))))) := by kernel_rfl
theorem F32_r5 (e : Env) (hp : HP) (K : Env → PV → HP → Prop) : RW Try.prog 26 [] (opsAt Try.f32 [1, 1, 0, 1, 0, 0, 1, 0, 0, 1, 0, 0]) (List.range 1) e V0 hp K =
    (K (upd e 4 (sB (false))) V0 hp) := by kernel_rfl
theorem F32_r6 (e : Env) (x5 : Int) (hp : HP) (K : Env → PV → HP → Prop) : RW Try.prog 26 [] (opsAt Try.f32 [1, 1, 0, 1, 0, 0, 1, 1]) (List.range 3) (upd e 5 (sI (x5))) V0 hp K =
    (K (upd (upd (upd (upd e 5 (sI (x5))) 15 (sI (x5))) 16 (sI ((IntKind.wrap .i64 (x5 + 1))))) 5 (sI ((IntKind.wrap .i64 (x5 + 1))))) V0 hp) := by kernel_rfl
theorem F32_r7 (e : Env) (hp : HP) (K : Env → PV → HP → Prop) : RW Try.prog 26 [] (opsAt Try.f32 [1, 1, 1, 0]) (List.range 1) e V0 hp K =
    (K (upd e 4 (sB (true))) V0 hp) := by kernel_rfl
def F32_l2 (x0a : Option Addr) (x0n : Nat) (x0c : Nat) (x1a : Option Addr) (x1n : Nat) (x1c : Nat) (K : Value → HP → Prop) (I2 : (Int) → HP → Prop) (x5 : Int) (hp : HP) : Prop :=
  (ite2 (decide ((x5 : Int) < (x0n : Nat))) ((0 ≤ (x5 : Int)) ∧ ((x5 : Int) < (x0n : Nat)) ∧ (ptrN x0a fun b_1 o_2 => (ldV (HP.cell hp b_1 (o_2 + Int.toNat x5 * 1)) fun v_3 => (intV v_3 .i64 fun i_4 => ((0 ≤ (x5 : Int)) ∧ ((x5 : Int) < (x1n : Nat)) ∧ (ptrN x1a fun b_5 o_6 => (ldV (HP.cell hp b_5 (o_6 + Int.toNat x5 * 1)) fun v_7 => (intV v_7 .i64 fun i_8 => (ite2 ((i_4 : Int) != i_8) (K (Value.bool false) hp) (I2 (IntKind.wrap .i64 (x5 + 1)) hp)))))))))) (K (Value.bool true) hp))
def F32_j1 (x0a : Option Addr) (x0n : Nat) (x0c : Nat) (x1a : Option Addr) (x1n : Nat) (x1c : Nat) (x5 : Int) (hp : HP) (K : Value → HP → Prop) : Prop :=
  (LoopP (σ := Int) (fun I s hp => F32_l2 x0a x0n x0c x1a x1n x1c  K I s hp) x5 hp)
theorem F32_r8 (e : Env) (hp : HP) (K : Env → PV → HP → Prop) : RW Try.prog 26 [] (opsAt Try.f32 [1, 1, 0, 0]) (List.range 1) e V0 hp K =
    (K (upd e 5 (sI (0))) V0 hp) := by kernel_rfl
def F32 (x0a : Option Addr) (x0n : Nat) (x0c : Nat) (x1a : Option Addr) (x1n : Nat) (x1c : Nat) (hp : HP) (K : Value → HP → Prop) : Prop :=
  (ite2 (((x0n : Nat) : Int) != (x1n : Nat)) (K (Value.bool false) hp) (F32_j1 x0a x0n x0c x1a x1n x1c 0 hp  K))
noncomputable def F32_code : Code := (.seq (.region 0 (opsAt Try.f32 [0]) false) (.seq (.seq (.region 1 (opsAt Try.f32 [1, 0, 0]) false) (.cond (.tmp 10) (.seq (.region 2 (opsAt Try.f32 [1, 0, 1, 0, 0]) false) .ret) .skip)) (.seq (.seq (.region 3 (opsAt Try.f32 [1, 1, 0, 0]) false) (.block 0 (.loop (.seq (.seq (.region 4 (opsAt Try.f32 [1, 1, 0, 1, 0, 0, 0, 0]) false) (.cond (.tmp 14) .skip (.exit 0))) (.seq (.block 1 (.seq (.region 6 (opsAt Try.f32 [1, 1, 0, 1, 0, 0, 1, 0, 0, 0]) true) (.cond (.tmp 25) (.seq (.region 7 (opsAt Try.f32 [1, 1, 0, 1, 0, 0, 1, 0, 0, 1, 0, 0]) false) .ret) .skip))) (.region 5 (opsAt Try.f32 [1, 1, 0, 1, 0, 0, 1, 1]) false)))))) (.seq (.region 8 (opsAt Try.f32 [1, 1, 1, 0]) false) .ret))))
theorem F32_body : Try.f32.body = some F32_code := by kernel_rfl
theorem F32_ok (x0a : Option Addr) (x0n : Nat) (x0c : Nat) (x1a : Option Addr) (x1n : Nat) (x1c : Nat) (hp : HP) (K : Value → HP → Prop) (h : F32 x0a x0n x0c x1a x1n x1c hp K) : CF Try.prog 32 [(Value.slice x0a x0n x0c), (Value.slice x1a x1n x1c)] hp K := by
 refine .inl ⟨by kernel_rfl, AC.intro (N := 26) Try.func32 F32_body rfl (Nat.le_of_ble_eq_true rfl) ?_⟩
 unfold F32 at h
 unfold F32_code
 refine AWP.seq' ?_
 refine AWP.rgn (F32_r0 (upd (upd E0 1 (sV (Value.slice x1a x1n x1c))) 0 (sV (Value.slice x0a x0n x0c)))  hp _) ?_ (Rv 0 _ (Rv 1 _ (Rn))) (Sc rfl (Sc rfl (Sn))) (Sn)
 refine AWP.seq' ?_
 refine AWP.seq' ?_
 refine AWP.rgn (F32_r1 E0 x0a x0n x0c x1a x1n x1c hp _) ?_ (Rv 0 _ (Rv 1 _ (Rn))) (Sc rfl (Sc rfl (Sn))) (Sn)
 refine AWP.cond (t := (((x0n : Nat) : Int) != (x1n : Nat))) rfl (fun e => ?_) (fun e => ?_)
 ·replace h := ite2_t h e
  refine AWP.seq' ?_
  refine AWP.rgn (F32_r2 E0  hp _) ?_ (Rn) (Sn) (Sn)
  refine AWP.ret ?_
  exact h
 ·replace h := ite2_f h e
  refine AWP.skip ?_
  refine AWP.seq' ?_
  refine AWP.seq (fun env pv hp => ∃ (x0a : Option Addr) (x0n : Nat) (x0c : Nat) (x1a : Option Addr) (x1n : Nat) (x1c : Nat) (x5 : Int), Sub (upd (upd (upd E0 5 (sI (x5))) 1 (sV (Value.slice x1a x1n x1c))) 0 (sV (Value.slice x0a x0n x0c))) env ∧ Sub V0 pv ∧ (F32_j1 x0a x0n x0c x1a x1n x1c x5 hp  K)) ?_ ?_
  ·refine AWP.rgn (F32_r8 (upd (upd E0 1 (sV (Value.slice x1a x1n x1c))) 0 (sV (Value.slice x0a x0n x0c)))  hp _) ?_ (Rv 0 _ (Rv 1 _ (Rn))) (Sc rfl (Sc rfl (Sn))) (Sn)
   exact ⟨x0a, x0n, x0c, x1a, x1n, x1c, 0, (Sc rfl (Sc rfl (Sc rfl (Sn)))), (Sn), h⟩
  ·rintro env pv hp ⟨x0a, x0n, x0c, x1a, x1n, x1c, x5, he, hv, h⟩
   refine AWP.sub (env' := (upd (upd (upd E0 5 (sI (x5))) 1 (sV (Value.slice x1a x1n x1c))) 0 (sV (Value.slice x0a x0n x0c)))) (pv' := V0) ?_ (Rv 0 _ (Rv 1 _ (Rv 5 _ (Rn)))) he hv (HSub.refl _)
   clear he hv
   unfold F32_j1 at h
   refine AWP.block ?_
   refine AWP.loop (σ := Int) (fun I s hp => F32_l2 x0a x0n x0c x1a x1n x1c  K I s hp) (fun s => (upd (upd (upd E0 5 (sI (s))) 1 (sV (Value.slice x1a x1n x1c))) 0 (sV (Value.slice x0a x0n x0c)))) (fun s => V0) x5 h (fun s => (Rv 0 _ (Rv 1 _ (Rv 5 _ (Rn))))) (Sc rfl (Sc rfl (Sc rfl (Sn)))) (Sn) ?_
   intro I2 s hp h
   obtain ⟨x5, hs⟩ : ∃ x, x = s := ⟨s, rfl⟩
   subst hs
   replace h : F32_l2 x0a x0n x0c x1a x1n x1c  K I2 x5 hp := h
   unfold F32_l2 at h
   refine AWP.seq' ?_
   refine AWP.seq' ?_
   refine AWP.rgn (F32_r3 (upd E0 1 (sV (Value.slice x1a x1n x1c))) x0a x0n x0c x5 hp _) ?_ (Rv 0 _ (Rv 5 _ (Rv 1 _ (Rn)))) (Sc rfl (Sc rfl (Sc rfl (Sn)))) (Sn)
   refine AWP.cond (t := (decide ((x5 : Int) < (x0n : Nat)))) rfl (fun e => ?_) (fun e => ?_)
   ·replace h := ite2_t h e
    refine AWP.skip ?_
    refine AWP.seq' ?_
    refine AWP.block ?_
    refine AWP.seq' ?_
    refine AWP.rgnD (by kernel_rfl) (by kernel_rfl) (F32_r4 E0 x0a x0n x0c x1a x1n x1c x5 hp _) ?_ (Rv 0 _ (Rv 1 _ (Rv 5 _ (Rn)))) (Sc rfl (Sc rfl (Sc rfl (Sn)))) (Sn)
    refine ⟨h.1, h.2.1, ?_⟩
    replace h := h.2.2
    refine ptrN_mono h (fun b_1 o_2 h => ?_)
    refine ldV_mono h (fun v_3 h => ?_)
    refine intV_mono h (fun i_4 h => ?_)
    refine ⟨h.1, h.2.1, ?_⟩
    replace h := h.2.2
    refine ptrN_mono h (fun b_5 o_6 h => ?_)
    refine ldV_mono h (fun v_7 h => ?_)
    refine intV_mono h (fun i_8 h => ?_)
    refine AWP.cond (t := ((i_4 : Int) != i_8)) rfl (fun e => ?_) (fun e => ?_)
    ·replace h := ite2_t h e
     refine AWP.seq' ?_
     refine AWP.rgn (F32_r5 E0  hp _) ?_ (Rn) (Sn) (Sn)
     refine AWP.ret ?_
     exact h
    ·replace h := ite2_f h e
     refine AWP.skip ?_
     refine AWP.rgn (F32_r6 (upd (upd E0 1 (sV (Value.slice x1a x1n x1c))) 0 (sV (Value.slice x0a x0n x0c))) x5 hp _) ?_ (Rv 5 _ (Rv 0 _ (Rv 1 _ (Rn)))) (Sc rfl (Sc rfl (Sc rfl (Sn)))) (Sn)
     exact ⟨(IntKind.wrap .i64 (x5 + 1)), (Sc rfl (Sc rfl (Sc rfl (Sn)))), (Sn), h⟩
   ·replace h := ite2_f h e
    refine AWP.exit ?_
    refine AWP.seq' ?_
    refine AWP.rgn (F32_r7 E0  hp _) ?_ (Rn) (Sn) (Sn)
    refine AWP.ret ?_
    exact h
end Go.Proofs

set_option linter.unusedVariables false
set_option maxRecDepth 20000
namespace Go.Proofs
open Go Go.HL
open Go.Exp (Th tlt swo_tlt Ord setW dropW insW)

def i1 (x : Int) : List Value := [.int .i64 x]
theorem i1_len (x : Int) : (i1 x).length = 1 := rfl
theorem idv_i1 : ∀ w : List Th, w.flatMap idv = (w.map (·.1)).flatMap i1
  | [] => rfl
  | t :: w => by rw [List.flatMap_cons, List.map_cons, List.flatMap_cons, idv_i1 w]; rfl

/-- What lies beside stays. -/
abbrev Frm (hl hp hl' hp' : HP) : Prop := ∀ r, HSub r hp → Disj hl r → HSub r hp' ∧ Disj hl' r

def badDue (due : Int) : Prop := due < 0 ∨ due > 4611686018427387904

section
variable {hl hp : HP} {q : Nat} {w : List Th} {K : Value → HP → Prop}

theorem N29 (hk : ∀ q hl' hp', QW hl' q [] → HSub hl' hp' → (∀ r, HSub r hp → HSub r hp' ∧ Disj hl' r) → K (ptr q 0) hp') : CF Try.prog 29 [] hp K := by
  refine CF.loc (hq := fun _ => .none) (fun x => .inl rfl) (C29 (K := fun v h' => ∃ q, v = ptr q 0 ∧ QW h' q []) fun q hq' _ _ h => ⟨q, rfl, h⟩) ?_
  rintro v hl' hp' ⟨q, rfl, h⟩ hs hf
  exact hk q hl' hp' h hs fun r hr => hf r hr fun x => .inl rfl

theorem N30 {id due : Int} (sl : HSub hl hp) (h : QW hl q w) (hsz : w.length + 1 ≤ 1000000)
    (hk : ∀ (v : Int) hl' hp' w', (badDue due → v = 1 ∧ w' = w) → (¬ badDue due → v = 0 ∧ w' = setW id due w) → QW hl' q w' → HSub hl' hp' → Frm hl hp hl' hp' → K (.int .i64 v) hp') : CF Try.prog 30 [ptr q 0, .int .i64 id, .int .i64 due] hp K := by
  refine CF.loc sl (C30 (K := fun v h' => (badDue due ∧ v = .int .i64 1 ∧ QW h' q w) ∨ (¬ badDue due ∧ v = .int .i64 0 ∧ QW h' q (setW id due w))) h hsz (fun hb => .inl ⟨hb, rfl, h⟩) fun hb hq' hQ => .inr ⟨hb, rfl, hQ⟩) ?_
  rintro v hl' hp' (⟨hb, rfl, hQ⟩ | ⟨hb, rfl, hQ⟩) hs hf
  · exact hk 1 hl' hp' w (fun _ => ⟨rfl, rfl⟩) (fun hn => absurd hb hn) hQ hs hf
  · exact hk 0 hl' hp' _ (fun hn => absurd hn hb) (fun _ => ⟨rfl, rfl⟩) hQ hs hf

theorem N34 {id : Int} (sl : HSub hl hp) (h : QW hl q w) (hsz : w.length ≤ 1000000)
    (hk : ∀ hl' hp', QW hl' q (dropW id w) → HSub hl' hp' → Frm hl hp hl' hp' → K (.bool (getL id w).isSome) hp') : CF Try.prog 34 [ptr q 0, .int .i64 id] hp K := by
  refine CF.loc sl (C34 (K := fun v h' => v = .bool (getL id w).isSome ∧ QW h' q (dropW id w)) h hsz fun hq' hQ => ⟨rfl, hQ⟩) ?_
  rintro v hl' hp' ⟨rfl, hQ⟩ hs hf
  exact hk hl' hp' hQ hs hf

theorem N31 {now : Int} (sl : HSub hl hp) (h : QW hl q w) (hsz : w.length ≤ 1000000)
    (hk : ∀ (hl' hp' : HP) (s : Option Addr) (c : Nat), QW hl' q (w.dropWhile fun t => decide (t.2 ≤ now)) → HSub hl' hp' → Row hp' s (w.takeWhile fun t => decide (t.2 ≤ now)).length c 3 1 ((w.takeWhile fun t => decide (t.2 ≤ now)).flatMap idv) →
      (∀ b, s = some ⟨b, 0, none⟩ → hl' b = .none) → (∀ r, HSub r hp → Disj hl r → HSub r hp' ∧ Disj hl' r ∧ ∀ b, s = some ⟨b, 0, none⟩ → r b = .none) →
      K (.slice s (w.takeWhile fun t => decide (t.2 ≤ now)).length c) hp') : CF Try.prog 31 [ptr q 0, .int .i64 now] hp K := by
  refine CF.loc sl (C31 (K := fun v hx => ∃ (hl' : HP) (s : Option Addr) (c : Nat), v = .slice s (w.takeWhile fun t => decide (t.2 ≤ now)).length c ∧ HSub hl' hx ∧ QW hl' q (w.dropWhile fun t => decide (t.2 ≤ now)) ∧
    Row hx s (w.takeWhile fun t => decide (t.2 ≤ now)).length c 3 1 ((w.takeWhile fun t => decide (t.2 ≤ now)).flatMap idv) ∧ ∀ b, s = some ⟨b, 0, none⟩ → hl' b = .none) h hsz fun hx hl' s c h1 h2 h3 h4 => ⟨hl', s, c, rfl, h1, h2, h3, h4⟩) ?_
  rintro v hx hp' ⟨hl', s, c, rfl, h1, h2, h3, h4⟩ hs hf
  refine hk hl' hp' s c h2 (h1.trans hs) (h3.sub hs) h4 fun r hr hd => ?_
  obtain ⟨f1, f2⟩ := hf r hr hd
  refine ⟨f1, fun x => ?_, fun b hb => ?_⟩
  · rcases f2 x with e | e
    · exact .inl (h1.none e)
    · exact .inr e
  · rcases f2 b with e | e
    · rcases h3 with ⟨r1, _⟩ | ⟨b', r1, r2, r3, r4⟩
      · rw [r1] at hb; cases hb
      · rw [r1] at hb; cases hb; rw [r4] at e; cases e
    · exact e

theorem C32 {a b : Option Addr} {n m c c' : Nat} {xs ys : List Int} (ha : Shows hp a n 1 (xs.flatMap i1)) (hb : Shows hp b m 1 (ys.flatMap i1)) (hn : xs.length = n) (hm : ys.length = m) (hsz : n ≤ 1000000)
    (hK : K (.bool (decide (xs = ys))) hp) : CF Try.prog 32 [.slice a n c, .slice b m c'] hp K := by
  refine F32_ok a n c b m c' hp K ?_
  unfold F32
  by_cases hnm : n = m
  rotate_left
  · have e : (((n : Nat) : Int) != ((m : Nat) : Int)) = true := by rw [bne_iff_ne]; omega
    have : decide (xs = ys) = false := decide_eq_false fun h => hnm (by rw [← hn, ← hm, h])
    rw [e, ite2_true]
    rw [this] at hK; exact hK
  have e : (((n : Nat) : Int) != ((m : Nat) : Int)) = false := by rw [hnm]; simp
  rw [e, ite2_false]
  unfold F32_j1
  refine LoopP.by (J := fun k (x : Int) hp' => hp' = hp ∧ ∃ i : Nat, x = i ∧ i + k = n ∧ xs.take i = ys.take i) ?_ (n := n) ⟨rfl, 0, rfl, by omega, by simp⟩
  rintro I k x hp' ⟨rfl, i, rfl, hik, heq⟩ hI
  unfold F32_l2
  by_cases hi : i < n
  · obtain ⟨b1, o1, rfl, hc1⟩ := ha.get i1_len hn hi
    obtain ⟨b2, o2, rfl, hc2⟩ := hb.get i1_len hm (by omega : i < m)
    have g1 : hp'.cell b1 (o1 + i * 1) = some (.int .i64 (xs[i]'(hn ▸ hi))) := by have := HP.cell_cellN (j := 0) hc1 (v := .int .i64 (xs[i]'(hn ▸ hi))) rfl; simpa using this
    have g2 : hp'.cell b2 (o2 + i * 1) = some (.int .i64 (ys[i]'(by omega))) := by have := HP.cell_cellN (j := 0) hc2 (v := .int .i64 (ys[i]'(by omega))) rfl; simpa using this
    rw [decide_eq_true (by omega : (i : Int) < (n : Int)), ite2_true]
    simp only [ptrN_some, Int.toNat_natCast, g1, g2, ldV_some, intV_int]
    refine ⟨by omega, by omega, by omega, by omega, ?_⟩
    by_cases hxy : xs[i]'(hn ▸ hi) = ys[i]'(by omega)
    · have e : (xs[i]'(hn ▸ hi) != ys[i]'(by omega)) = false := by simpa using hxy
      have w : IntKind.wrap .i64 ((i : Int) + 1) = ((i + 1 : Nat) : Int) := wi (by omega) (by omega)
      rw [e, ite2_false, w]
      refine hI (k - 1) _ _ (by omega) ⟨rfl, i + 1, rfl, by omega, ?_⟩
      rw [List.take_succ_eq_append_getElem (by omega), List.take_succ_eq_append_getElem (by omega), heq, hxy]
    · have e : (xs[i]'(hn ▸ hi) != ys[i]'(by omega)) = true := by simpa using hxy
      have : decide (xs = ys) = false := decide_eq_false fun h => hxy (by subst h; rfl)
      rw [e, ite2_true]
      rw [this] at hK; exact hK
  · rw [decide_eq_false (by omega : ¬ (i : Int) < (n : Int)), ite2_false]
    have : xs = ys := by
      have e1 : xs.take i = xs := List.take_of_length_le (by omega)
      have e2 : ys.take i = ys := List.take_of_length_le (by omega)
      rw [e1, e2] at heq; exact heq
    rw [decide_eq_true this] at hK; exact hK

/-- The chapter's first example. -/
theorem C28 (hK : ∀ hp', HSub hp hp' → K (.bool true) hp') : CF Try.prog 28 [] hp K := by
  refine F28_ok hp K ?_
  unfold F28
  have pp : ∀ (p : Nat) (c : Option Addr → Prop), ptrV (ptr p 0) c = c (some ⟨p, 0, none⟩) := fun _ _ => rfl
  refine N29 fun q l1 hp1 hQ1 s1 f1 => ?_
  obtain ⟨g1, d1⟩ := f1 hp (HSub.refl _)
  rw [pp]
  refine N30 s1 hQ1 (by simp) fun v2 l2 hp2 w2 _ hg2 hQ2 s2 f2 => ?_
  obtain ⟨rfl, rfl⟩ := hg2 (by unfold badDue; omega)
  obtain ⟨g2, d2⟩ := f2 hp g1 d1
  rw [intV_int]
  refine N30 s2 hQ2 (by decide) fun v3 l3 hp3 w3 _ hg3 hQ3 s3 f3 => ?_
  obtain ⟨rfl, rfl⟩ := hg3 (by unfold badDue; omega)
  obtain ⟨g3, d3⟩ := f3 hp g2 d2
  rw [intV_int]
  refine N30 s3 hQ3 (by decide) fun v4 l4 hp4 w4 _ hg4 hQ4 s4 f4 => ?_
  obtain ⟨rfl, rfl⟩ := hg4 (by unfold badDue; omega)
  obtain ⟨g4, d4⟩ := f4 hp g3 d3
  rw [intV_int]
  have hw : setW 9 2 (setW 3 5 (setW 7 5 [])) = [(9, 2), (3, 5), (7, 5)] := by decide
  rw [hw] at hQ4
  refine C42 (hQ4.sub s4) ?_
  simp only [tup3V_mk, List.head?_cons, Option.map_some, Option.getD_some, Option.isSome_some, intV_int, boolV_bool]
  show ite2 true (ite2 true (ite2 true _ _) _) _
  rw [ite2_true, ite2_true, ite2_true]
  refine N31 s4 hQ4 (by simp) fun l5 hp5 s c hQ5 s5 hrow5 hfr5 f5 => ?_
  obtain ⟨g5, d5, _⟩ := f5 hp g4 d4
  have ht : ([(9, 2), (3, 5), (7, 5)] : List Th).takeWhile (fun t => decide (t.2 ≤ 4)) = [(9, 2)] := by decide
  have hd : ([(9, 2), (3, 5), (7, 5)] : List Th).dropWhile (fun t => decide (t.2 ≤ 4)) = [(3, 5), (7, 5)] := by decide
  rw [ht] at hrow5 ⊢
  rw [hd] at hQ5
  rw [slcV_slice]
  intro b6 hb6
  have s6 := HSub.set_fresh hp5 (.cells 3 [(Value.int .i64 9)] 0) hb6
  refine C32 (xs := [9]) (ys := [9]) ((hrow5.sub s6).shows) (.inr ⟨b6, 0, rfl, by rw [HP.cellN_of (HP.set_eq ..)]; rfl⟩) rfl rfl (by decide) ?_
  rw [boolV_bool]
  show ite2 true _ _
  rw [ite2_true]
  refine C33 (hQ5.sub (s5.trans s6)) (by decide) fun hp7 s7 c7 g7 hrow7 _ => ?_
  rw [slcV_slice]
  intro b8 hb8
  have s8 := HSub.set_fresh hp7 (.cells 3 [(Value.int .i64 3), (Value.int .i64 7)] 0) hb8
  refine C32 (xs := [3, 7]) (ys := [3, 7]) ((hrow7.sub s8).shows) (.inr ⟨b8, 0, rfl, by rw [HP.cellN_of (HP.set_eq ..)]; rfl⟩) rfl rfl (by decide) ?_
  rw [boolV_bool]
  exact hK _ (((g5.trans s6).trans g7).trans s8)

end
end Go.Proofs

set_option linter.unusedVariables false
namespace Go.Proofs
open Go Go.HL

/-- An address: four bytes. -/
abbrev Q := Int × Int × Int × Int
def v4 (q : Q) : List Value := [.int .u8 q.1, .int .u8 q.2.1, .int .u8 q.2.2.1, .int .u8 q.2.2.2]
def t4 (t : Q × Int) : List Value := [.int .u8 t.1.1, .int .u8 t.1.2.1, .int .u8 t.1.2.2.1, .int .u8 t.1.2.2.2, .int .i64 t.2]
theorem v4_len (q : Q) : (v4 q).length = 4 := rfl
theorem t4_len (q : Q × Int) : (t4 q).length = 5 := rfl
theorem v4_one (q : Q) : (v4 q).all one = true := rfl
theorem t4_one (q : Q × Int) : (t4 q).all one = true := rfl
theorem v4_inj {p q : Q} : v4 p = v4 q ↔ p = q := by
  simp only [v4, List.cons.injEq, Value.int.injEq, true_and, and_true]
  constructor
  · rintro ⟨a, b, c, d⟩; exact Prod.ext a (Prod.ext b (Prod.ext c d))
  · rintro rfl; exact ⟨rfl, rfl, rfl, rfl⟩
theorem t4_inj {p q : Q × Int} : t4 p = t4 q ↔ p = q := by
  simp only [t4, List.cons.injEq, Value.int.injEq, true_and, and_true]
  constructor
  · rintro ⟨a, b, c, d, e⟩; exact Prod.ext (Prod.ext a (Prod.ext b (Prod.ext c d))) e
  · rintro rfl; exact ⟨rfl, rfl, rfl, rfl, rfl⟩

theorem v4_shaped (q : Q) : shaped Try.prog 3 73 (v4 q) = true := by kernel_rfl
theorem t4_shaped (q : Q × Int) : shaped Try.prog 3 75 (t4 q) = true := by kernel_rfl

theorem eq73 {p q : Q} {c : Bool → Prop} (h : c (decide (p = q))) : eqAgg Try.prog 73 (v4 p) (v4 q) c :=
  eqAgg_of (m := 3) (D := 3) (by kernel_rfl) (v4_shaped p) (v4_shaped q) (by simp [v4_inj]) h
theorem eq75 {p q : Q × Int} {c : Bool → Prop} (h : c (decide (p = q))) : eqAgg Try.prog 75 (t4 p) (t4 q) c :=
  eqAgg_of (m := 3) (D := 3) (by kernel_rfl) (t4_shaped p) (t4_shaped q) (by simp [t4_inj]) h

/-! Class, the two addresses. -/
def isPort (x : Int) : Bool := decide (0 ≤ x ∧ x ≤ 65535)
def cls (x y : Int) : Bool := isPort x && isPort y && (decide (x < 1024) == decide (y < 1024)) && (x.tmod 2 == y.tmod 2)

/-- Where an address is in a list, or -1. -/
def idx (q : Q) (l : List Q) : Int := if q ∈ l then (l.idxOf q : Int) else -1

theorem idx_none {q : Q} {l : List Q} (h : ∀ j : Nat, l[j]? ≠ some q) : idx q l = -1 := by
  have : q ∉ l := fun hm => by obtain ⟨j, hj⟩ := List.mem_iff_getElem?.1 hm; exact h j hj
  simp [idx, this]
theorem idx_at {q : Q} {l : List Q} {i : Nat} (h : l[i]? = some q) (hn : ∀ j : Nat, j < i → l[j]? ≠ some q) : idx q l = i := by
  have hm : q ∈ l := List.mem_iff_getElem?.2 ⟨i, h⟩
  have hlt : l.idxOf q < l.length := List.idxOf_lt_length_of_mem hm
  have h1 : l[l.idxOf q]? = some q := by rw [List.getElem?_eq_getElem hlt]; simp
  have h2 : ¬ l.idxOf q < i := fun h' => hn _ h' h1
  have h3 : ¬ i < l.idxOf q := fun h' => by
    have := List.not_of_lt_findIdx (xs := l) (p := (· == q)) (i := i) h'
    have hi : i < l.length := by omega
    rw [List.getElem?_eq_getElem hi] at h
    simp at this h
    exact this h
  simp only [idx, hm, if_true]
  omega

end Go.Proofs

set_option linter.unusedVariables false
set_option maxRecDepth 20000
namespace Go.Proofs
open Go Go.HL

theorem dec5 {D : Nat} {cs : List Value} (h : wellS Try.prog D 5 cs = true) : ∃ n : Int, (0 ≤ n ∧ n ≤ 255) ∧ cs = [.int .u8 n] := by
  cases D with
  | zero => cases h
  | succ D =>
    unfold wellS at h
    rw [show Try.prog.underlying 5 = some (.int .u8) by kernel_rfl] at h
    simp only at h
    split at h
    · rename_i q n
      simp only [Bool.and_eq_true, decide_eq_true_eq] at h
      obtain ⟨rfl, hw⟩ := h
      exact ⟨n, (Go.Lit.wf_int_iff _ _).1 hw, rfl⟩
    · cases h
theorem dec3 {D : Nat} {cs : List Value} (h : wellS Try.prog D 3 cs = true) : ∃ n : Int, (-9223372036854775808 ≤ n ∧ n ≤ 9223372036854775807) ∧ cs = [.int .i64 n] := by
  cases D with
  | zero => cases h
  | succ D =>
    unfold wellS at h
    rw [show Try.prog.underlying 3 = some (.int .i64) by kernel_rfl] at h
    simp only at h
    split at h
    · rename_i q n
      simp only [Bool.and_eq_true, decide_eq_true_eq] at h
      obtain ⟨rfl, hw⟩ := h
      exact ⟨n, (Go.Lit.wf_int_iff _ _).1 hw, rfl⟩
    · cases h
theorem dec4 {D : Nat} {cs : List Value} (h : wellS Try.prog D 4 cs = true) : ∃ b : Bool, cs = [.bool b] := by
  cases D with
  | zero => cases h
  | succ D =>
    unfold wellS at h
    rw [show Try.prog.underlying 4 = some .bool by kernel_rfl] at h
    simp only at h
    split at h
    · exact ⟨_, rfl⟩
    · cases h

/-- Are the bytes of an address bytes? -/
def okQ (q : Q) : Prop := (0 ≤ q.1 ∧ q.1 ≤ 255) ∧ (0 ≤ q.2.1 ∧ q.2.1 ≤ 255) ∧ (0 ≤ q.2.2.1 ∧ q.2.2.1 ≤ 255) ∧ (0 ≤ q.2.2.2 ∧ q.2.2.2 ≤ 255)

theorem dec73 : ∀ (D : Nat) (cs : List Value), wellS Try.prog D 73 cs = true → ∃ q : Q, okQ q ∧ cs = v4 q := by
  intro D cs h
  cases D with
  | zero => cases h
  | succ D =>
    unfold wellS at h
    rw [show Try.prog.underlying 73 = some (.array 4 5) by kernel_rfl] at h
    simp only [show Try.prog.cellsOf 73 = 4 by kernel_rfl, show Try.prog.cellsOf 5 = 1 by kernel_rfl, Bool.and_eq_true, decide_eq_true_eq, List.all_eq_true, List.mem_range] at h
    obtain ⟨hl, he⟩ := h
    match cs, hl with
    | [c0, c1, c2, c3], _ =>
      obtain ⟨n0, r0, e0⟩ := dec5 (he 0 (by omega))
      obtain ⟨n1, r1, e1⟩ := dec5 (he 1 (by omega))
      obtain ⟨n2, r2, e2⟩ := dec5 (he 2 (by omega))
      obtain ⟨n3, r3, e3⟩ := dec5 (he 3 (by omega))
      simp at e0 e1 e2 e3
      subst e0; subst e1; subst e2; subst e3
      exact ⟨(n0, n1, n2, n3), ⟨r0, r1, r2, r3⟩, rfl⟩
end Go.Proofs

