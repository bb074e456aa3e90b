/- Parts of the proof of PlaysProof: the logic of what is known of memory, functions' contracts. -/
import Derived.Test.YtidoceleobdkmaaQPlaysProofB
import Derived.Test.YtidoceleobdkmaaHlAbb
import Derived.Test.YtidoceleobdkmaaProg
import Derived.Sort.LotB
import Derived.Sort.LotC
import Derived.Sort.LotA
set_option linter.unusedVariables false
set_option maxRecDepth 20000
namespace Go.Proofs
open Go Go.HL
-- 176 slices.siftDownCmpFunc[interpreter/api.T4]
section
variable (e : Env) (x0a : Option Addr) (x0n x0c : Nat) (x1 x2 x3 : Int) (x4 : Value) (x10 x11 : Int) (hp : HP) (K : Env → PV → HP → Prop)
abbrev R176 (p : List Nat) (n : Nat) := RW Try.prog 82 [] (opsAt Try.f176 p) (List.range n)
theorem F176_r0 : R176 [1, 0, 0, 0, 0] 4 (upd e 10 (sI x10)) V0 hp K =
    (K (upd (upd (upd (upd (upd e 10 (sI x10)) 13 (sI x10)) 14 (sI ((wr (2 * x10))))) 15 (sI ((wr ((wr (2 * x10)) + 1))))) 11 (sI ((wr ((wr (2 * x10)) + 1))))) V0 hp) := by kernel_rfl
theorem F176_r1 : R176 [1, 0, 0, 0, 1, 0, 0] 3 (upd (upd e 11 (sI x11)) 2 (sI x2)) V0 hp K =
    (K (upd (upd (upd (upd (upd e 11 (sI x11)) 2 (sI x2)) 16 (sI x11)) 17 (sI x2)) 18 (sB (decide (x11 ≥ x2)))) V0 hp) := by kernel_rfl
theorem F176_r2 : R176 [1, 0, 0, 0, 1, 1, 1, 0, 0] 16 (upd (upd (upd (upd (upd e 11 (sI x11)) 10 (sI x10)) 4 (sV x4)) 3 (sI x3)) 0 (sS x0a x0n x0c)) V0 hp K =
    ((0 ≤ ((wr (x3 + x10)) : Int)) ∧ (((wr (x3 + x10)) : Int) < x0n) ∧ (ptrN x0a fun b1 o2 => (ldL (HP.cellN hp b1 (o2 + Int.toNat (wr (x3 + x10)) * 5) 5) fun l3 => ((0 ≤ ((wr (x3 + x11)) : Int)) ∧ (((wr (x3 + x11)) : Int) < x0n) ∧ (ptrN x0a fun b4 o5 => (ldL (HP.cellN hp b4 (o5 + Int.toNat (wr (x3 + x11)) * 5) 5) fun l6 => (fnV x4 fun f7 ga8 gb9 => (CF Try.prog f7 (ga8 ++ [(Value.agg ⟨l3⟩), (.agg ⟨l6⟩)] ++ gb9) hp fun u10 h11 => (intV u10 .i64 fun i12 => (K (upd (upd (upd (upd (upd (upd (upd (upd (upd (upd (upd (upd (upd (upd (upd (upd (upd (upd (upd (upd (upd e 11 (sI x11)) 10 (sI x10)) 4 (sV x4)) 3 (sI x3)) 0 (sS x0a x0n x0c)) 43 (sV x4)) 44 (sS x0a x0n x0c)) 45 (sI x3)) 46 (sI x10)) 47 (sI ((wr (x3 + x10))))) 48 (sV (ptr b1 (o2 + Int.toNat (wr (x3 + x10)) * 5)))) 49 (sA l3)) 50 (sS x0a x0n x0c)) 51 (sI x3)) 52 (sI x11)) 53 (sI ((wr (x3 + x11))))) 54 (sV (ptr b4 (o5 + Int.toNat (wr (x3 + x11)) * 5)))) 55 (sA l6)) 56 (sI i12)) 57 (sB (decide (i12 < 0)))) 58 (sB ((!(decide (i12 < 0)))))) V0 h11)))))))))) := by kernel_rfl
theorem F176_r3 : R176 [1, 0, 0, 0, 1, 1, 1, 1, 0] 24 (upd (upd (upd (upd e 11 (sI x11)) 10 (sI x10)) 3 (sI x3)) 0 (sS x0a x0n x0c)) V0 hp K =
    ((0 ≤ ((wr (x3 + x11)) : Int)) ∧ (((wr (x3 + x11)) : Int) < x0n) ∧ (ptrN x0a fun b1 o2 => (ldL (HP.cellN hp b1 (o2 + Int.toNat (wr (x3 + x11)) * 5) 5) fun l3 => ((0 ≤ ((wr (x3 + x10)) : Int)) ∧ (((wr (x3 + x10)) : Int) < x0n) ∧ (ptrN x0a fun b4 o5 => (ldL (HP.cellN hp b4 (o5 + Int.toNat (wr (x3 + x10)) * 5) 5) fun l6 => ((0 ≤ ((wr (x3 + x10)) : Int)) ∧ (((wr (x3 + x10)) : Int) < x0n) ∧ (ptrN x0a fun b7 o8 => ((List.length l3 = 5) ∧ (HP.stN hp b7 (o8 + Int.toNat (wr (x3 + x10)) * 5) l3 fun h9 => ((0 ≤ ((wr (x3 + x11)) : Int)) ∧ (((wr (x3 + x11)) : Int) < x0n) ∧ (ptrN x0a fun b10 o11 => ((List.length l6 = 5) ∧ (HP.stN h9 b10 (o11 + Int.toNat (wr (x3 + x11)) * 5) l6 fun h12 => (K (upd (upd (upd (upd (upd (upd (upd (upd (upd (upd (upd (upd (upd (upd (upd (upd (upd (upd (upd (upd (upd (upd (upd (upd (upd (upd e 11 (sI x11)) 10 (sI x10)) 3 (sI x3)) 0 (sS x0a x0n x0c)) 59 (sS x0a x0n x0c)) 60 (sI x3)) 61 (sI x10)) 62 (sI ((wr (x3 + x10))))) 63 (sS x0a x0n x0c)) 64 (sI x3)) 65 (sI x11)) 66 (sI ((wr (x3 + x11))))) 67 (sS x0a x0n x0c)) 68 (sI x3)) 69 (sI x11)) 70 (sI ((wr (x3 + x11))))) 71 (sV (ptr b1 (o2 + Int.toNat (wr (x3 + x11)) * 5)))) 72 (sA l3)) 73 (sS x0a x0n x0c)) 74 (sI x3)) 75 (sI x10)) 76 (sI ((wr (x3 + x10))))) 77 (sV (ptr b4 (o5 + Int.toNat (wr (x3 + x10)) * 5)))) 78 (sA l6)) 79 (sV (ptr b7 (o8 + Int.toNat (wr (x3 + x10)) * 5)))) 80 (sV (ptr b10 (o11 + Int.toNat (wr (x3 + x11)) * 5)))) V0 h12))))))))))))))) := by kernel_rfl
theorem F176_r4 : R176 [1, 0, 0, 0, 1, 1, 1, 1, 1] 2 (upd e 11 (sI x11)) V0 hp K =
    (K (upd (upd (upd e 11 (sI x11)) 81 (sI x11)) 10 (sI x11)) V0 hp) := by kernel_rfl
def F176_j3 (x0a : Option Addr) (x0n : Nat) (x0c : Nat) (x2 : Int) (x3 : Int) (x4 : Value) (x10 : Int) (x11 : Int) (hp : HP) (I2 : (Int) → HP → Prop) (K : Value → HP → Prop) : Prop :=
  ((0 ≤ ((IntKind.wrap .i64 (x3 + x10)) : Int)) ∧ (((IntKind.wrap .i64 (x3 + x10)) : Int) < x0n) ∧ (ptrN x0a fun b_1 o_2 => (ldL (HP.cellN hp b_1 (o_2 + Int.toNat (IntKind.wrap .i64 (x3 + x10)) * 5) 5) fun l_3 => ((0 ≤ ((IntKind.wrap .i64 (x3 + x11)) : Int)) ∧ (((IntKind.wrap .i64 (x3 + x11)) : Int) < x0n) ∧ (ptrN x0a fun b_4 o_5 => (ldL (HP.cellN hp b_4 (o_5 + Int.toNat (IntKind.wrap .i64 (x3 + x11)) * 5) 5) fun l_6 => (fnV x4 fun f_7 ga_8 gb_9 => (CF Try.prog f_7 (ga_8 ++ [(Value.agg ⟨l_3⟩), (.agg ⟨l_6⟩)] ++ gb_9) hp fun u_10 h_11 => (intV u_10 .i64 fun i_12 => (ite2 (!(decide (i_12 < 0))) (K (.tuple ⟨[]⟩) h_11) ((0 ≤ ((IntKind.wrap .i64 (x3 + x11)) : Int)) ∧ (((IntKind.wrap .i64 (x3 + x11)) : Int) < x0n) ∧ (ptrN x0a fun b_13 o_14 => (ldL (HP.cellN h_11 b_13 (o_14 + Int.toNat (IntKind.wrap .i64 (x3 + x11)) * 5) 5) fun l_15 => ((0 ≤ ((IntKind.wrap .i64 (x3 + x10)) : Int)) ∧ (((IntKind.wrap .i64 (x3 + x10)) : Int) < x0n) ∧ (ptrN x0a fun b_16 o_17 => (ldL (HP.cellN h_11 b_16 (o_17 + Int.toNat (IntKind.wrap .i64 (x3 + x10)) * 5) 5) fun l_18 => ((0 ≤ ((IntKind.wrap .i64 (x3 + x10)) : Int)) ∧ (((IntKind.wrap .i64 (x3 + x10)) : Int) < x0n) ∧ (ptrN x0a fun b_19 o_20 => ((List.length l_15 = 5) ∧ (HP.stN h_11 b_19 (o_20 + Int.toNat (IntKind.wrap .i64 (x3 + x10)) * 5) l_15 fun h_21 => ((0 ≤ ((IntKind.wrap .i64 (x3 + x11)) : Int)) ∧ (((IntKind.wrap .i64 (x3 + x11)) : Int) < x0n) ∧ (ptrN x0a fun b_22 o_23 => ((List.length l_18 = 5) ∧ (HP.stN h_21 b_22 (o_23 + Int.toNat (IntKind.wrap .i64 (x3 + x11)) * 5) l_18 fun h_24 => (I2 x11 h_24)))))))))))))))))))))))))
theorem F176_r5 : R176 [1, 0, 0, 0, 1, 1, 0, 1, 0] 3 (upd e 11 (sI x11)) V0 hp K =
    (K (upd (upd (upd (upd e 11 (sI x11)) 41 (sI x11)) 42 (sI ((wr (x11 + 1))))) 11 (sI ((wr (x11 + 1))))) V0 hp) := by kernel_rfl
def F176_j4 (x0a : Option Addr) (x0n : Nat) (x0c : Nat) (x2 : Int) (x3 : Int) (x4 : Value) (x10 : Int) (x11 : Int) (x40 : Bool) (hp : HP) (I2 : (Int) → HP → Prop) (K : Value → HP → Prop) : Prop :=
  (ite2 x40 (F176_j3 x0a x0n x0c x2 x3 x4 x10 (IntKind.wrap .i64 (x11 + 1)) hp I2 K) (F176_j3 x0a x0n x0c x2 x3 x4 x10 x11 hp I2 K))
theorem F176_r6 : R176 [1, 0, 0, 0, 1, 1, 0, 0] 22 (upd (upd (upd (upd (upd e 11 (sI x11)) 4 (sV x4)) 3 (sI x3)) 2 (sI x2)) 0 (sS x0a x0n x0c)) V0 hp K =
    (ite2 (decide (((wr (x11 + 1)) : Int) < x2)) ((0 ≤ ((wr (x3 + x11)) : Int)) ∧ (((wr (x3 + x11)) : Int) < x0n) ∧ (ptrN x0a fun b1 o2 => (ldL (HP.cellN hp b1 (o2 + Int.toNat (wr (x3 + x11)) * 5) 5) fun l3 => ((0 ≤ ((wr ((wr (x3 + x11)) + 1)) : Int)) ∧ (((wr ((wr (x3 + x11)) + 1)) : Int) < x0n) ∧ (ptrN x0a fun b4 o5 => (ldL (HP.cellN hp b4 (o5 + Int.toNat (wr ((wr (x3 + x11)) + 1)) * 5) 5) fun l6 => (fnV x4 fun f7 ga8 gb9 => (CF Try.prog f7 (ga8 ++ [(Value.agg ⟨l3⟩), (.agg ⟨l6⟩)] ++ gb9) hp fun u10 h11 => (intV u10 .i64 fun i12 => (K (upd (upd (upd (upd (upd (upd (upd (upd (upd (upd (upd (upd (upd (upd (upd (upd (upd (upd (upd (upd (upd (upd (upd (upd (upd (upd (upd e 11 (sI x11)) 4 (sV x4)) 3 (sI x3)) 2 (sI x2)) 0 (sS x0a x0n x0c)) 19 (sI x11)) 20 (sI ((wr (x11 + 1))))) 21 (sI x2)) 22 (sB ((decide (((wr (x11 + 1)) : Int) < x2))))) 23 (sB true)) 24 (sV x4)) 25 (sS x0a x0n x0c)) 26 (sI x3)) 27 (sI x11)) 28 (sI ((wr (x3 + x11))))) 29 (sV (ptr b1 (o2 + Int.toNat (wr (x3 + x11)) * 5)))) 30 (sA l3)) 31 (sS x0a x0n x0c)) 32 (sI x3)) 33 (sI x11)) 34 (sI ((wr (x3 + x11))))) 35 (sI ((wr ((wr (x3 + x11)) + 1))))) 36 (sV (ptr b4 (o5 + Int.toNat (wr ((wr (x3 + x11)) + 1)) * 5)))) 37 (sA l6)) 38 (sI i12)) 39 (sB (decide (i12 < 0)))) 40 (sB (decide (i12 < 0)))) V0 h11)))))))))) (K (upd (upd (upd (upd (upd (upd (upd (upd (upd (upd (upd (upd (upd (upd (upd (upd (upd (upd (upd (upd (upd (upd (upd (upd (upd (upd (upd e 11 (sI x11)) 4 (sV x4)) 3 (sI x3)) 2 (sI x2)) 0 (sS x0a x0n x0c)) 19 (sI x11)) 20 (sI ((wr (x11 + 1))))) 21 (sI x2)) 22 (sB ((decide (((wr (x11 + 1)) : Int) < x2))))) 23 (sB false)) 24 sU) 25 sU) 26 sU) 27 sU) 28 sU) 29 sU) 30 sU) 31 sU) 32 sU) 33 sU) 34 sU) 35 sU) 36 sU) 37 sU) 38 sU) 39 sU) 40 (sB false)) V0 hp)) := by kernel_rfl
def F176_l2 (x0a : Option Addr) (x0n : Nat) (x0c : Nat) (x2 : Int) (x3 : Int) (x4 : Value) (K : Value → HP → Prop) (I2 : (Int) → HP → Prop) (x10 : Int) (hp : HP) : Prop :=
  (ite2 (decide (((IntKind.wrap .i64 ((IntKind.wrap .i64 (2 * x10)) + 1)) : Int) ≥ x2)) (K (.tuple ⟨[]⟩) hp) (ite2 (decide (((IntKind.wrap .i64 ((IntKind.wrap .i64 ((IntKind.wrap .i64 (2 * x10)) + 1)) + 1)) : Int) < x2)) ((0 ≤ ((IntKind.wrap .i64 (x3 + (IntKind.wrap .i64 ((IntKind.wrap .i64 (2 * x10)) + 1)))) : Int)) ∧ (((IntKind.wrap .i64 (x3 + (IntKind.wrap .i64 ((IntKind.wrap .i64 (2 * x10)) + 1)))) : Int) < x0n) ∧ (ptrN x0a fun b_25 o_26 => (ldL (HP.cellN hp b_25 (o_26 + Int.toNat (IntKind.wrap .i64 (x3 + (IntKind.wrap .i64 ((IntKind.wrap .i64 (2 * x10)) + 1)))) * 5) 5) fun l_27 => ((0 ≤ ((IntKind.wrap .i64 ((IntKind.wrap .i64 (x3 + (IntKind.wrap .i64 ((IntKind.wrap .i64 (2 * x10)) + 1)))) + 1)) : Int)) ∧ (((IntKind.wrap .i64 ((IntKind.wrap .i64 (x3 + (IntKind.wrap .i64 ((IntKind.wrap .i64 (2 * x10)) + 1)))) + 1)) : Int) < x0n) ∧ (ptrN x0a fun b_28 o_29 => (ldL (HP.cellN hp b_28 (o_29 + Int.toNat (IntKind.wrap .i64 ((IntKind.wrap .i64 (x3 + (IntKind.wrap .i64 ((IntKind.wrap .i64 (2 * x10)) + 1)))) + 1)) * 5) 5) fun l_30 => (fnV x4 fun f_31 ga_32 gb_33 => (CF Try.prog f_31 (ga_32 ++ [(Value.agg ⟨l_27⟩), (.agg ⟨l_30⟩)] ++ gb_33) hp fun u_34 h_35 => (intV u_34 .i64 fun i_36 => (F176_j4 x0a x0n x0c x2 x3 x4 x10 (IntKind.wrap .i64 ((IntKind.wrap .i64 (2 * x10)) + 1)) (decide (i_36 < 0)) h_35 I2 K)))))))))) (F176_j4 x0a x0n x0c x2 x3 x4 x10 (IntKind.wrap .i64 ((IntKind.wrap .i64 (2 * x10)) + 1)) false hp I2 K)))
def F176_j1 (x0a : Option Addr) (x0n : Nat) (x0c : Nat) (x2 : Int) (x3 : Int) (x4 : Value) (x10 : Int) (hp : HP) (K : Value → HP → Prop) : Prop :=
  (LoopP (σ := Int) (fun I s hp => F176_l2 x0a x0n x0c x2 x3 x4  K I s hp) x10 hp)
theorem F176_r7 : R176 [0] 2 (upd e 1 (sI x1)) V0 hp K =
    (K (upd (upd (upd e 1 (sI x1)) 12 (sI x1)) 10 (sI x1)) V0 hp) := by kernel_rfl
def F176 (x0a : Option Addr) (x0n : Nat) (x0c : Nat) (x1 : Int) (x2 : Int) (x3 : Int) (x4 : Value) (hp : HP) (K : Value → HP → Prop) : Prop :=
  (F176_j1 x0a x0n x0c x2 x3 x4 x1 hp  K)
noncomputable def F176_code : Code := (.seq (.region 0 (opsAt Try.f176 [0]) false) (.block 0 (.loop (.block 1 (.seq (.region 1 (opsAt Try.f176 [1, 0, 0, 0, 0]) false) (.seq (.seq (.region 2 (opsAt Try.f176 [1, 0, 0, 0, 1, 0, 0]) false) (.cond (.tmp 18) (.exit 0) .skip)) (.seq (.seq (.region 3 (opsAt Try.f176 [1, 0, 0, 0, 1, 1, 0, 0]) true) (.cond (.tmp 40) (.region 4 (opsAt Try.f176 [1, 0, 0, 0, 1, 1, 0, 1, 0]) false) .skip)) (.seq (.seq (.region 5 (opsAt Try.f176 [1, 0, 0, 0, 1, 1, 1, 0, 0]) true) (.cond (.tmp 58) .ret .skip)) (.seq (.region 6 (opsAt Try.f176 [1, 0, 0, 0, 1, 1, 1, 1, 0]) true) (.region 7 (opsAt Try.f176 [1, 0, 0, 0, 1, 1, 1, 1, 1]) false))))))))))
theorem F176_body : Try.f176.body = some F176_code := by kernel_rfl
theorem F176_ok (x0a : Option Addr) (x0n : Nat) (x0c : Nat) (x1 : Int) (x2 : Int) (x3 : Int) (x4 : Value) (hp : HP) (K : Value → HP → Prop) (h : F176 x0a x0n x0c x1 x2 x3 x4 hp K) : CF Try.prog 176 [(.slice x0a x0n x0c), (.int .i64 x1), (.int .i64 x2), (.int .i64 x3), x4] hp K := by
 refine .inl ⟨by kernel_rfl, AC.intro (N := 82) Try.func176 F176_body rfl (Nat.le_of_ble_eq_true rfl) ?_⟩
 unfold F176 at h
 unfold F176_code
 refine AWP.seq (fun env pv hp => ∃ (x0a : Option Addr) (x0n : Nat) (x0c : Nat) (x2 : Int) (x3 : Int) (x4 : Value) (x10 : Int), Sub (upd (upd (upd (upd (upd E0 10 (sI x10)) 4 (sV x4)) 3 (sI x3)) 2 (sI x2)) 0 (sS x0a x0n x0c)) env ∧ Sub V0 pv ∧ (F176_j1 x0a x0n x0c x2 x3 x4 x10 hp  K)) ?_ ?_
 ·refine AWP.rgn (F176_r7 (upd (upd (upd (upd E0 4 (sV x4)) 3 (sI x3)) 2 (sI x2)) 0 (sS x0a x0n x0c)) x1 hp _) ?_ (Ru 1 (Ru 0 (Ru 2 (Ru 3 (Ru 4 Rn))))) (Sc rfl (Sc rfl (Sc rfl (Sc rfl (Sc rfl Sn))))) Sn
  exact ⟨x0a, x0n, x0c, x2, x3, x4, x1, (Sc rfl (Sc rfl (Sc rfl (Sc rfl (Sc rfl Sn))))), Sn, h⟩
 ·rintro env pv hp ⟨x0a, x0n, x0c, x2, x3, x4, x10, he, hv, h⟩
  refine AWP.sub (env' := (upd (upd (upd (upd (upd E0 10 (sI x10)) 4 (sV x4)) 3 (sI x3)) 2 (sI x2)) 0 (sS x0a x0n x0c))) (pv' := V0) ?_ (Ru 0 (Ru 2 (Ru 3 (Ru 4 (Ru 10 Rn))))) he hv (HSub.refl _)
  clear he hv
  unfold F176_j1 at h
  refine AWP.block ?_
  refine AWP.loop (σ := Int) (fun I s hp => F176_l2 x0a x0n x0c x2 x3 x4  K I s hp) (fun s => (upd (upd (upd (upd (upd E0 10 (sI s)) 4 (sV x4)) 3 (sI x3)) 2 (sI x2)) 0 (sS x0a x0n x0c))) (fun s => V0) x10 h (fun s => (Ru 0 (Ru 2 (Ru 3 (Ru 4 (Ru 10 Rn)))))) (Sc rfl (Sc rfl (Sc rfl (Sc rfl (Sc rfl Sn))))) Sn ?_
  intro I2 s hp h
  obtain ⟨x10, hs⟩ : ∃ x, x = s := ⟨s, rfl⟩
  subst hs
  replace h : F176_l2 x0a x0n x0c x2 x3 x4  K I2 x10 hp := h
  unfold F176_l2 at h
  refine AWP.block ?_
  refine AWP.seq' ?_
  refine AWP.rgn (F176_r0 (upd (upd (upd (upd E0 4 (sV x4)) 3 (sI x3)) 2 (sI x2)) 0 (sS x0a x0n x0c)) x10 hp _) ?_ (Ru 10 (Ru 0 (Ru 2 (Ru 3 (Ru 4 Rn))))) (Sc rfl (Sc rfl (Sc rfl (Sc rfl (Sc rfl Sn))))) Sn
  refine AWP.seq' ?_
  refine AWP.seq' ?_
  refine AWP.rgn (F176_r1 (upd (upd (upd (upd E0 10 (sI x10)) 4 (sV x4)) 3 (sI x3)) 0 (sS x0a x0n x0c)) x2 (wr ((wr (2 * x10)) + 1)) hp _) ?_ (Ru 2 (Ru 11 (Ru 0 (Ru 3 (Ru 4 (Ru 10 Rn)))))) (Sc rfl (Sc rfl (Sc rfl (Sc rfl (Sc rfl (Sc rfl Sn)))))) Sn
  refine AWP.cond (t := (decide (((wr ((wr (2 * x10)) + 1)) : Int) ≥ x2))) rfl (fun e => ?_) (fun e => ?_)
  ·replace h := ite2_t h e
   refine AWP.exit ?_
   exact h
  ·replace h := ite2_f h e
   refine AWP.skip ?_
   refine AWP.seq (fun env pv hp => ∃ (x10 : Int) (x11 : Int), Sub (upd (upd (upd (upd (upd (upd E0 11 (sI x11)) 10 (sI x10)) 4 (sV x4)) 3 (sI x3)) 2 (sI x2)) 0 (sS x0a x0n x0c)) env ∧ Sub V0 pv ∧ (F176_j3 x0a x0n x0c x2 x3 x4 x10 x11 hp I2 K)) ?_ ?_
   ·refine AWP.seq (fun env pv hp => ∃ (x10 : Int) (x11 : Int) (x40 : Bool), Sub (upd (upd (upd (upd (upd (upd (upd E0 40 (sB x40)) 11 (sI x11)) 10 (sI x10)) 4 (sV x4)) 3 (sI x3)) 2 (sI x2)) 0 (sS x0a x0n x0c)) env ∧ Sub V0 pv ∧ (F176_j4 x0a x0n x0c x2 x3 x4 x10 x11 x40 hp I2 K)) ?_ ?_
    ·refine AWP.rgnD (by kernel_rfl) (by kernel_rfl) (F176_r6 (upd E0 10 (sI x10)) x0a x0n x0c x2 x3 x4 (wr ((wr (2 * x10)) + 1)) hp _) ?_ (Ru 0 (Ru 2 (Ru 3 (Ru 4 (Ru 11 (Ru 10 Rn)))))) (Sc rfl (Sc rfl (Sc rfl (Sc rfl (Sc rfl (Sc rfl Sn)))))) Sn
     refine mt h (fun h => ?_) (fun h => ?_)
     ·refine ⟨h.1, h.2.1, mN h.2.2 (fun b_25 o_26 h => mL h (fun l_27 h => ⟨h.1, h.2.1, mN h.2.2 fun b_28 o_29 h => mL h fun l_30 h => mF h fun f_31 ga_32 gb_33 h => mC h fun u_34 h_35 h => mI h fun i_36 h => ?_⟩))⟩
      exact ⟨x10, (wr ((wr (2 * x10)) + 1)), (decide (i_36 < 0)), (Sc rfl (Sc rfl (Sc rfl (Sc rfl (Sc rfl (Sc rfl (Sc rfl Sn))))))), Sn, h⟩
     ·exact ⟨x10, (wr ((wr (2 * x10)) + 1)), false, (Sc rfl (Sc rfl (Sc rfl (Sc rfl (Sc rfl (Sc rfl (Sc rfl Sn))))))), Sn, h⟩
    ·rintro env pv hp ⟨x10, x11, x40, he, hv, h⟩
     refine AWP.sub (env' := (upd (upd (upd (upd (upd (upd (upd E0 40 (sB x40)) 11 (sI x11)) 10 (sI x10)) 4 (sV x4)) 3 (sI x3)) 2 (sI x2)) 0 (sS x0a x0n x0c))) (pv' := V0) ?_ (Ru 0 (Ru 2 (Ru 3 (Ru 4 (Ru 10 (Ru 11 (Ru 40 Rn))))))) he hv (HSub.refl _)
     clear he hv
     unfold F176_j4 at h
     refine AWP.cond (t := x40) rfl (fun e => ?_) (fun e => ?_)
     ·replace h := ite2_t h e
      refine AWP.rgn (F176_r5 (upd (upd (upd (upd (upd E0 10 (sI x10)) 4 (sV x4)) 3 (sI x3)) 2 (sI x2)) 0 (sS x0a x0n x0c)) x11 hp _) ?_ (Ru 11 (Ru 0 (Ru 2 (Ru 3 (Ru 4 (Ru 10 Rn)))))) (Sc rfl (Sc rfl (Sc rfl (Sc rfl (Sc rfl (Sc rfl Sn)))))) Sn
      exact ⟨x10, (wr (x11 + 1)), (Sc rfl (Sc rfl (Sc rfl (Sc rfl (Sc rfl (Sc rfl Sn)))))), Sn, h⟩
     ·replace h := ite2_f h e
      refine AWP.skip ?_
      exact ⟨x10, x11, (Sc rfl (Sc rfl (Sc rfl (Sc rfl (Sc rfl (Sc rfl Sn)))))), Sn, h⟩
   ·rintro env pv hp ⟨x10, x11, he, hv, h⟩
    refine AWP.sub (env' := (upd (upd (upd (upd (upd (upd E0 11 (sI x11)) 10 (sI x10)) 4 (sV x4)) 3 (sI x3)) 2 (sI x2)) 0 (sS x0a x0n x0c))) (pv' := V0) ?_ (Ru 0 (Ru 2 (Ru 3 (Ru 4 (Ru 10 (Ru 11 Rn)))))) he hv (HSub.refl _)
    clear he hv
    unfold F176_j3 at h
    refine AWP.seq' ?_
    refine AWP.seq' ?_
    refine AWP.rgnD (by kernel_rfl) (by kernel_rfl) (F176_r2 (upd E0 2 (sI x2)) x0a x0n x0c x3 x4 x10 x11 hp _) ?_ (Ru 0 (Ru 3 (Ru 4 (Ru 10 (Ru 11 (Ru 2 Rn)))))) (Sc rfl (Sc rfl (Sc rfl (Sc rfl (Sc rfl (Sc rfl Sn)))))) Sn
    refine ⟨h.1, h.2.1, mN h.2.2 (fun b_1 o_2 h => mL h (fun l_3 h => ⟨h.1, h.2.1, mN h.2.2 fun b_4 o_5 h => mL h fun l_6 h => mF h fun f_7 ga_8 gb_9 h => mC h fun u_10 h_11 h => mI h fun i_12 h => ?_⟩))⟩
    refine AWP.cond (t := (!(decide (i_12 < 0)))) rfl (fun e => ?_) (fun e => ?_)
    ·replace h := ite2_t h e
     refine AWP.ret ?_
     exact h
    ·replace h := ite2_f h e
     refine AWP.skip ?_
     refine AWP.seq' ?_
     refine AWP.rgnD (by kernel_rfl) (by kernel_rfl) (F176_r3 (upd (upd E0 4 (sV x4)) 2 (sI x2)) x0a x0n x0c x3 x10 x11 h_11 _) ?_ (Ru 0 (Ru 3 (Ru 10 (Ru 11 (Ru 2 (Ru 4 Rn)))))) (Sc rfl (Sc rfl (Sc rfl (Sc rfl (Sc rfl (Sc rfl Sn)))))) Sn
     refine ⟨h.1, h.2.1, mN h.2.2 (fun b_13 o_14 h => mL h (fun l_15 h => ⟨h.1, h.2.1, mN h.2.2 (fun b_16 o_17 h => mL h (fun l_18 h => ⟨h.1, h.2.1, mN h.2.2 (fun b_19 o_20 h => ⟨h.1, mW h.2 (fun h_21 h => ⟨h.1, h.2.1, mN h.2.2 (fun b_22 o_23 h => ⟨h.1, mW h.2 fun h_24 h => ?_⟩)⟩)⟩)⟩))⟩))⟩
     refine AWP.rgn (F176_r4 (upd (upd (upd (upd E0 4 (sV x4)) 3 (sI x3)) 2 (sI x2)) 0 (sS x0a x0n x0c)) x11 h_24 _) ?_ (Ru 11 (Ru 0 (Ru 2 (Ru 3 (Ru 4 Rn))))) (Sc rfl (Sc rfl (Sc rfl (Sc rfl (Sc rfl Sn))))) Sn
     exact ⟨x11, (Sc rfl (Sc rfl (Sc rfl (Sc rfl (Sc rfl Sn))))), Sn, h⟩
end
-- 157 slices.heapSortCmpFunc[interpreter/api.T4]
section
variable (e : Env) (x0a : Option Addr) (x0n x0c : Nat) (x1 x2 : Int) (x3 : Value) (x8 x9 x10 x11 x12 : Int) (hp : HP) (K : Env → PV → HP → Prop)
abbrev R157 (p : List Nat) (n : Nat) := RW Try.prog 60 [] (opsAt Try.f157 p) (List.range n)
theorem F157_r0 : R157 [0] 2 (upd e 1 (sI x1)) V0 hp K =
    (K (upd (upd (upd e 1 (sI x1)) 13 (sI x1)) 8 (sI x1)) V0 hp) := by kernel_rfl
theorem F157_r1 : R157 [1, 0] 1 e V0 hp K =
    (K (upd e 9 (sI 0)) V0 hp) := by kernel_rfl
theorem F157_r2 : R157 [1, 1, 0] 4 (upd (upd e 2 (sI x2)) 1 (sI x1)) V0 hp K =
    (K (upd (upd (upd (upd (upd (upd e 2 (sI x2)) 1 (sI x1)) 14 (sI x2)) 15 (sI x1)) 16 (sI ((wr (x2 - x1))))) 10 (sI ((wr (x2 - x1))))) V0 hp) := by kernel_rfl
theorem F157_r3 : R157 [1, 1, 1, 1, 1, 0, 0, 0, 0] 2 (upd e 12 (sI x12)) V0 hp K =
    (K (upd (upd (upd e 12 (sI x12)) 32 (sI x12)) 33 (sB (decide (x12 ≥ 0)))) V0 hp) := by kernel_rfl
theorem F157_r4 : R157 [1, 1, 1, 1, 1, 0, 0, 1, 0, 0, 0] 20 (upd (upd (upd e 12 (sI x12)) 8 (sI x8)) 0 (sS x0a x0n x0c)) V0 hp K =
    ((0 ≤ ((wr (x8 + x12)) : Int)) ∧ (((wr (x8 + x12)) : Int) < x0n) ∧ (ptrN x0a fun b1 o2 => (ldL (HP.cellN hp b1 (o2 + Int.toNat (wr (x8 + x12)) * 5) 5) fun l3 => ((0 ≤ x8) ∧ (x8 < x0n) ∧ (ptrN x0a fun b4 o5 => (ldL (HP.cellN hp b4 (o5 + Int.toNat x8 * 5) 5) fun l6 => ((0 ≤ x8) ∧ (x8 < x0n) ∧ (ptrN x0a fun b7 o8 => ((List.length l3 = 5) ∧ (HP.stN hp b7 (o8 + Int.toNat x8 * 5) l3 fun h9 => ((0 ≤ ((wr (x8 + x12)) : Int)) ∧ (((wr (x8 + x12)) : Int) < x0n) ∧ (ptrN x0a fun b10 o11 => ((List.length l6 = 5) ∧ (HP.stN h9 b10 (o11 + Int.toNat (wr (x8 + x12)) * 5) l6 fun h12 => (K (upd (upd (upd (upd (upd (upd (upd (upd (upd (upd (upd (upd (upd (upd (upd (upd (upd (upd (upd (upd (upd e 12 (sI x12)) 8 (sI x8)) 0 (sS x0a x0n x0c)) 36 (sS x0a x0n x0c)) 37 (sI x8)) 38 (sS x0a x0n x0c)) 39 (sI x8)) 40 (sI x12)) 41 (sI ((wr (x8 + x12))))) 42 (sS x0a x0n x0c)) 43 (sI x8)) 44 (sI x12)) 45 (sI ((wr (x8 + x12))))) 46 (sV (ptr b1 (o2 + Int.toNat (wr (x8 + x12)) * 5)))) 47 (sA l3)) 48 (sS x0a x0n x0c)) 49 (sI x8)) 50 (sQ b4 (o5 + Int.toNat x8 * 5))) 51 (sA l6)) 52 (sQ b7 (o8 + Int.toNat x8 * 5))) 53 (sV (ptr b10 (o11 + Int.toNat (wr (x8 + x12)) * 5)))) V0 h12))))))))))))))) := by kernel_rfl
theorem F157_r5 : R157 [1, 1, 1, 1, 1, 0, 0, 1, 0, 0, 1] 6 (upd (upd (upd (upd (upd e 12 (sI x12)) 9 (sI x9)) 8 (sI x8)) 3 (sV x3)) 0 (sS x0a x0n x0c)) V0 hp K =
    (CF Try.prog 176 [(.slice x0a x0n x0c), (.int .i64 x9), (.int .i64 x12), (.int .i64 x8), x3] hp fun u1 h2 => (K (upd (upd (upd (upd (upd (upd (upd (upd (upd (upd (upd e 12 (sI x12)) 9 (sI x9)) 8 (sI x8)) 3 (sV x3)) 0 (sS x0a x0n x0c)) 54 (sS x0a x0n x0c)) 55 (sI x9)) 56 (sI x12)) 57 (sI x8)) 58 (sV x3)) 59 (sV u1)) V0 h2)) := by kernel_rfl
theorem F157_r6 : R157 [1, 1, 1, 1, 1, 0, 0, 1, 1] 3 (upd e 12 (sI x12)) V0 hp K =
    (K (upd (upd (upd (upd e 12 (sI x12)) 34 (sI x12)) 35 (sI ((wr (x12 - 1))))) 12 (sI ((wr (x12 - 1))))) V0 hp) := by kernel_rfl
def F157_l3 (x0a : Option Addr) (x0n : Nat) (x0c : Nat) (x3 : Value) (x8 : Int) (x9 : Int) (K : Value → HP → Prop) (I3 : (Int) → HP → Prop) (x12 : Int) (hp : HP) : Prop :=
  (ite2 (decide (x12 ≥ 0)) ((0 ≤ ((IntKind.wrap .i64 (x8 + x12)) : Int)) ∧ (((IntKind.wrap .i64 (x8 + x12)) : Int) < x0n) ∧ (ptrN x0a fun b_1 o_2 => (ldL (HP.cellN hp b_1 (o_2 + Int.toNat (IntKind.wrap .i64 (x8 + x12)) * 5) 5) fun l_3 => ((0 ≤ x8) ∧ (x8 < x0n) ∧ (ptrN x0a fun b_4 o_5 => (ldL (HP.cellN hp b_4 (o_5 + Int.toNat x8 * 5) 5) fun l_6 => ((0 ≤ x8) ∧ (x8 < x0n) ∧ (ptrN x0a fun b_7 o_8 => ((List.length l_3 = 5) ∧ (HP.stN hp b_7 (o_8 + Int.toNat x8 * 5) l_3 fun h_9 => ((0 ≤ ((IntKind.wrap .i64 (x8 + x12)) : Int)) ∧ (((IntKind.wrap .i64 (x8 + x12)) : Int) < x0n) ∧ (ptrN x0a fun b_10 o_11 => ((List.length l_6 = 5) ∧ (HP.stN h_9 b_10 (o_11 + Int.toNat (IntKind.wrap .i64 (x8 + x12)) * 5) l_6 fun h_12 => (CF Try.prog 176 [(.slice x0a x0n x0c), (.int .i64 x9), (.int .i64 x12), (.int .i64 x8), x3] h_12 fun u_13 h_14 => (I3 (IntKind.wrap .i64 (x12 - 1)) h_14)))))))))))))))) (K (.tuple ⟨[]⟩) hp))
def F157_j2 (x0a : Option Addr) (x0n : Nat) (x0c : Nat) (x3 : Value) (x8 : Int) (x9 : Int) (x12 : Int) (hp : HP) (K : Value → HP → Prop) : Prop :=
  (LoopP (σ := Int) (fun I s hp => F157_l3 x0a x0n x0c x3 x8 x9  K I s hp) x12 hp)
theorem F157_r7 : R157 [1, 1, 1, 1, 0] 3 (upd e 10 (sI x10)) V0 hp K =
    (K (upd (upd (upd (upd e 10 (sI x10)) 30 (sI x10)) 31 (sI ((wr (x10 - 1))))) 12 (sI ((wr (x10 - 1))))) V0 hp) := by kernel_rfl
def F157_j1 (x0a : Option Addr) (x0n : Nat) (x0c : Nat) (x3 : Value) (x8 : Int) (x9 : Int) (x10 : Int) (hp : HP) (K : Value → HP → Prop) : Prop :=
  (F157_j2 x0a x0n x0c x3 x8 x9 (IntKind.wrap .i64 (x10 - 1)) hp  K)
theorem F157_r8 : R157 [1, 1, 1, 0, 1, 0, 0, 0, 0] 2 (upd e 11 (sI x11)) V0 hp K =
    (K (upd (upd (upd e 11 (sI x11)) 20 (sI x11)) 21 (sB (decide (x11 ≥ 0)))) V0 hp) := by kernel_rfl
theorem F157_r9 : R157 [1, 1, 1, 0, 1, 0, 0, 1, 0, 0] 6 (upd (upd (upd (upd (upd e 11 (sI x11)) 10 (sI x10)) 8 (sI x8)) 3 (sV x3)) 0 (sS x0a x0n x0c)) V0 hp K =
    (CF Try.prog 176 [(.slice x0a x0n x0c), (.int .i64 x11), (.int .i64 x10), (.int .i64 x8), x3] hp fun u1 h2 => (K (upd (upd (upd (upd (upd (upd (upd (upd (upd (upd (upd e 11 (sI x11)) 10 (sI x10)) 8 (sI x8)) 3 (sV x3)) 0 (sS x0a x0n x0c)) 24 (sS x0a x0n x0c)) 25 (sI x11)) 26 (sI x10)) 27 (sI x8)) 28 (sV x3)) 29 (sV u1)) V0 h2)) := by kernel_rfl
theorem F157_r10 : R157 [1, 1, 1, 0, 1, 0, 0, 1, 1] 3 (upd e 11 (sI x11)) V0 hp K =
    (K (upd (upd (upd (upd e 11 (sI x11)) 22 (sI x11)) 23 (sI ((wr (x11 - 1))))) 11 (sI ((wr (x11 - 1))))) V0 hp) := by kernel_rfl
def F157_l5 (x0a : Option Addr) (x0n : Nat) (x0c : Nat) (x3 : Value) (x8 : Int) (x9 : Int) (x10 : Int) (K : Value → HP → Prop) (I5 : (Int) → HP → Prop) (x11 : Int) (hp : HP) : Prop :=
  (ite2 (decide (x11 ≥ 0)) (CF Try.prog 176 [(.slice x0a x0n x0c), (.int .i64 x11), (.int .i64 x10), (.int .i64 x8), x3] hp fun u_15 h_16 => (I5 (IntKind.wrap .i64 (x11 - 1)) h_16)) (F157_j1 x0a x0n x0c x3 x8 x9 x10 hp  K))
def F157_j4 (x0a : Option Addr) (x0n : Nat) (x0c : Nat) (x3 : Value) (x8 : Int) (x9 : Int) (x10 : Int) (x11 : Int) (hp : HP) (K : Value → HP → Prop) : Prop :=
  (LoopP (σ := Int) (fun I s hp => F157_l5 x0a x0n x0c x3 x8 x9 x10  K I s hp) x11 hp)
theorem F157_r11 : R157 [1, 1, 1, 0, 0] 4 (upd e 10 (sI x10)) V0 hp K =
    (((2 : Int) ≠ 0) ∧ (K (upd (upd (upd (upd (upd e 10 (sI x10)) 17 (sI x10)) 18 (sI ((wr (x10 - 1))))) 19 (sI ((wr (Int.tdiv (wr (x10 - 1)) 2))))) 11 (sI ((wr (Int.tdiv (wr (x10 - 1)) 2))))) V0 hp)) := by kernel_rfl
def F157 (x0a : Option Addr) (x0n : Nat) (x0c : Nat) (x1 : Int) (x2 : Int) (x3 : Value) (hp : HP) (K : Value → HP → Prop) : Prop :=
  (((2 : Int) ≠ 0) ∧ (F157_j4 x0a x0n x0c x3 x1 0 (IntKind.wrap .i64 (x2 - x1)) (IntKind.wrap .i64 (Int.tdiv (IntKind.wrap .i64 ((IntKind.wrap .i64 (x2 - x1)) - 1)) 2)) hp  K))
noncomputable def F157_code : Code := (.seq (.region 0 (opsAt Try.f157 [0]) false) (.seq (.region 1 (opsAt Try.f157 [1, 0]) false) (.seq (.region 2 (opsAt Try.f157 [1, 1, 0]) false) (.seq (.seq (.region 3 (opsAt Try.f157 [1, 1, 1, 0, 0]) false) (.block 0 (.loop (.seq (.seq (.region 4 (opsAt Try.f157 [1, 1, 1, 0, 1, 0, 0, 0, 0]) false) (.cond (.tmp 21) .skip (.exit 0))) (.seq (.block 1 (.region 6 (opsAt Try.f157 [1, 1, 1, 0, 1, 0, 0, 1, 0, 0]) false)) (.region 5 (opsAt Try.f157 [1, 1, 1, 0, 1, 0, 0, 1, 1]) false)))))) (.seq (.region 7 (opsAt Try.f157 [1, 1, 1, 1, 0]) false) (.block 2 (.loop (.seq (.seq (.region 8 (opsAt Try.f157 [1, 1, 1, 1, 1, 0, 0, 0, 0]) false) (.cond (.tmp 33) .skip (.exit 2))) (.seq (.block 3 (.seq (.region 10 (opsAt Try.f157 [1, 1, 1, 1, 1, 0, 0, 1, 0, 0, 0]) true) (.region 11 (opsAt Try.f157 [1, 1, 1, 1, 1, 0, 0, 1, 0, 0, 1]) false))) (.region 9 (opsAt Try.f157 [1, 1, 1, 1, 1, 0, 0, 1, 1]) false))))))))))
theorem F157_body : Try.f157.body = some F157_code := by kernel_rfl
theorem F157_ok (x0a : Option Addr) (x0n : Nat) (x0c : Nat) (x1 : Int) (x2 : Int) (x3 : Value) (hp : HP) (K : Value → HP → Prop) (h : F157 x0a x0n x0c x1 x2 x3 hp K) : CF Try.prog 157 [(.slice x0a x0n x0c), (.int .i64 x1), (.int .i64 x2), x3] hp K := by
 refine .inl ⟨by kernel_rfl, AC.intro (N := 60) Try.func157 F157_body rfl (Nat.le_of_ble_eq_true rfl) ?_⟩
 unfold F157 at h
 unfold F157_code
 refine AWP.seq' ?_
 refine AWP.rgn (F157_r0 (upd (upd (upd E0 3 (sV x3)) 2 (sI x2)) 0 (sS x0a x0n x0c)) x1 hp _) ?_ (Ru 1 (Ru 0 (Ru 2 (Ru 3 Rn)))) (Sc rfl (Sc rfl (Sc rfl (Sc rfl Sn)))) Sn
 refine AWP.seq' ?_
 refine AWP.rgn (F157_r1 (upd (upd (upd (upd (upd E0 8 (sI x1)) 3 (sV x3)) 2 (sI x2)) 1 (sI x1)) 0 (sS x0a x0n x0c))  hp _) ?_ (Ru 0 (Ru 1 (Ru 2 (Ru 3 (Ru 8 Rn))))) (Sc rfl (Sc rfl (Sc rfl (Sc rfl (Sc rfl Sn))))) Sn
 refine AWP.seq' ?_
 refine AWP.rgn (F157_r2 (upd (upd (upd (upd E0 9 (sI 0)) 8 (sI x1)) 3 (sV x3)) 0 (sS x0a x0n x0c)) x1 x2 hp _) ?_ (Ru 1 (Ru 2 (Ru 0 (Ru 3 (Ru 8 (Ru 9 Rn)))))) (Sc rfl (Sc rfl (Sc rfl (Sc rfl (Sc rfl (Sc rfl Sn)))))) Sn
 refine AWP.seq (fun env pv hp => ∃ (x0a : Option Addr) (x0n : Nat) (x0c : Nat) (x3 : Value) (x8 : Int) (x9 : Int) (x10 : Int), Sub (upd (upd (upd (upd (upd E0 10 (sI x10)) 9 (sI x9)) 8 (sI x8)) 3 (sV x3)) 0 (sS x0a x0n x0c)) env ∧ Sub V0 pv ∧ (F157_j1 x0a x0n x0c x3 x8 x9 x10 hp  K)) ?_ ?_
 ·refine AWP.seq (fun env pv hp => ∃ (x0a : Option Addr) (x0n : Nat) (x0c : Nat) (x3 : Value) (x8 : Int) (x9 : Int) (x10 : Int) (x11 : Int), Sub (upd (upd (upd (upd (upd (upd E0 11 (sI x11)) 10 (sI x10)) 9 (sI x9)) 8 (sI x8)) 3 (sV x3)) 0 (sS x0a x0n x0c)) env ∧ Sub V0 pv ∧ (F157_j4 x0a x0n x0c x3 x8 x9 x10 x11 hp  K)) ?_ ?_
  ·refine AWP.rgn (F157_r11 (upd (upd (upd (upd E0 9 (sI 0)) 8 (sI x1)) 3 (sV x3)) 0 (sS x0a x0n x0c)) (wr (x2 - x1)) hp _) ?_ (Ru 10 (Ru 0 (Ru 3 (Ru 8 (Ru 9 Rn))))) (Sc rfl (Sc rfl (Sc rfl (Sc rfl (Sc rfl Sn))))) Sn
   refine ⟨h.1, ?_⟩
   replace h := h.2
   exact ⟨x0a, x0n, x0c, x3, x1, 0, (wr (x2 - x1)), (wr (Int.tdiv (wr ((wr (x2 - x1)) - 1)) 2)), (Sc rfl (Sc rfl (Sc rfl (Sc rfl (Sc rfl (Sc rfl Sn)))))), Sn, h⟩
  ·rintro env pv hp ⟨x0a, x0n, x0c, x3, x8, x9, x10, x11, he, hv, h⟩
   refine AWP.sub (env' := (upd (upd (upd (upd (upd (upd E0 11 (sI x11)) 10 (sI x10)) 9 (sI x9)) 8 (sI x8)) 3 (sV x3)) 0 (sS x0a x0n x0c))) (pv' := V0) ?_ (Ru 0 (Ru 3 (Ru 8 (Ru 9 (Ru 10 (Ru 11 Rn)))))) he hv (HSub.refl _)
   clear he hv
   unfold F157_j4 at h
   refine AWP.block ?_
   refine AWP.loop (σ := Int) (fun I s hp => F157_l5 x0a x0n x0c x3 x8 x9 x10  K I s hp) (fun s => (upd (upd (upd (upd (upd (upd E0 11 (sI s)) 10 (sI x10)) 9 (sI x9)) 8 (sI x8)) 3 (sV x3)) 0 (sS x0a x0n x0c))) (fun s => V0) x11 h (fun s => (Ru 0 (Ru 3 (Ru 8 (Ru 9 (Ru 10 (Ru 11 Rn))))))) (Sc rfl (Sc rfl (Sc rfl (Sc rfl (Sc rfl (Sc rfl Sn)))))) Sn ?_
   intro I5 s hp h
   obtain ⟨x11, hs⟩ : ∃ x, x = s := ⟨s, rfl⟩
   subst hs
   replace h : F157_l5 x0a x0n x0c x3 x8 x9 x10  K I5 x11 hp := h
   unfold F157_l5 at h
   refine AWP.seq' ?_
   refine AWP.seq' ?_
   refine AWP.rgn (F157_r8 (upd (upd (upd (upd (upd E0 10 (sI x10)) 9 (sI x9)) 8 (sI x8)) 3 (sV x3)) 0 (sS x0a x0n x0c)) x11 hp _) ?_ (Ru 11 (Ru 0 (Ru 3 (Ru 8 (Ru 9 (Ru 10 Rn)))))) (Sc rfl (Sc rfl (Sc rfl (Sc rfl (Sc rfl (Sc rfl Sn)))))) Sn
   refine AWP.cond (t := (decide (x11 ≥ 0))) rfl (fun e => ?_) (fun e => ?_)
   ·replace h := ite2_t h e
    refine AWP.skip ?_
    refine AWP.seq' ?_
    refine AWP.block ?_
    refine AWP.rgn (F157_r9 (upd E0 9 (sI x9)) x0a x0n x0c x3 x8 x10 x11 hp _) ?_ (Ru 0 (Ru 3 (Ru 8 (Ru 10 (Ru 11 (Ru 9 Rn)))))) (Sc rfl (Sc rfl (Sc rfl (Sc rfl (Sc rfl (Sc rfl Sn)))))) Sn
    refine mC h fun u_15 h_16 h => ?_
    refine AWP.rgn (F157_r10 (upd (upd (upd (upd (upd E0 10 (sI x10)) 9 (sI x9)) 8 (sI x8)) 3 (sV x3)) 0 (sS x0a x0n x0c)) x11 h_16 _) ?_ (Ru 11 (Ru 0 (Ru 3 (Ru 8 (Ru 9 (Ru 10 Rn)))))) (Sc rfl (Sc rfl (Sc rfl (Sc rfl (Sc rfl (Sc rfl Sn)))))) Sn
    exact ⟨(wr (x11 - 1)), (Sc rfl (Sc rfl (Sc rfl (Sc rfl (Sc rfl (Sc rfl Sn)))))), Sn, h⟩
   ·replace h := ite2_f h e
    refine AWP.exit ?_
    exact ⟨x0a, x0n, x0c, x3, x8, x9, x10, (Sc rfl (Sc rfl (Sc rfl (Sc rfl (Sc rfl Sn))))), Sn, h⟩
 ·rintro env pv hp ⟨x0a, x0n, x0c, x3, x8, x9, x10, he, hv, h⟩
  refine AWP.sub (env' := (upd (upd (upd (upd (upd E0 10 (sI x10)) 9 (sI x9)) 8 (sI x8)) 3 (sV x3)) 0 (sS x0a x0n x0c))) (pv' := V0) ?_ (Ru 0 (Ru 3 (Ru 8 (Ru 9 (Ru 10 Rn))))) he hv (HSub.refl _)
  clear he hv
  unfold F157_j1 at h
  refine AWP.seq (fun env pv hp => ∃ (x0a : Option Addr) (x0n : Nat) (x0c : Nat) (x3 : Value) (x8 : Int) (x9 : Int) (x12 : Int), Sub (upd (upd (upd (upd (upd E0 12 (sI x12)) 9 (sI x9)) 8 (sI x8)) 3 (sV x3)) 0 (sS x0a x0n x0c)) env ∧ Sub V0 pv ∧ (F157_j2 x0a x0n x0c x3 x8 x9 x12 hp  K)) ?_ ?_
  ·refine AWP.rgn (F157_r7 (upd (upd (upd (upd E0 9 (sI x9)) 8 (sI x8)) 3 (sV x3)) 0 (sS x0a x0n x0c)) x10 hp _) ?_ (Ru 10 (Ru 0 (Ru 3 (Ru 8 (Ru 9 Rn))))) (Sc rfl (Sc rfl (Sc rfl (Sc rfl (Sc rfl Sn))))) Sn
   exact ⟨x0a, x0n, x0c, x3, x8, x9, (wr (x10 - 1)), (Sc rfl (Sc rfl (Sc rfl (Sc rfl (Sc rfl Sn))))), Sn, h⟩
  ·rintro env pv hp ⟨x0a, x0n, x0c, x3, x8, x9, x12, he, hv, h⟩
   refine AWP.sub (env' := (upd (upd (upd (upd (upd E0 12 (sI x12)) 9 (sI x9)) 8 (sI x8)) 3 (sV x3)) 0 (sS x0a x0n x0c))) (pv' := V0) ?_ (Ru 0 (Ru 3 (Ru 8 (Ru 9 (Ru 12 Rn))))) he hv (HSub.refl _)
   clear he hv
   unfold F157_j2 at h
   refine AWP.block ?_
   refine AWP.loop (σ := Int) (fun I s hp => F157_l3 x0a x0n x0c x3 x8 x9  K I s hp) (fun s => (upd (upd (upd (upd (upd E0 12 (sI s)) 9 (sI x9)) 8 (sI x8)) 3 (sV x3)) 0 (sS x0a x0n x0c))) (fun s => V0) x12 h (fun s => (Ru 0 (Ru 3 (Ru 8 (Ru 9 (Ru 12 Rn)))))) (Sc rfl (Sc rfl (Sc rfl (Sc rfl (Sc rfl Sn))))) Sn ?_
   intro I3 s hp h
   obtain ⟨x12, hs⟩ : ∃ x, x = s := ⟨s, rfl⟩
   subst hs
   replace h : F157_l3 x0a x0n x0c x3 x8 x9  K I3 x12 hp := h
   unfold F157_l3 at h
   refine AWP.seq' ?_
   refine AWP.seq' ?_
   refine AWP.rgn (F157_r3 (upd (upd (upd (upd E0 9 (sI x9)) 8 (sI x8)) 3 (sV x3)) 0 (sS x0a x0n x0c)) x12 hp _) ?_ (Ru 12 (Ru 0 (Ru 3 (Ru 8 (Ru 9 Rn))))) (Sc rfl (Sc rfl (Sc rfl (Sc rfl (Sc rfl Sn))))) Sn
   refine AWP.cond (t := (decide (x12 ≥ 0))) rfl (fun e => ?_) (fun e => ?_)
   ·replace h := ite2_t h e
    refine AWP.skip ?_
    refine AWP.seq' ?_
    refine AWP.block ?_
    refine AWP.seq' ?_
    refine AWP.rgnD (by kernel_rfl) (by kernel_rfl) (F157_r4 (upd (upd E0 9 (sI x9)) 3 (sV x3)) x0a x0n x0c x8 x12 hp _) ?_ (Ru 0 (Ru 8 (Ru 12 (Ru 3 (Ru 9 Rn))))) (Sc rfl (Sc rfl (Sc rfl (Sc rfl (Sc rfl Sn))))) Sn
    refine ⟨h.1, h.2.1, mN h.2.2 (fun b_1 o_2 h => mL h (fun l_3 h => ⟨h.1, h.2.1, mN h.2.2 (fun b_4 o_5 h => mL h (fun l_6 h => ⟨h.1, h.2.1, mN h.2.2 (fun b_7 o_8 h => ⟨h.1, mW h.2 (fun h_9 h => ⟨h.1, h.2.1, mN h.2.2 (fun b_10 o_11 h => ⟨h.1, mW h.2 fun h_12 h => ?_⟩)⟩)⟩)⟩))⟩))⟩
    refine AWP.rgn (F157_r5 E0 x0a x0n x0c x3 x8 x9 x12 h_12 _) ?_ (Ru 0 (Ru 3 (Ru 8 (Ru 9 (Ru 12 Rn))))) (Sc rfl (Sc rfl (Sc rfl (Sc rfl (Sc rfl Sn))))) Sn
    refine mC h fun u_13 h_14 h => ?_
    refine AWP.rgn (F157_r6 (upd (upd (upd (upd E0 9 (sI x9)) 8 (sI x8)) 3 (sV x3)) 0 (sS x0a x0n x0c)) x12 h_14 _) ?_ (Ru 12 (Ru 0 (Ru 3 (Ru 8 (Ru 9 Rn))))) (Sc rfl (Sc rfl (Sc rfl (Sc rfl (Sc rfl Sn))))) Sn
    exact ⟨(wr (x12 - 1)), (Sc rfl (Sc rfl (Sc rfl (Sc rfl (Sc rfl Sn))))), Sn, h⟩
   ·replace h := ite2_f h e
    refine AWP.exit ?_
    exact h
end
-- 160 slices.reverseRangeCmpFunc[interpreter/api.T4]
section
variable (e : Env) (x0a : Option Addr) (x0n x0c : Nat) (x1 x2 x8 x9 : Int) (hp : HP) (K : Env → PV → HP → Prop)
abbrev R160 (p : List Nat) (n : Nat) := RW Try.prog 34 [] (opsAt Try.f160 p) (List.range n)
theorem F160_r0 : R160 [0] 2 (upd e 1 (sI x1)) V0 hp K =
    (K (upd (upd (upd e 1 (sI x1)) 10 (sI x1)) 8 (sI x1)) V0 hp) := by kernel_rfl
theorem F160_r1 : R160 [1, 1, 0, 0, 0, 0] 3 (upd (upd e 9 (sI x9)) 8 (sI x8)) V0 hp K =
    (K (upd (upd (upd (upd (upd e 9 (sI x9)) 8 (sI x8)) 13 (sI x8)) 14 (sI x9)) 15 (sB (decide (x8 < x9)))) V0 hp) := by kernel_rfl
theorem F160_r2 : R160 [1, 1, 0, 0, 1, 0, 0] 16 (upd (upd (upd e 9 (sI x9)) 8 (sI x8)) 0 (sS x0a x0n x0c)) V0 hp K =
    ((0 ≤ x9) ∧ (x9 < x0n) ∧ (ptrN x0a fun b1 o2 => (ldL (HP.cellN hp b1 (o2 + Int.toNat x9 * 5) 5) fun l3 => ((0 ≤ x8) ∧ (x8 < x0n) ∧ (ptrN x0a fun b4 o5 => (ldL (HP.cellN hp b4 (o5 + Int.toNat x8 * 5) 5) fun l6 => ((0 ≤ x8) ∧ (x8 < x0n) ∧ (ptrN x0a fun b7 o8 => ((List.length l3 = 5) ∧ (HP.stN hp b7 (o8 + Int.toNat x8 * 5) l3 fun h9 => ((0 ≤ x9) ∧ (x9 < x0n) ∧ (ptrN x0a fun b10 o11 => ((List.length l6 = 5) ∧ (HP.stN h9 b10 (o11 + Int.toNat x9 * 5) l6 fun h12 => (K (upd (upd (upd (upd (upd (upd (upd (upd (upd (upd (upd (upd (upd (upd (upd (upd (upd e 9 (sI x9)) 8 (sI x8)) 0 (sS x0a x0n x0c)) 16 (sS x0a x0n x0c)) 17 (sI x8)) 18 (sS x0a x0n x0c)) 19 (sI x9)) 20 (sS x0a x0n x0c)) 21 (sI x9)) 22 (sQ b1 (o2 + Int.toNat x9 * 5))) 23 (sA l3)) 24 (sS x0a x0n x0c)) 25 (sI x8)) 26 (sQ b4 (o5 + Int.toNat x8 * 5))) 27 (sA l6)) 28 (sQ b7 (o8 + Int.toNat x8 * 5))) 29 (sQ b10 (o11 + Int.toNat x9 * 5))) V0 h12))))))))))))))) := by kernel_rfl
theorem F160_r3 : R160 [1, 1, 0, 0, 1, 0, 1, 0] 3 (upd e 8 (sI x8)) V0 hp K =
    (K (upd (upd (upd (upd e 8 (sI x8)) 30 (sI x8)) 31 (sI ((wr (x8 + 1))))) 8 (sI ((wr (x8 + 1))))) V0 hp) := by kernel_rfl
theorem F160_r4 : R160 [1, 1, 0, 0, 1, 0, 1, 1] 3 (upd e 9 (sI x9)) V0 hp K =
    (K (upd (upd (upd (upd e 9 (sI x9)) 32 (sI x9)) 33 (sI ((wr (x9 - 1))))) 9 (sI ((wr (x9 - 1))))) V0 hp) := by kernel_rfl
def F160_l2 (x0a : Option Addr) (x0n : Nat) (x0c : Nat) (K : Value → HP → Prop) (I2 : (Int × Int) → HP → Prop) (x8 : Int) (x9 : Int) (hp : HP) : Prop :=
  (ite2 (decide (x8 < x9)) ((0 ≤ x9) ∧ (x9 < x0n) ∧ (ptrN x0a fun b_1 o_2 => (ldL (HP.cellN hp b_1 (o_2 + Int.toNat x9 * 5) 5) fun l_3 => ((0 ≤ x8) ∧ (x8 < x0n) ∧ (ptrN x0a fun b_4 o_5 => (ldL (HP.cellN hp b_4 (o_5 + Int.toNat x8 * 5) 5) fun l_6 => ((0 ≤ x8) ∧ (x8 < x0n) ∧ (ptrN x0a fun b_7 o_8 => ((List.length l_3 = 5) ∧ (HP.stN hp b_7 (o_8 + Int.toNat x8 * 5) l_3 fun h_9 => ((0 ≤ x9) ∧ (x9 < x0n) ∧ (ptrN x0a fun b_10 o_11 => ((List.length l_6 = 5) ∧ (HP.stN h_9 b_10 (o_11 + Int.toNat x9 * 5) l_6 fun h_12 => (I2 ((IntKind.wrap .i64 (x8 + 1)), (IntKind.wrap .i64 (x9 - 1))) h_12))))))))))))))) (K (.tuple ⟨[]⟩) hp))
def F160_j1 (x0a : Option Addr) (x0n : Nat) (x0c : Nat) (x8 : Int) (x9 : Int) (hp : HP) (K : Value → HP → Prop) : Prop :=
  (LoopP (σ := Int × Int) (fun I s hp => F160_l2 x0a x0n x0c  K I s.1 s.2 hp) (x8, x9) hp)
theorem F160_r5 : R160 [1, 0] 3 (upd e 2 (sI x2)) V0 hp K =
    (K (upd (upd (upd (upd e 2 (sI x2)) 11 (sI x2)) 12 (sI ((wr (x2 - 1))))) 9 (sI ((wr (x2 - 1))))) V0 hp) := by kernel_rfl
def F160 (x0a : Option Addr) (x0n : Nat) (x0c : Nat) (x1 : Int) (x2 : Int) (x3 : Value) (hp : HP) (K : Value → HP → Prop) : Prop :=
  (F160_j1 x0a x0n x0c x1 (IntKind.wrap .i64 (x2 - 1)) hp  K)
noncomputable def F160_code : Code := (.seq (.region 0 (opsAt Try.f160 [0]) false) (.seq (.region 1 (opsAt Try.f160 [1, 0]) false) (.block 0 (.loop (.seq (.seq (.region 2 (opsAt Try.f160 [1, 1, 0, 0, 0, 0]) false) (.cond (.tmp 15) .skip (.exit 0))) (.block 1 (.seq (.region 3 (opsAt Try.f160 [1, 1, 0, 0, 1, 0, 0]) true) (.seq (.region 4 (opsAt Try.f160 [1, 1, 0, 0, 1, 0, 1, 0]) false) (.region 5 (opsAt Try.f160 [1, 1, 0, 0, 1, 0, 1, 1]) false)))))))))
theorem F160_body : Try.f160.body = some F160_code := by kernel_rfl
theorem F160_ok (x0a : Option Addr) (x0n : Nat) (x0c : Nat) (x1 : Int) (x2 : Int) (x3 : Value) (hp : HP) (K : Value → HP → Prop) (h : F160 x0a x0n x0c x1 x2 x3 hp K) : CF Try.prog 160 [(.slice x0a x0n x0c), (.int .i64 x1), (.int .i64 x2), x3] hp K := by
 refine .inl ⟨by kernel_rfl, AC.intro (N := 34) Try.func160 F160_body rfl (Nat.le_of_ble_eq_true rfl) ?_⟩
 unfold F160 at h
 unfold F160_code
 refine AWP.seq' ?_
 refine AWP.rgn (F160_r0 (upd (upd E0 2 (sI x2)) 0 (sS x0a x0n x0c)) x1 hp _) ?_ (Ru 1 (Ru 0 (Ru 2 Rn))) (Sc rfl (Sc rfl (Sc rfl Sn))) Sn
 refine AWP.seq (fun env pv hp => ∃ (x0a : Option Addr) (x0n : Nat) (x0c : Nat) (x8 : Int) (x9 : Int), Sub (upd (upd (upd E0 9 (sI x9)) 8 (sI x8)) 0 (sS x0a x0n x0c)) env ∧ Sub V0 pv ∧ (F160_j1 x0a x0n x0c x8 x9 hp  K)) ?_ ?_
 ·refine AWP.rgn (F160_r5 (upd (upd E0 8 (sI x1)) 0 (sS x0a x0n x0c)) x2 hp _) ?_ (Ru 2 (Ru 0 (Ru 8 Rn))) (Sc rfl (Sc rfl (Sc rfl Sn))) Sn
  exact ⟨x0a, x0n, x0c, x1, (wr (x2 - 1)), (Sc rfl (Sc rfl (Sc rfl Sn))), Sn, h⟩
 ·rintro env pv hp ⟨x0a, x0n, x0c, x8, x9, he, hv, h⟩
  refine AWP.sub (env' := (upd (upd (upd E0 9 (sI x9)) 8 (sI x8)) 0 (sS x0a x0n x0c))) (pv' := V0) ?_ (Ru 0 (Ru 8 (Ru 9 Rn))) he hv (HSub.refl _)
  clear he hv
  unfold F160_j1 at h
  refine AWP.block ?_
  refine AWP.loop (σ := Int × Int) (fun I s hp => F160_l2 x0a x0n x0c  K I s.1 s.2 hp) (fun s => (upd (upd (upd E0 9 (sI (s.2))) 8 (sI (s.1))) 0 (sS x0a x0n x0c))) (fun s => V0) (x8, x9) h (fun s => (Ru 0 (Ru 8 (Ru 9 Rn)))) (Sc rfl (Sc rfl (Sc rfl Sn))) Sn ?_
  intro I2 s hp h
  obtain ⟨x8, x9⟩ := s
  replace h : F160_l2 x0a x0n x0c  K I2 x8 x9 hp := h
  unfold F160_l2 at h
  refine AWP.seq' ?_
  refine AWP.seq' ?_
  refine AWP.rgn (F160_r1 (upd E0 0 (sS x0a x0n x0c)) x8 x9 hp _) ?_ (Ru 8 (Ru 9 (Ru 0 Rn))) (Sc rfl (Sc rfl (Sc rfl Sn))) Sn
  refine AWP.cond (t := (decide (x8 < x9))) rfl (fun e => ?_) (fun e => ?_)
  ·replace h := ite2_t h e
   refine AWP.skip ?_
   refine AWP.block ?_
   refine AWP.seq' ?_
   refine AWP.rgnD (by kernel_rfl) (by kernel_rfl) (F160_r2 E0 x0a x0n x0c x8 x9 hp _) ?_ (Ru 0 (Ru 8 (Ru 9 Rn))) (Sc rfl (Sc rfl (Sc rfl Sn))) Sn
   refine ⟨h.1, h.2.1, mN h.2.2 (fun b_1 o_2 h => mL h (fun l_3 h => ⟨h.1, h.2.1, mN h.2.2 (fun b_4 o_5 h => mL h (fun l_6 h => ⟨h.1, h.2.1, mN h.2.2 (fun b_7 o_8 h => ⟨h.1, mW h.2 (fun h_9 h => ⟨h.1, h.2.1, mN h.2.2 (fun b_10 o_11 h => ⟨h.1, mW h.2 fun h_12 h => ?_⟩)⟩)⟩)⟩))⟩))⟩
   refine AWP.seq' ?_
   refine AWP.rgn (F160_r3 (upd (upd E0 9 (sI x9)) 0 (sS x0a x0n x0c)) x8 h_12 _) ?_ (Ru 8 (Ru 0 (Ru 9 Rn))) (Sc rfl (Sc rfl (Sc rfl Sn))) Sn
   refine AWP.rgn (F160_r4 (upd (upd E0 8 (sI ((wr (x8 + 1))))) 0 (sS x0a x0n x0c)) x9 h_12 _) ?_ (Ru 9 (Ru 0 (Ru 8 Rn))) (Sc rfl (Sc rfl (Sc rfl Sn))) Sn
   exact ⟨((wr (x8 + 1)), (wr (x9 - 1))), (Sc rfl (Sc rfl (Sc rfl Sn))), Sn, h⟩
  ·replace h := ite2_f h e
   refine AWP.exit ?_
   exact h
end
-- 161 slices.partialInsertionSortCmpFunc[interpreter/api.T4]
section
variable (e : Env) (x0a : Option Addr) (x0n x0c : Nat) (x1 x2 : Int) (x3 : Value) (x9 x10 x11 x12 : Int) (hp : HP) (K : Env → PV → HP → Prop)
abbrev R161 (p : List Nat) (n : Nat) := RW Try.prog 141 [] (opsAt Try.f161 p) (List.range n)
theorem F161_r0 : R161 [0] 1 e V0 hp K =
    (K (upd e 8 (sB false)) V0 hp) := by kernel_rfl
theorem F161_r1 : R161 [1, 0] 3 (upd e 1 (sI x1)) V0 hp K =
    (K (upd (upd (upd (upd e 1 (sI x1)) 13 (sI x1)) 14 (sI ((wr (x1 + 1))))) 9 (sI ((wr (x1 + 1))))) V0 hp) := by kernel_rfl
theorem F161_r2 : R161 [1, 1, 0, 1, 0, 0, 1, 1] 3 (upd e 10 (sI x10)) V0 hp K =
    (K (upd (upd (upd (upd e 10 (sI x10)) 17 (sI x10)) 18 (sI ((wr (x10 + 1))))) 10 (sI ((wr (x10 + 1))))) V0 hp) := by kernel_rfl
def F161_j4 (x0a : Option Addr) (x0n : Nat) (x0c : Nat) (x1 : Int) (x2 : Int) (x3 : Value) (x9 : Int) (x10 : Int) (hp : HP) (I2 : (Int × Int) → HP → Prop) (K : Value → HP → Prop) : Prop :=
  (I2 (x9, (IntKind.wrap .i64 (x10 + 1))) hp)
theorem F161_r3 : R161 [1, 1, 0, 1, 0, 0, 1, 0, 0, 1, 0, 0] 3 (upd (upd e 9 (sI x9)) 2 (sI x2)) V0 hp K =
    (K (upd (upd (upd (upd (upd e 9 (sI x9)) 2 (sI x2)) 39 (sI x9)) 40 (sI x2)) 41 (sB ((x9 == x2)))) V0 hp) := by kernel_rfl
theorem F161_r4 : R161 [1, 1, 0, 1, 0, 0, 1, 0, 0, 1, 0, 1, 0, 0] 1 e V0 hp K =
    (K (upd e 8 (sB true)) V0 hp) := by kernel_rfl
theorem F161_r5 : R161 [1, 1, 0, 1, 0, 0, 1, 0, 0, 1, 1, 0, 0] 4 (upd (upd e 2 (sI x2)) 1 (sI x1)) V0 hp K =
    (K (upd (upd (upd (upd (upd (upd e 2 (sI x2)) 1 (sI x1)) 42 (sI x2)) 43 (sI x1)) 44 (sI ((wr (x2 - x1))))) 45 (sB ((decide (((wr (x2 - x1)) : Int) < 50))))) V0 hp) := by kernel_rfl
theorem F161_r6 : R161 [1, 1, 0, 1, 0, 0, 1, 0, 0, 1, 1, 0, 1, 0, 0] 1 e V0 hp K =
    (K (upd e 8 (sB false)) V0 hp) := by kernel_rfl
theorem F161_r7 : R161 [1, 1, 0, 1, 0, 0, 1, 0, 0, 1, 1, 1, 0] 18 (upd (upd e 9 (sI x9)) 0 (sS x0a x0n x0c)) V0 hp K =
    ((0 ≤ ((wr (x9 - 1)) : Int)) ∧ (((wr (x9 - 1)) : Int) < x0n) ∧ (ptrN x0a fun b1 o2 => (ldL (HP.cellN hp b1 (o2 + Int.toNat (wr (x9 - 1)) * 5) 5) fun l3 => ((0 ≤ x9) ∧ (x9 < x0n) ∧ (ptrN x0a fun b4 o5 => (ldL (HP.cellN hp b4 (o5 + Int.toNat x9 * 5) 5) fun l6 => ((0 ≤ x9) ∧ (x9 < x0n) ∧ (ptrN x0a fun b7 o8 => ((List.length l3 = 5) ∧ (HP.stN hp b7 (o8 + Int.toNat x9 * 5) l3 fun h9 => ((0 ≤ ((wr (x9 - 1)) : Int)) ∧ (((wr (x9 - 1)) : Int) < x0n) ∧ (ptrN x0a fun b10 o11 => ((List.length l6 = 5) ∧ (HP.stN h9 b10 (o11 + Int.toNat (wr (x9 - 1)) * 5) l6 fun h12 => (K (upd (upd (upd (upd (upd (upd (upd (upd (upd (upd (upd (upd (upd (upd (upd (upd (upd (upd e 9 (sI x9)) 0 (sS x0a x0n x0c)) 46 (sS x0a x0n x0c)) 47 (sI x9)) 48 (sS x0a x0n x0c)) 49 (sI x9)) 50 (sI ((wr (x9 - 1))))) 51 (sS x0a x0n x0c)) 52 (sI x9)) 53 (sI ((wr (x9 - 1))))) 54 (sV (ptr b1 (o2 + Int.toNat (wr (x9 - 1)) * 5)))) 55 (sA l3)) 56 (sS x0a x0n x0c)) 57 (sI x9)) 58 (sQ b4 (o5 + Int.toNat x9 * 5))) 59 (sA l6)) 60 (sQ b7 (o8 + Int.toNat x9 * 5))) 61 (sV (ptr b10 (o11 + Int.toNat (wr (x9 - 1)) * 5)))) V0 h12))))))))))))))) := by kernel_rfl
theorem F161_r8 : R161 [1, 1, 0, 1, 0, 0, 1, 0, 0, 1, 1, 1, 1, 1, 0] 4 (upd (upd e 9 (sI x9)) 2 (sI x2)) V0 hp K =
    (K (upd (upd (upd (upd (upd (upd e 9 (sI x9)) 2 (sI x2)) 101 (sI x2)) 102 (sI x9)) 103 (sI ((wr (x2 - x9))))) 104 (sB ((decide (((wr (x2 - x9)) : Int) ≥ 2))))) V0 hp) := by kernel_rfl
theorem F161_r9 : R161 [1, 1, 0, 1, 0, 0, 1, 0, 0, 1, 1, 1, 1, 1, 1, 0, 1, 0, 0, 0, 0] 3 (upd (upd e 12 (sI x12)) 2 (sI x2)) V0 hp K =
    (K (upd (upd (upd (upd (upd e 12 (sI x12)) 2 (sI x2)) 107 (sI x12)) 108 (sI x2)) 109 (sB (decide (x12 < x2)))) V0 hp) := by kernel_rfl
theorem F161_r10 : R161 [1, 1, 0, 1, 0, 0, 1, 0, 0, 1, 1, 1, 1, 1, 1, 0, 1, 0, 0, 1, 0, 0, 0, 0] 13 (upd (upd (upd e 12 (sI x12)) 3 (sV x3)) 0 (sS x0a x0n x0c)) V0 hp K =
    ((0 ≤ x12) ∧ (x12 < x0n) ∧ (ptrN x0a fun b1 o2 => (ldL (HP.cellN hp b1 (o2 + Int.toNat x12 * 5) 5) fun l3 => ((0 ≤ ((wr (x12 - 1)) : Int)) ∧ (((wr (x12 - 1)) : Int) < x0n) ∧ (ptrN x0a fun b4 o5 => (ldL (HP.cellN hp b4 (o5 + Int.toNat (wr (x12 - 1)) * 5) 5) fun l6 => (fnV x3 fun f7 ga8 gb9 => (CF Try.prog f7 (ga8 ++ [(Value.agg ⟨l3⟩), (.agg ⟨l6⟩)] ++ gb9) hp fun u10 h11 => (intV u10 .i64 fun i12 => (K (upd (upd (upd (upd (upd (upd (upd (upd (upd (upd (upd (upd (upd (upd (upd (upd e 12 (sI x12)) 3 (sV x3)) 0 (sS x0a x0n x0c)) 112 (sV x3)) 113 (sS x0a x0n x0c)) 114 (sI x12)) 115 (sQ b1 (o2 + Int.toNat x12 * 5))) 116 (sA l3)) 117 (sS x0a x0n x0c)) 118 (sI x12)) 119 (sI ((wr (x12 - 1))))) 120 (sV (ptr b4 (o5 + Int.toNat (wr (x12 - 1)) * 5)))) 121 (sA l6)) 122 (sI i12)) 123 (sB (decide (i12 < 0)))) 124 (sB ((!(decide (i12 < 0)))))) V0 h11)))))))))) := by kernel_rfl
theorem F161_r11 : R161 [1, 1, 0, 1, 0, 0, 1, 0, 0, 1, 1, 1, 1, 1, 1, 0, 1, 0, 0, 1, 0, 0, 1] 18 (upd (upd e 12 (sI x12)) 0 (sS x0a x0n x0c)) V0 hp K =
    ((0 ≤ ((wr (x12 - 1)) : Int)) ∧ (((wr (x12 - 1)) : Int) < x0n) ∧ (ptrN x0a fun b1 o2 => (ldL (HP.cellN hp b1 (o2 + Int.toNat (wr (x12 - 1)) * 5) 5) fun l3 => ((0 ≤ x12) ∧ (x12 < x0n) ∧ (ptrN x0a fun b4 o5 => (ldL (HP.cellN hp b4 (o5 + Int.toNat x12 * 5) 5) fun l6 => ((0 ≤ x12) ∧ (x12 < x0n) ∧ (ptrN x0a fun b7 o8 => ((List.length l3 = 5) ∧ (HP.stN hp b7 (o8 + Int.toNat x12 * 5) l3 fun h9 => ((0 ≤ ((wr (x12 - 1)) : Int)) ∧ (((wr (x12 - 1)) : Int) < x0n) ∧ (ptrN x0a fun b10 o11 => ((List.length l6 = 5) ∧ (HP.stN h9 b10 (o11 + Int.toNat (wr (x12 - 1)) * 5) l6 fun h12 => (K (upd (upd (upd (upd (upd (upd (upd (upd (upd (upd (upd (upd (upd (upd (upd (upd (upd (upd e 12 (sI x12)) 0 (sS x0a x0n x0c)) 125 (sS x0a x0n x0c)) 126 (sI x12)) 127 (sS x0a x0n x0c)) 128 (sI x12)) 129 (sI ((wr (x12 - 1))))) 130 (sS x0a x0n x0c)) 131 (sI x12)) 132 (sI ((wr (x12 - 1))))) 133 (sV (ptr b1 (o2 + Int.toNat (wr (x12 - 1)) * 5)))) 134 (sA l3)) 135 (sS x0a x0n x0c)) 136 (sI x12)) 137 (sQ b4 (o5 + Int.toNat x12 * 5))) 138 (sA l6)) 139 (sQ b7 (o8 + Int.toNat x12 * 5))) 140 (sV (ptr b10 (o11 + Int.toNat (wr (x12 - 1)) * 5)))) V0 h12))))))))))))))) := by kernel_rfl
theorem F161_r12 : R161 [1, 1, 0, 1, 0, 0, 1, 0, 0, 1, 1, 1, 1, 1, 1, 0, 1, 0, 0, 1, 1] 3 (upd e 12 (sI x12)) V0 hp K =
    (K (upd (upd (upd (upd e 12 (sI x12)) 110 (sI x12)) 111 (sI ((wr (x12 + 1))))) 12 (sI ((wr (x12 + 1))))) V0 hp) := by kernel_rfl
def F161_l8 (x0a : Option Addr) (x0n : Nat) (x0c : Nat) (x1 : Int) (x2 : Int) (x3 : Value) (x9 : Int) (x10 : Int) (I2 : (Int × Int) → HP → Prop) (K : Value → HP → Prop) (I8 : (Int) → HP → Prop) (x12 : Int) (hp : HP) : Prop :=
  (ite2 (decide (x12 < x2)) ((0 ≤ x12) ∧ (x12 < x0n) ∧ (ptrN x0a fun b_13 o_14 => (ldL (HP.cellN hp b_13 (o_14 + Int.toNat x12 * 5) 5) fun l_15 => ((0 ≤ ((IntKind.wrap .i64 (x12 - 1)) : Int)) ∧ (((IntKind.wrap .i64 (x12 - 1)) : Int) < x0n) ∧ (ptrN x0a fun b_16 o_17 => (ldL (HP.cellN hp b_16 (o_17 + Int.toNat (IntKind.wrap .i64 (x12 - 1)) * 5) 5) fun l_18 => (fnV x3 fun f_19 ga_20 gb_21 => (CF Try.prog f_19 (ga_20 ++ [(Value.agg ⟨l_15⟩), (.agg ⟨l_18⟩)] ++ gb_21) hp fun u_22 h_23 => (intV u_22 .i64 fun i_24 => (ite2 (!(decide (i_24 < 0))) (F161_j4 x0a x0n x0c x1 x2 x3 x9 x10 h_23 I2 K) ((0 ≤ ((IntKind.wrap .i64 (x12 - 1)) : Int)) ∧ (((IntKind.wrap .i64 (x12 - 1)) : Int) < x0n) ∧ (ptrN x0a fun b_25 o_26 => (ldL (HP.cellN h_23 b_25 (o_26 + Int.toNat (IntKind.wrap .i64 (x12 - 1)) * 5) 5) fun l_27 => ((0 ≤ x12) ∧ (x12 < x0n) ∧ (ptrN x0a fun b_28 o_29 => (ldL (HP.cellN h_23 b_28 (o_29 + Int.toNat x12 * 5) 5) fun l_30 => ((0 ≤ x12) ∧ (x12 < x0n) ∧ (ptrN x0a fun b_31 o_32 => ((List.length l_27 = 5) ∧ (HP.stN h_23 b_31 (o_32 + Int.toNat x12 * 5) l_27 fun h_33 => ((0 ≤ ((IntKind.wrap .i64 (x12 - 1)) : Int)) ∧ (((IntKind.wrap .i64 (x12 - 1)) : Int) < x0n) ∧ (ptrN x0a fun b_34 o_35 => ((List.length l_30 = 5) ∧ (HP.stN h_33 b_34 (o_35 + Int.toNat (IntKind.wrap .i64 (x12 - 1)) * 5) l_30 fun h_36 => (I8 (IntKind.wrap .i64 (x12 + 1)) h_36))))))))))))))))))))))))) (F161_j4 x0a x0n x0c x1 x2 x3 x9 x10 hp I2 K))
def F161_j7 (x0a : Option Addr) (x0n : Nat) (x0c : Nat) (x1 : Int) (x2 : Int) (x3 : Value) (x9 : Int) (x10 : Int) (x12 : Int) (hp : HP) (I2 : (Int × Int) → HP → Prop) (K : Value → HP → Prop) : Prop :=
  (LoopP (σ := Int) (fun I s hp => F161_l8 x0a x0n x0c x1 x2 x3 x9 x10 I2 K I s hp) x12 hp)
theorem F161_r13 : R161 [1, 1, 0, 1, 0, 0, 1, 0, 0, 1, 1, 1, 1, 1, 1, 0, 0] 3 (upd e 9 (sI x9)) V0 hp K =
    (K (upd (upd (upd (upd e 9 (sI x9)) 105 (sI x9)) 106 (sI ((wr (x9 + 1))))) 12 (sI ((wr (x9 + 1))))) V0 hp) := by kernel_rfl
def F161_j6 (x0a : Option Addr) (x0n : Nat) (x0c : Nat) (x1 : Int) (x2 : Int) (x3 : Value) (x9 : Int) (x10 : Int) (hp : HP) (I2 : (Int × Int) → HP → Prop) (K : Value → HP → Prop) : Prop :=
  (ite2 (decide (((IntKind.wrap .i64 (x2 - x9)) : Int) ≥ 2)) (F161_j7 x0a x0n x0c x1 x2 x3 x9 x10 (IntKind.wrap .i64 (x9 + 1)) hp I2 K) (F161_j4 x0a x0n x0c x1 x2 x3 x9 x10 hp I2 K))
theorem F161_r14 : R161 [1, 1, 0, 1, 0, 0, 1, 0, 0, 1, 1, 1, 1, 0, 0] 4 (upd (upd e 9 (sI x9)) 1 (sI x1)) V0 hp K =
    (K (upd (upd (upd (upd (upd (upd e 9 (sI x9)) 1 (sI x1)) 62 (sI x9)) 63 (sI x1)) 64 (sI ((wr (x9 - x1))))) 65 (sB ((decide (((wr (x9 - x1)) : Int) ≥ 2))))) V0 hp) := by kernel_rfl
theorem F161_r15 : R161 [1, 1, 0, 1, 0, 0, 1, 0, 0, 1, 1, 1, 1, 0, 1, 0, 1, 0, 0, 0, 0] 2 (upd e 11 (sI x11)) V0 hp K =
    (K (upd (upd (upd e 11 (sI x11)) 68 (sI x11)) 69 (sB (decide (x11 ≥ 1)))) V0 hp) := by kernel_rfl
theorem F161_r16 : R161 [1, 1, 0, 1, 0, 0, 1, 0, 0, 1, 1, 1, 1, 0, 1, 0, 1, 0, 0, 1, 0, 0, 0, 0] 13 (upd (upd (upd e 11 (sI x11)) 3 (sV x3)) 0 (sS x0a x0n x0c)) V0 hp K =
    ((0 ≤ x11) ∧ (x11 < x0n) ∧ (ptrN x0a fun b1 o2 => (ldL (HP.cellN hp b1 (o2 + Int.toNat x11 * 5) 5) fun l3 => ((0 ≤ ((wr (x11 - 1)) : Int)) ∧ (((wr (x11 - 1)) : Int) < x0n) ∧ (ptrN x0a fun b4 o5 => (ldL (HP.cellN hp b4 (o5 + Int.toNat (wr (x11 - 1)) * 5) 5) fun l6 => (fnV x3 fun f7 ga8 gb9 => (CF Try.prog f7 (ga8 ++ [(Value.agg ⟨l3⟩), (.agg ⟨l6⟩)] ++ gb9) hp fun u10 h11 => (intV u10 .i64 fun i12 => (K (upd (upd (upd (upd (upd (upd (upd (upd (upd (upd (upd (upd (upd (upd (upd (upd e 11 (sI x11)) 3 (sV x3)) 0 (sS x0a x0n x0c)) 72 (sV x3)) 73 (sS x0a x0n x0c)) 74 (sI x11)) 75 (sQ b1 (o2 + Int.toNat x11 * 5))) 76 (sA l3)) 77 (sS x0a x0n x0c)) 78 (sI x11)) 79 (sI ((wr (x11 - 1))))) 80 (sV (ptr b4 (o5 + Int.toNat (wr (x11 - 1)) * 5)))) 81 (sA l6)) 82 (sI i12)) 83 (sB (decide (i12 < 0)))) 84 (sB ((!(decide (i12 < 0)))))) V0 h11)))))))))) := by kernel_rfl
theorem F161_r17 : R161 [1, 1, 0, 1, 0, 0, 1, 0, 0, 1, 1, 1, 1, 0, 1, 0, 1, 0, 0, 1, 0, 0, 1] 18 (upd (upd e 11 (sI x11)) 0 (sS x0a x0n x0c)) V0 hp K =
    ((0 ≤ ((wr (x11 - 1)) : Int)) ∧ (((wr (x11 - 1)) : Int) < x0n) ∧ (ptrN x0a fun b1 o2 => (ldL (HP.cellN hp b1 (o2 + Int.toNat (wr (x11 - 1)) * 5) 5) fun l3 => ((0 ≤ x11) ∧ (x11 < x0n) ∧ (ptrN x0a fun b4 o5 => (ldL (HP.cellN hp b4 (o5 + Int.toNat x11 * 5) 5) fun l6 => ((0 ≤ x11) ∧ (x11 < x0n) ∧ (ptrN x0a fun b7 o8 => ((List.length l3 = 5) ∧ (HP.stN hp b7 (o8 + Int.toNat x11 * 5) l3 fun h9 => ((0 ≤ ((wr (x11 - 1)) : Int)) ∧ (((wr (x11 - 1)) : Int) < x0n) ∧ (ptrN x0a fun b10 o11 => ((List.length l6 = 5) ∧ (HP.stN h9 b10 (o11 + Int.toNat (wr (x11 - 1)) * 5) l6 fun h12 => (K (upd (upd (upd (upd (upd (upd (upd (upd (upd (upd (upd (upd (upd (upd (upd (upd (upd (upd e 11 (sI x11)) 0 (sS x0a x0n x0c)) 85 (sS x0a x0n x0c)) 86 (sI x11)) 87 (sS x0a x0n x0c)) 88 (sI x11)) 89 (sI ((wr (x11 - 1))))) 90 (sS x0a x0n x0c)) 91 (sI x11)) 92 (sI ((wr (x11 - 1))))) 93 (sV (ptr b1 (o2 + Int.toNat (wr (x11 - 1)) * 5)))) 94 (sA l3)) 95 (sS x0a x0n x0c)) 96 (sI x11)) 97 (sQ b4 (o5 + Int.toNat x11 * 5))) 98 (sA l6)) 99 (sQ b7 (o8 + Int.toNat x11 * 5))) 100 (sV (ptr b10 (o11 + Int.toNat (wr (x11 - 1)) * 5)))) V0 h12))))))))))))))) := by kernel_rfl
theorem F161_r18 : R161 [1, 1, 0, 1, 0, 0, 1, 0, 0, 1, 1, 1, 1, 0, 1, 0, 1, 0, 0, 1, 1] 3 (upd e 11 (sI x11)) V0 hp K =
    (K (upd (upd (upd (upd e 11 (sI x11)) 70 (sI x11)) 71 (sI ((wr (x11 - 1))))) 11 (sI ((wr (x11 - 1))))) V0 hp) := by kernel_rfl
def F161_l10 (x0a : Option Addr) (x0n : Nat) (x0c : Nat) (x1 : Int) (x2 : Int) (x3 : Value) (x9 : Int) (x10 : Int) (I2 : (Int × Int) → HP → Prop) (K : Value → HP → Prop) (I10 : (Int) → HP → Prop) (x11 : Int) (hp : HP) : Prop :=
  (ite2 (decide (x11 ≥ 1)) ((0 ≤ x11) ∧ (x11 < x0n) ∧ (ptrN x0a fun b_37 o_38 => (ldL (HP.cellN hp b_37 (o_38 + Int.toNat x11 * 5) 5) fun l_39 => ((0 ≤ ((IntKind.wrap .i64 (x11 - 1)) : Int)) ∧ (((IntKind.wrap .i64 (x11 - 1)) : Int) < x0n) ∧ (ptrN x0a fun b_40 o_41 => (ldL (HP.cellN hp b_40 (o_41 + Int.toNat (IntKind.wrap .i64 (x11 - 1)) * 5) 5) fun l_42 => (fnV x3 fun f_43 ga_44 gb_45 => (CF Try.prog f_43 (ga_44 ++ [(Value.agg ⟨l_39⟩), (.agg ⟨l_42⟩)] ++ gb_45) hp fun u_46 h_47 => (intV u_46 .i64 fun i_48 => (ite2 (!(decide (i_48 < 0))) (F161_j6 x0a x0n x0c x1 x2 x3 x9 x10 h_47 I2 K) ((0 ≤ ((IntKind.wrap .i64 (x11 - 1)) : Int)) ∧ (((IntKind.wrap .i64 (x11 - 1)) : Int) < x0n) ∧ (ptrN x0a fun b_49 o_50 => (ldL (HP.cellN h_47 b_49 (o_50 + Int.toNat (IntKind.wrap .i64 (x11 - 1)) * 5) 5) fun l_51 => ((0 ≤ x11) ∧ (x11 < x0n) ∧ (ptrN x0a fun b_52 o_53 => (ldL (HP.cellN h_47 b_52 (o_53 + Int.toNat x11 * 5) 5) fun l_54 => ((0 ≤ x11) ∧ (x11 < x0n) ∧ (ptrN x0a fun b_55 o_56 => ((List.length l_51 = 5) ∧ (HP.stN h_47 b_55 (o_56 + Int.toNat x11 * 5) l_51 fun h_57 => ((0 ≤ ((IntKind.wrap .i64 (x11 - 1)) : Int)) ∧ (((IntKind.wrap .i64 (x11 - 1)) : Int) < x0n) ∧ (ptrN x0a fun b_58 o_59 => ((List.length l_54 = 5) ∧ (HP.stN h_57 b_58 (o_59 + Int.toNat (IntKind.wrap .i64 (x11 - 1)) * 5) l_54 fun h_60 => (I10 (IntKind.wrap .i64 (x11 - 1)) h_60))))))))))))))))))))))))) (F161_j6 x0a x0n x0c x1 x2 x3 x9 x10 hp I2 K))
def F161_j9 (x0a : Option Addr) (x0n : Nat) (x0c : Nat) (x1 : Int) (x2 : Int) (x3 : Value) (x9 : Int) (x10 : Int) (x11 : Int) (hp : HP) (I2 : (Int × Int) → HP → Prop) (K : Value → HP → Prop) : Prop :=
  (LoopP (σ := Int) (fun I s hp => F161_l10 x0a x0n x0c x1 x2 x3 x9 x10 I2 K I s hp) x11 hp)
theorem F161_r19 : R161 [1, 1, 0, 1, 0, 0, 1, 0, 0, 1, 1, 1, 1, 0, 1, 0, 0] 3 (upd e 9 (sI x9)) V0 hp K =
    (K (upd (upd (upd (upd e 9 (sI x9)) 66 (sI x9)) 67 (sI ((wr (x9 - 1))))) 11 (sI ((wr (x9 - 1))))) V0 hp) := by kernel_rfl
def F161_j5 (x0a : Option Addr) (x0n : Nat) (x0c : Nat) (x1 : Int) (x2 : Int) (x3 : Value) (x9 : Int) (x10 : Int) (hp : HP) (I2 : (Int × Int) → HP → Prop) (K : Value → HP → Prop) : Prop :=
  (ite2 (x9 == x2) (K (.bool true) hp) (ite2 (decide (((IntKind.wrap .i64 (x2 - x1)) : Int) < 50)) (K (.bool false) hp) ((0 ≤ ((IntKind.wrap .i64 (x9 - 1)) : Int)) ∧ (((IntKind.wrap .i64 (x9 - 1)) : Int) < x0n) ∧ (ptrN x0a fun b_1 o_2 => (ldL (HP.cellN hp b_1 (o_2 + Int.toNat (IntKind.wrap .i64 (x9 - 1)) * 5) 5) fun l_3 => ((0 ≤ x9) ∧ (x9 < x0n) ∧ (ptrN x0a fun b_4 o_5 => (ldL (HP.cellN hp b_4 (o_5 + Int.toNat x9 * 5) 5) fun l_6 => ((0 ≤ x9) ∧ (x9 < x0n) ∧ (ptrN x0a fun b_7 o_8 => ((List.length l_3 = 5) ∧ (HP.stN hp b_7 (o_8 + Int.toNat x9 * 5) l_3 fun h_9 => ((0 ≤ ((IntKind.wrap .i64 (x9 - 1)) : Int)) ∧ (((IntKind.wrap .i64 (x9 - 1)) : Int) < x0n) ∧ (ptrN x0a fun b_10 o_11 => ((List.length l_6 = 5) ∧ (HP.stN h_9 b_10 (o_11 + Int.toNat (IntKind.wrap .i64 (x9 - 1)) * 5) l_6 fun h_12 => (ite2 (decide (((IntKind.wrap .i64 (x9 - x1)) : Int) ≥ 2)) (F161_j9 x0a x0n x0c x1 x2 x3 x9 x10 (IntKind.wrap .i64 (x9 - 1)) h_12 I2 K) (F161_j6 x0a x0n x0c x1 x2 x3 x9 x10 h_12 I2 K))))))))))))))))))
theorem F161_r20 : R161 [1, 1, 0, 1, 0, 0, 1, 0, 0, 0, 0, 0, 1, 0] 3 (upd e 9 (sI x9)) V0 hp K =
    (K (upd (upd (upd (upd e 9 (sI x9)) 37 (sI x9)) 38 (sI ((wr (x9 + 1))))) 9 (sI ((wr (x9 + 1))))) V0 hp) := by kernel_rfl
def F161_j12 (x0a : Option Addr) (x0n : Nat) (x0c : Nat) (x1 : Int) (x2 : Int) (x3 : Value) (x9 : Int) (x10 : Int) (x36 : Bool) (hp : HP) (I2 : (Int × Int) → HP → Prop) (I11 : (Int) → HP → Prop) (K : Value → HP → Prop) : Prop :=
  (ite2 x36 (I11 (IntKind.wrap .i64 (x9 + 1)) hp) (F161_j5 x0a x0n x0c x1 x2 x3 x9 x10 hp I2 K))
theorem F161_r21 : R161 [1, 1, 0, 1, 0, 0, 1, 0, 0, 0, 0, 0, 0, 0] 18 (upd (upd (upd (upd e 9 (sI x9)) 3 (sV x3)) 2 (sI x2)) 0 (sS x0a x0n x0c)) V0 hp K =
    (ite2 (decide (x9 < x2)) ((0 ≤ x9) ∧ (x9 < x0n) ∧ (ptrN x0a fun b1 o2 => (ldL (HP.cellN hp b1 (o2 + Int.toNat x9 * 5) 5) fun l3 => ((0 ≤ ((wr (x9 - 1)) : Int)) ∧ (((wr (x9 - 1)) : Int) < x0n) ∧ (ptrN x0a fun b4 o5 => (ldL (HP.cellN hp b4 (o5 + Int.toNat (wr (x9 - 1)) * 5) 5) fun l6 => (fnV x3 fun f7 ga8 gb9 => (CF Try.prog f7 (ga8 ++ [(Value.agg ⟨l3⟩), (.agg ⟨l6⟩)] ++ gb9) hp fun u10 h11 => (intV u10 .i64 fun i12 => (K (upd (upd (upd (upd (upd (upd (upd (upd (upd (upd (upd (upd (upd (upd (upd (upd (upd (upd (upd (upd (upd (upd e 9 (sI x9)) 3 (sV x3)) 2 (sI x2)) 0 (sS x0a x0n x0c)) 19 (sI x9)) 20 (sI x2)) 21 (sB (decide (x9 < x2)))) 22 (sB true)) 23 (sV x3)) 24 (sS x0a x0n x0c)) 25 (sI x9)) 26 (sQ b1 (o2 + Int.toNat x9 * 5))) 27 (sA l3)) 28 (sS x0a x0n x0c)) 29 (sI x9)) 30 (sI ((wr (x9 - 1))))) 31 (sV (ptr b4 (o5 + Int.toNat (wr (x9 - 1)) * 5)))) 32 (sA l6)) 33 (sI i12)) 34 (sB (decide (i12 < 0)))) 35 (sB ((!(decide (i12 < 0)))))) 36 (sB ((!(decide (i12 < 0)))))) V0 h11)))))))))) (K (upd (upd (upd (upd (upd (upd (upd (upd (upd (upd (upd (upd (upd (upd (upd (upd (upd (upd (upd (upd (upd (upd e 9 (sI x9)) 3 (sV x3)) 2 (sI x2)) 0 (sS x0a x0n x0c)) 19 (sI x9)) 20 (sI x2)) 21 (sB (decide (x9 < x2)))) 22 (sB false)) 23 sU) 24 sU) 25 sU) 26 sU) 27 sU) 28 sU) 29 sU) 30 sU) 31 sU) 32 sU) 33 sU) 34 sU) 35 sU) 36 (sB false)) V0 hp)) := by kernel_rfl
def F161_l11 (x0a : Option Addr) (x0n : Nat) (x0c : Nat) (x1 : Int) (x2 : Int) (x3 : Value) (x10 : Int) (I2 : (Int × Int) → HP → Prop) (K : Value → HP → Prop) (I11 : (Int) → HP → Prop) (x9 : Int) (hp : HP) : Prop :=
  (ite2 (decide (x9 < x2)) ((0 ≤ x9) ∧ (x9 < x0n) ∧ (ptrN x0a fun b_61 o_62 => (ldL (HP.cellN hp b_61 (o_62 + Int.toNat x9 * 5) 5) fun l_63 => ((0 ≤ ((IntKind.wrap .i64 (x9 - 1)) : Int)) ∧ (((IntKind.wrap .i64 (x9 - 1)) : Int) < x0n) ∧ (ptrN x0a fun b_64 o_65 => (ldL (HP.cellN hp b_64 (o_65 + Int.toNat (IntKind.wrap .i64 (x9 - 1)) * 5) 5) fun l_66 => (fnV x3 fun f_67 ga_68 gb_69 => (CF Try.prog f_67 (ga_68 ++ [(Value.agg ⟨l_63⟩), (.agg ⟨l_66⟩)] ++ gb_69) hp fun u_70 h_71 => (intV u_70 .i64 fun i_72 => (F161_j12 x0a x0n x0c x1 x2 x3 x9 x10 (!(decide (i_72 < 0))) h_71 I2 I11 K)))))))))) (F161_j12 x0a x0n x0c x1 x2 x3 x9 x10 false hp I2 I11 K))
def F161_j3 (x0a : Option Addr) (x0n : Nat) (x0c : Nat) (x1 : Int) (x2 : Int) (x3 : Value) (x9 : Int) (x10 : Int) (hp : HP) (I2 : (Int × Int) → HP → Prop) (K : Value → HP → Prop) : Prop :=
  (LoopP (σ := Int) (fun I s hp => F161_l11 x0a x0n x0c x1 x2 x3 x10 I2 K I s hp) x9 hp)
theorem F161_r22 : R161 [1, 1, 0, 1, 0, 0, 0, 0] 2 (upd e 10 (sI x10)) V0 hp K =
    (K (upd (upd (upd e 10 (sI x10)) 15 (sI x10)) 16 (sB (decide (x10 < 5)))) V0 hp) := by kernel_rfl
theorem F161_r23 : R161 [1, 1, 1, 0] 1 e V0 hp K =
    (K (upd e 8 (sB false)) V0 hp) := by kernel_rfl
def F161_l2 (x0a : Option Addr) (x0n : Nat) (x0c : Nat) (x1 : Int) (x2 : Int) (x3 : Value) (K : Value → HP → Prop) (I2 : (Int × Int) → HP → Prop) (x9 : Int) (x10 : Int) (hp : HP) : Prop :=
  (ite2 (decide (x10 < 5)) (F161_j3 x0a x0n x0c x1 x2 x3 x9 x10 hp I2 K) (K (.bool false) hp))
def F161_j1 (x0a : Option Addr) (x0n : Nat) (x0c : Nat) (x1 : Int) (x2 : Int) (x3 : Value) (x9 : Int) (x10 : Int) (hp : HP) (K : Value → HP → Prop) : Prop :=
  (LoopP (σ := Int × Int) (fun I s hp => F161_l2 x0a x0n x0c x1 x2 x3  K I s.1 s.2 hp) (x9, x10) hp)
theorem F161_r24 : R161 [1, 1, 0, 0] 1 e V0 hp K =
    (K (upd e 10 (sI 0)) V0 hp) := by kernel_rfl
def F161 (x0a : Option Addr) (x0n : Nat) (x0c : Nat) (x1 : Int) (x2 : Int) (x3 : Value) (hp : HP) (K : Value → HP → Prop) : Prop :=
  (F161_j1 x0a x0n x0c x1 x2 x3 (IntKind.wrap .i64 (x1 + 1)) 0 hp  K)
noncomputable def F161_code : Code := (.seq (.region 0 (opsAt Try.f161 [0]) false) (.seq (.region 1 (opsAt Try.f161 [1, 0]) false) (.seq (.seq (.region 2 (opsAt Try.f161 [1, 1, 0, 0]) false) (.block 0 (.loop (.seq (.seq (.region 3 (opsAt Try.f161 [1, 1, 0, 1, 0, 0, 0, 0]) false) (.cond (.tmp 16) .skip (.exit 0))) (.seq (.block 1 (.seq (.block 2 (.loop (.seq (.seq (.region 5 (opsAt Try.f161 [1, 1, 0, 1, 0, 0, 1, 0, 0, 0, 0, 0, 0, 0]) true) (.cond (.tmp 36) .skip (.exit 2))) (.block 3 (.region 6 (opsAt Try.f161 [1, 1, 0, 1, 0, 0, 1, 0, 0, 0, 0, 0, 1, 0]) false))))) (.seq (.seq (.region 7 (opsAt Try.f161 [1, 1, 0, 1, 0, 0, 1, 0, 0, 1, 0, 0]) false) (.cond (.tmp 41) (.seq (.region 8 (opsAt Try.f161 [1, 1, 0, 1, 0, 0, 1, 0, 0, 1, 0, 1, 0, 0]) false) .ret) .skip)) (.seq (.seq (.region 9 (opsAt Try.f161 [1, 1, 0, 1, 0, 0, 1, 0, 0, 1, 1, 0, 0]) false) (.cond (.tmp 45) (.seq (.region 10 (opsAt Try.f161 [1, 1, 0, 1, 0, 0, 1, 0, 0, 1, 1, 0, 1, 0, 0]) false) .ret) .skip)) (.seq (.region 11 (opsAt Try.f161 [1, 1, 0, 1, 0, 0, 1, 0, 0, 1, 1, 1, 0]) true) (.seq (.seq (.region 12 (opsAt Try.f161 [1, 1, 0, 1, 0, 0, 1, 0, 0, 1, 1, 1, 1, 0, 0]) false) (.cond (.tmp 65) (.seq (.region 13 (opsAt Try.f161 [1, 1, 0, 1, 0, 0, 1, 0, 0, 1, 1, 1, 1, 0, 1, 0, 0]) false) (.block 4 (.loop (.seq (.seq (.region 14 (opsAt Try.f161 [1, 1, 0, 1, 0, 0, 1, 0, 0, 1, 1, 1, 1, 0, 1, 0, 1, 0, 0, 0, 0]) false) (.cond (.tmp 69) .skip (.exit 4))) (.seq (.block 5 (.seq (.seq (.region 16 (opsAt Try.f161 [1, 1, 0, 1, 0, 0, 1, 0, 0, 1, 1, 1, 1, 0, 1, 0, 1, 0, 0, 1, 0, 0, 0, 0]) true) (.cond (.tmp 84) (.exit 4) .skip)) (.region 17 (opsAt Try.f161 [1, 1, 0, 1, 0, 0, 1, 0, 0, 1, 1, 1, 1, 0, 1, 0, 1, 0, 0, 1, 0, 0, 1]) true))) (.region 15 (opsAt Try.f161 [1, 1, 0, 1, 0, 0, 1, 0, 0, 1, 1, 1, 1, 0, 1, 0, 1, 0, 0, 1, 1]) false)))))) .skip)) (.seq (.region 18 (opsAt Try.f161 [1, 1, 0, 1, 0, 0, 1, 0, 0, 1, 1, 1, 1, 1, 0]) false) (.cond (.tmp 104) (.seq (.region 19 (opsAt Try.f161 [1, 1, 0, 1, 0, 0, 1, 0, 0, 1, 1, 1, 1, 1, 1, 0, 0]) false) (.block 6 (.loop (.seq (.seq (.region 20 (opsAt Try.f161 [1, 1, 0, 1, 0, 0, 1, 0, 0, 1, 1, 1, 1, 1, 1, 0, 1, 0, 0, 0, 0]) false) (.cond (.tmp 109) .skip (.exit 6))) (.seq (.block 7 (.seq (.seq (.region 22 (opsAt Try.f161 [1, 1, 0, 1, 0, 0, 1, 0, 0, 1, 1, 1, 1, 1, 1, 0, 1, 0, 0, 1, 0, 0, 0, 0]) true) (.cond (.tmp 124) (.exit 6) .skip)) (.region 23 (opsAt Try.f161 [1, 1, 0, 1, 0, 0, 1, 0, 0, 1, 1, 1, 1, 1, 1, 0, 1, 0, 0, 1, 0, 0, 1]) true))) (.region 21 (opsAt Try.f161 [1, 1, 0, 1, 0, 0, 1, 0, 0, 1, 1, 1, 1, 1, 1, 0, 1, 0, 0, 1, 1]) false)))))) .skip)))))))) (.region 4 (opsAt Try.f161 [1, 1, 0, 1, 0, 0, 1, 1]) false)))))) (.seq (.region 24 (opsAt Try.f161 [1, 1, 1, 0]) false) .ret))))
theorem F161_body : Try.f161.body = some F161_code := by kernel_rfl
theorem F161_ok (x0a : Option Addr) (x0n : Nat) (x0c : Nat) (x1 : Int) (x2 : Int) (x3 : Value) (hp : HP) (K : Value → HP → Prop) (h : F161 x0a x0n x0c x1 x2 x3 hp K) : CF Try.prog 161 [(.slice x0a x0n x0c), (.int .i64 x1), (.int .i64 x2), x3] hp K := by
 refine .inl ⟨by kernel_rfl, AC.intro (N := 141) Try.func161 F161_body rfl (Nat.le_of_ble_eq_true rfl) ?_⟩
 unfold F161 at h
 unfold F161_code
 refine AWP.seq' ?_
 refine AWP.rgn (F161_r0 (upd (upd (upd (upd E0 3 (sV x3)) 2 (sI x2)) 1 (sI x1)) 0 (sS x0a x0n x0c))  hp _) ?_ (Ru 0 (Ru 1 (Ru 2 (Ru 3 Rn)))) (Sc rfl (Sc rfl (Sc rfl (Sc rfl Sn)))) Sn
 refine AWP.seq' ?_
 refine AWP.rgn (F161_r1 (upd (upd (upd E0 3 (sV x3)) 2 (sI x2)) 0 (sS x0a x0n x0c)) x1 hp _) ?_ (Ru 1 (Ru 0 (Ru 2 (Ru 3 Rn)))) (Sc rfl (Sc rfl (Sc rfl (Sc rfl Sn)))) Sn
 refine AWP.seq' ?_
 refine AWP.seq (fun env pv hp => ∃ (x0a : Option Addr) (x0n : Nat) (x0c : Nat) (x1 : Int) (x2 : Int) (x3 : Value) (x9 : Int) (x10 : Int), Sub (upd (upd (upd (upd (upd (upd E0 10 (sI x10)) 9 (sI x9)) 3 (sV x3)) 2 (sI x2)) 1 (sI x1)) 0 (sS x0a x0n x0c)) env ∧ Sub V0 pv ∧ (F161_j1 x0a x0n x0c x1 x2 x3 x9 x10 hp  K)) ?_ ?_
 ·refine AWP.rgn (F161_r24 (upd (upd (upd (upd (upd E0 9 (sI ((wr (x1 + 1))))) 3 (sV x3)) 2 (sI x2)) 1 (sI x1)) 0 (sS x0a x0n x0c))  hp _) ?_ (Ru 0 (Ru 1 (Ru 2 (Ru 3 (Ru 9 Rn))))) (Sc rfl (Sc rfl (Sc rfl (Sc rfl (Sc rfl Sn))))) Sn
  exact ⟨x0a, x0n, x0c, x1, x2, x3, (wr (x1 + 1)), 0, (Sc rfl (Sc rfl (Sc rfl (Sc rfl (Sc rfl (Sc rfl Sn)))))), Sn, h⟩
 ·rintro env pv hp ⟨x0a, x0n, x0c, x1, x2, x3, x9, x10, he, hv, h⟩
  refine AWP.sub (env' := (upd (upd (upd (upd (upd (upd E0 10 (sI x10)) 9 (sI x9)) 3 (sV x3)) 2 (sI x2)) 1 (sI x1)) 0 (sS x0a x0n x0c))) (pv' := V0) ?_ (Ru 0 (Ru 1 (Ru 2 (Ru 3 (Ru 9 (Ru 10 Rn)))))) he hv (HSub.refl _)
  clear he hv
  unfold F161_j1 at h
  refine AWP.block ?_
  refine AWP.loop (σ := Int × Int) (fun I s hp => F161_l2 x0a x0n x0c x1 x2 x3  K I s.1 s.2 hp) (fun s => (upd (upd (upd (upd (upd (upd E0 10 (sI (s.2))) 9 (sI (s.1))) 3 (sV x3)) 2 (sI x2)) 1 (sI x1)) 0 (sS x0a x0n x0c))) (fun s => V0) (x9, x10) h (fun s => (Ru 0 (Ru 1 (Ru 2 (Ru 3 (Ru 9 (Ru 10 Rn))))))) (Sc rfl (Sc rfl (Sc rfl (Sc rfl (Sc rfl (Sc rfl Sn)))))) Sn ?_
  intro I2 s hp h
  obtain ⟨x9, x10⟩ := s
  replace h : F161_l2 x0a x0n x0c x1 x2 x3  K I2 x9 x10 hp := h
  unfold F161_l2 at h
  refine AWP.seq (fun env pv hp => ∃ (x9 : Int) (x10 : Int), Sub (upd (upd (upd (upd (upd (upd E0 10 (sI x10)) 9 (sI x9)) 3 (sV x3)) 2 (sI x2)) 1 (sI x1)) 0 (sS x0a x0n x0c)) env ∧ Sub V0 pv ∧ (F161_j3 x0a x0n x0c x1 x2 x3 x9 x10 hp I2 K)) ?_ ?_
  ·refine AWP.seq' ?_
   refine AWP.rgn (F161_r22 (upd (upd (upd (upd (upd E0 9 (sI x9)) 3 (sV x3)) 2 (sI x2)) 1 (sI x1)) 0 (sS x0a x0n x0c)) x10 hp _) ?_ (Ru 10 (Ru 0 (Ru 1 (Ru 2 (Ru 3 (Ru 9 Rn)))))) (Sc rfl (Sc rfl (Sc rfl (Sc rfl (Sc rfl (Sc rfl Sn)))))) Sn
   refine AWP.cond (t := (decide (x10 < 5))) rfl (fun e => ?_) (fun e => ?_)
   ·replace h := ite2_t h e
    refine AWP.skip ?_
    exact ⟨x9, x10, (Sc rfl (Sc rfl (Sc rfl (Sc rfl (Sc rfl (Sc rfl Sn)))))), Sn, h⟩
   ·replace h := ite2_f h e
    refine AWP.exit ?_
    refine AWP.seq' ?_
    refine AWP.rgn (F161_r23 E0  hp _) ?_ Rn Sn Sn
    refine AWP.ret ?_
    exact h
  ·rintro env pv hp ⟨x9, x10, he, hv, h⟩
   refine AWP.sub (env' := (upd (upd (upd (upd (upd (upd E0 10 (sI x10)) 9 (sI x9)) 3 (sV x3)) 2 (sI x2)) 1 (sI x1)) 0 (sS x0a x0n x0c))) (pv' := V0) ?_ (Ru 0 (Ru 1 (Ru 2 (Ru 3 (Ru 9 (Ru 10 Rn)))))) he hv (HSub.refl _)
   clear he hv
   unfold F161_j3 at h
   refine AWP.seq (fun env pv hp => ∃ (x9 : Int) (x10 : Int), Sub (upd (upd (upd (upd (upd (upd E0 10 (sI x10)) 9 (sI x9)) 3 (sV x3)) 2 (sI x2)) 1 (sI x1)) 0 (sS x0a x0n x0c)) env ∧ Sub V0 pv ∧ (F161_j4 x0a x0n x0c x1 x2 x3 x9 x10 hp I2 K)) ?_ ?_
   ·refine AWP.block ?_
    refine AWP.seq (fun env pv hp => ∃ (x9 : Int) (x10 : Int), Sub (upd (upd (upd (upd (upd (upd E0 10 (sI x10)) 9 (sI x9)) 3 (sV x3)) 2 (sI x2)) 1 (sI x1)) 0 (sS x0a x0n x0c)) env ∧ Sub V0 pv ∧ (F161_j5 x0a x0n x0c x1 x2 x3 x9 x10 hp I2 K)) ?_ ?_
    ·refine AWP.block ?_
     refine AWP.loop (σ := Int) (fun I s hp => F161_l11 x0a x0n x0c x1 x2 x3 x10 I2 K I s hp) (fun s => (upd (upd (upd (upd (upd (upd E0 10 (sI x10)) 9 (sI s)) 3 (sV x3)) 2 (sI x2)) 1 (sI x1)) 0 (sS x0a x0n x0c))) (fun s => V0) x9 h (fun s => (Ru 0 (Ru 1 (Ru 2 (Ru 3 (Ru 9 (Ru 10 Rn))))))) (Sc rfl (Sc rfl (Sc rfl (Sc rfl (Sc rfl (Sc rfl Sn)))))) Sn ?_
     intro I11 s hp h
     obtain ⟨x9, hs⟩ : ∃ x, x = s := ⟨s, rfl⟩
     subst hs
     replace h : F161_l11 x0a x0n x0c x1 x2 x3 x10 I2 K I11 x9 hp := h
     unfold F161_l11 at h
     refine AWP.seq' ?_
     refine AWP.seq (fun env pv hp => ∃ (x9 : Int) (x36 : Bool), Sub (upd (upd (upd (upd (upd (upd (upd E0 36 (sB x36)) 10 (sI x10)) 9 (sI x9)) 3 (sV x3)) 2 (sI x2)) 1 (sI x1)) 0 (sS x0a x0n x0c)) env ∧ Sub V0 pv ∧ (F161_j12 x0a x0n x0c x1 x2 x3 x9 x10 x36 hp I2 I11 K)) ?_ ?_
     ·refine AWP.rgnD (by kernel_rfl) (by kernel_rfl) (F161_r21 (upd (upd E0 10 (sI x10)) 1 (sI x1)) x0a x0n x0c x2 x3 x9 hp _) ?_ (Ru 0 (Ru 2 (Ru 3 (Ru 9 (Ru 1 (Ru 10 Rn)))))) (Sc rfl (Sc rfl (Sc rfl (Sc rfl (Sc rfl (Sc rfl Sn)))))) Sn
      refine mt h (fun h => ?_) (fun h => ?_)
      ·refine ⟨h.1, h.2.1, mN h.2.2 (fun b_61 o_62 h => mL h (fun l_63 h => ⟨h.1, h.2.1, mN h.2.2 fun b_64 o_65 h => mL h fun l_66 h => mF h fun f_67 ga_68 gb_69 h => mC h fun u_70 h_71 h => mI h fun i_72 h => ?_⟩))⟩
       exact ⟨x9, (!(decide (i_72 < 0))), (Sc rfl (Sc rfl (Sc rfl (Sc rfl (Sc rfl (Sc rfl (Sc rfl Sn))))))), Sn, h⟩
      ·exact ⟨x9, false, (Sc rfl (Sc rfl (Sc rfl (Sc rfl (Sc rfl (Sc rfl (Sc rfl Sn))))))), Sn, h⟩
     ·rintro env pv hp ⟨x9, x36, he, hv, h⟩
      refine AWP.sub (env' := (upd (upd (upd (upd (upd (upd (upd E0 36 (sB x36)) 10 (sI x10)) 9 (sI x9)) 3 (sV x3)) 2 (sI x2)) 1 (sI x1)) 0 (sS x0a x0n x0c))) (pv' := V0) ?_ (Ru 0 (Ru 1 (Ru 2 (Ru 3 (Ru 9 (Ru 10 (Ru 36 Rn))))))) he hv (HSub.refl _)
      clear he hv
      unfold F161_j12 at h
      refine AWP.cond (t := x36) rfl (fun e => ?_) (fun e => ?_)
      ·replace h := ite2_t h e
       refine AWP.skip ?_
       refine AWP.block ?_
       refine AWP.rgn (F161_r20 (upd (upd (upd (upd (upd E0 10 (sI x10)) 3 (sV x3)) 2 (sI x2)) 1 (sI x1)) 0 (sS x0a x0n x0c)) x9 hp _) ?_ (Ru 9 (Ru 0 (Ru 1 (Ru 2 (Ru 3 (Ru 10 Rn)))))) (Sc rfl (Sc rfl (Sc rfl (Sc rfl (Sc rfl (Sc rfl Sn)))))) Sn
       exact ⟨(wr (x9 + 1)), (Sc rfl (Sc rfl (Sc rfl (Sc rfl (Sc rfl (Sc rfl Sn)))))), Sn, h⟩
      ·replace h := ite2_f h e
       refine AWP.exit ?_
       exact ⟨x9, x10, (Sc rfl (Sc rfl (Sc rfl (Sc rfl (Sc rfl (Sc rfl Sn)))))), Sn, h⟩
    ·rintro env pv hp ⟨x9, x10, he, hv, h⟩
     refine AWP.sub (env' := (upd (upd (upd (upd (upd (upd E0 10 (sI x10)) 9 (sI x9)) 3 (sV x3)) 2 (sI x2)) 1 (sI x1)) 0 (sS x0a x0n x0c))) (pv' := V0) ?_ (Ru 0 (Ru 1 (Ru 2 (Ru 3 (Ru 9 (Ru 10 Rn)))))) he hv (HSub.refl _)
     clear he hv
     unfold F161_j5 at h
     refine AWP.seq' ?_
     refine AWP.seq' ?_
     refine AWP.rgn (F161_r3 (upd (upd (upd (upd E0 10 (sI x10)) 3 (sV x3)) 1 (sI x1)) 0 (sS x0a x0n x0c)) x2 x9 hp _) ?_ (Ru 2 (Ru 9 (Ru 0 (Ru 1 (Ru 3 (Ru 10 Rn)))))) (Sc rfl (Sc rfl (Sc rfl (Sc rfl (Sc rfl (Sc rfl Sn)))))) Sn
     refine AWP.cond (t := (x9 == x2)) rfl (fun e => ?_) (fun e => ?_)
     ·replace h := ite2_t h e
      refine AWP.seq' ?_
      refine AWP.rgn (F161_r4 E0  hp _) ?_ Rn Sn Sn
      refine AWP.ret ?_
      exact h
     ·replace h := ite2_f h e
      refine AWP.skip ?_
      refine AWP.seq' ?_
      refine AWP.seq' ?_
      refine AWP.rgn (F161_r5 (upd (upd (upd (upd E0 10 (sI x10)) 9 (sI x9)) 3 (sV x3)) 0 (sS x0a x0n x0c)) x1 x2 hp _) ?_ (Ru 1 (Ru 2 (Ru 0 (Ru 3 (Ru 9 (Ru 10 Rn)))))) (Sc rfl (Sc rfl (Sc rfl (Sc rfl (Sc rfl (Sc rfl Sn)))))) Sn
      refine AWP.cond (t := (decide (((wr (x2 - x1)) : Int) < 50))) rfl (fun e => ?_) (fun e => ?_)
      ·replace h := ite2_t h e
       refine AWP.seq' ?_
       refine AWP.rgn (F161_r6 E0  hp _) ?_ Rn Sn Sn
       refine AWP.ret ?_
       exact h
      ·replace h := ite2_f h e
       refine AWP.skip ?_
       refine AWP.seq' ?_
       refine AWP.rgnD (by kernel_rfl) (by kernel_rfl) (F161_r7 (upd (upd (upd (upd E0 10 (sI x10)) 3 (sV x3)) 2 (sI x2)) 1 (sI x1)) x0a x0n x0c x9 hp _) ?_ (Ru 0 (Ru 9 (Ru 1 (Ru 2 (Ru 3 (Ru 10 Rn)))))) (Sc rfl (Sc rfl (Sc rfl (Sc rfl (Sc rfl (Sc rfl Sn)))))) Sn
       refine ⟨h.1, h.2.1, mN h.2.2 (fun b_1 o_2 h => mL h (fun l_3 h => ⟨h.1, h.2.1, mN h.2.2 (fun b_4 o_5 h => mL h (fun l_6 h => ⟨h.1, h.2.1, mN h.2.2 (fun b_7 o_8 h => ⟨h.1, mW h.2 (fun h_9 h => ⟨h.1, h.2.1, mN h.2.2 (fun b_10 o_11 h => ⟨h.1, mW h.2 fun h_12 h => ?_⟩)⟩)⟩)⟩))⟩))⟩
       refine AWP.seq (fun env pv hp => ∃ (x9 : Int) (x10 : Int), Sub (upd (upd (upd (upd (upd (upd E0 10 (sI x10)) 9 (sI x9)) 3 (sV x3)) 2 (sI x2)) 1 (sI x1)) 0 (sS x0a x0n x0c)) env ∧ Sub V0 pv ∧ (F161_j6 x0a x0n x0c x1 x2 x3 x9 x10 hp I2 K)) ?_ ?_
       ·refine AWP.seq' ?_
        refine AWP.rgn (F161_r14 (upd (upd (upd (upd E0 10 (sI x10)) 3 (sV x3)) 2 (sI x2)) 0 (sS x0a x0n x0c)) x1 x9 h_12 _) ?_ (Ru 1 (Ru 9 (Ru 0 (Ru 2 (Ru 3 (Ru 10 Rn)))))) (Sc rfl (Sc rfl (Sc rfl (Sc rfl (Sc rfl (Sc rfl Sn)))))) Sn
        refine AWP.cond (t := (decide (((wr (x9 - x1)) : Int) ≥ 2))) rfl (fun e => ?_) (fun e => ?_)
        ·replace h := ite2_t h e
         refine AWP.seq (fun env pv hp => ∃ (x9 : Int) (x10 : Int) (x11 : Int), Sub (upd (upd (upd (upd (upd (upd (upd E0 11 (sI x11)) 10 (sI x10)) 9 (sI x9)) 3 (sV x3)) 2 (sI x2)) 1 (sI x1)) 0 (sS x0a x0n x0c)) env ∧ Sub V0 pv ∧ (F161_j9 x0a x0n x0c x1 x2 x3 x9 x10 x11 hp I2 K)) ?_ ?_
         ·refine AWP.rgn (F161_r19 (upd (upd (upd (upd (upd E0 10 (sI x10)) 3 (sV x3)) 2 (sI x2)) 1 (sI x1)) 0 (sS x0a x0n x0c)) x9 h_12 _) ?_ (Ru 9 (Ru 0 (Ru 1 (Ru 2 (Ru 3 (Ru 10 Rn)))))) (Sc rfl (Sc rfl (Sc rfl (Sc rfl (Sc rfl (Sc rfl Sn)))))) Sn
          exact ⟨x9, x10, (wr (x9 - 1)), (Sc rfl (Sc rfl (Sc rfl (Sc rfl (Sc rfl (Sc rfl (Sc rfl Sn))))))), Sn, h⟩
         ·rintro env pv hp ⟨x9, x10, x11, he, hv, h⟩
          refine AWP.sub (env' := (upd (upd (upd (upd (upd (upd (upd E0 11 (sI x11)) 10 (sI x10)) 9 (sI x9)) 3 (sV x3)) 2 (sI x2)) 1 (sI x1)) 0 (sS x0a x0n x0c))) (pv' := V0) ?_ (Ru 0 (Ru 1 (Ru 2 (Ru 3 (Ru 9 (Ru 10 (Ru 11 Rn))))))) he hv (HSub.refl _)
          clear he hv
          unfold F161_j9 at h
          refine AWP.block ?_
          refine AWP.loop (σ := Int) (fun I s hp => F161_l10 x0a x0n x0c x1 x2 x3 x9 x10 I2 K I s hp) (fun s => (upd (upd (upd (upd (upd (upd (upd E0 11 (sI s)) 10 (sI x10)) 9 (sI x9)) 3 (sV x3)) 2 (sI x2)) 1 (sI x1)) 0 (sS x0a x0n x0c))) (fun s => V0) x11 h (fun s => (Ru 0 (Ru 1 (Ru 2 (Ru 3 (Ru 9 (Ru 10 (Ru 11 Rn)))))))) (Sc rfl (Sc rfl (Sc rfl (Sc rfl (Sc rfl (Sc rfl (Sc rfl Sn))))))) Sn ?_
          intro I10 s hp h
          obtain ⟨x11, hs⟩ : ∃ x, x = s := ⟨s, rfl⟩
          subst hs
          replace h : F161_l10 x0a x0n x0c x1 x2 x3 x9 x10 I2 K I10 x11 hp := h
          unfold F161_l10 at h
          refine AWP.seq' ?_
          refine AWP.seq' ?_
          refine AWP.rgn (F161_r15 (upd (upd (upd (upd (upd (upd E0 10 (sI x10)) 9 (sI x9)) 3 (sV x3)) 2 (sI x2)) 1 (sI x1)) 0 (sS x0a x0n x0c)) x11 hp _) ?_ (Ru 11 (Ru 0 (Ru 1 (Ru 2 (Ru 3 (Ru 9 (Ru 10 Rn))))))) (Sc rfl (Sc rfl (Sc rfl (Sc rfl (Sc rfl (Sc rfl (Sc rfl Sn))))))) Sn
          refine AWP.cond (t := (decide (x11 ≥ 1))) rfl (fun e => ?_) (fun e => ?_)
          ·replace h := ite2_t h e
           refine AWP.skip ?_
           refine AWP.seq' ?_
           refine AWP.block ?_
           refine AWP.seq' ?_
           refine AWP.seq' ?_
           refine AWP.rgnD (by kernel_rfl) (by kernel_rfl) (F161_r16 (upd (upd (upd (upd E0 10 (sI x10)) 9 (sI x9)) 2 (sI x2)) 1 (sI x1)) x0a x0n x0c x3 x11 hp _) ?_ (Ru 0 (Ru 3 (Ru 11 (Ru 1 (Ru 2 (Ru 9 (Ru 10 Rn))))))) (Sc rfl (Sc rfl (Sc rfl (Sc rfl (Sc rfl (Sc rfl (Sc rfl Sn))))))) Sn
           refine ⟨h.1, h.2.1, mN h.2.2 (fun b_37 o_38 h => mL h (fun l_39 h => ⟨h.1, h.2.1, mN h.2.2 fun b_40 o_41 h => mL h fun l_42 h => mF h fun f_43 ga_44 gb_45 h => mC h fun u_46 h_47 h => mI h fun i_48 h => ?_⟩))⟩
           refine AWP.cond (t := (!(decide (i_48 < 0)))) rfl (fun e => ?_) (fun e => ?_)
           ·replace h := ite2_t h e
            refine AWP.exit ?_
            exact ⟨x9, x10, (Sc rfl (Sc rfl (Sc rfl (Sc rfl (Sc rfl (Sc rfl Sn)))))), Sn, h⟩
           ·replace h := ite2_f h e
            refine AWP.skip ?_
            refine AWP.rgnD (by kernel_rfl) (by kernel_rfl) (F161_r17 (upd (upd (upd (upd (upd E0 10 (sI x10)) 9 (sI x9)) 3 (sV x3)) 2 (sI x2)) 1 (sI x1)) x0a x0n x0c x11 h_47 _) ?_ (Ru 0 (Ru 11 (Ru 1 (Ru 2 (Ru 3 (Ru 9 (Ru 10 Rn))))))) (Sc rfl (Sc rfl (Sc rfl (Sc rfl (Sc rfl (Sc rfl (Sc rfl Sn))))))) Sn
            refine ⟨h.1, h.2.1, mN h.2.2 (fun b_49 o_50 h => mL h (fun l_51 h => ⟨h.1, h.2.1, mN h.2.2 (fun b_52 o_53 h => mL h (fun l_54 h => ⟨h.1, h.2.1, mN h.2.2 (fun b_55 o_56 h => ⟨h.1, mW h.2 (fun h_57 h => ⟨h.1, h.2.1, mN h.2.2 (fun b_58 o_59 h => ⟨h.1, mW h.2 fun h_60 h => ?_⟩)⟩)⟩)⟩))⟩))⟩
            refine AWP.rgn (F161_r18 (upd (upd (upd (upd (upd (upd E0 10 (sI x10)) 9 (sI x9)) 3 (sV x3)) 2 (sI x2)) 1 (sI x1)) 0 (sS x0a x0n x0c)) x11 h_60 _) ?_ (Ru 11 (Ru 0 (Ru 1 (Ru 2 (Ru 3 (Ru 9 (Ru 10 Rn))))))) (Sc rfl (Sc rfl (Sc rfl (Sc rfl (Sc rfl (Sc rfl (Sc rfl Sn))))))) Sn
            exact ⟨(wr (x11 - 1)), (Sc rfl (Sc rfl (Sc rfl (Sc rfl (Sc rfl (Sc rfl (Sc rfl Sn))))))), Sn, h⟩
          ·replace h := ite2_f h e
           refine AWP.exit ?_
           exact ⟨x9, x10, (Sc rfl (Sc rfl (Sc rfl (Sc rfl (Sc rfl (Sc rfl Sn)))))), Sn, h⟩
        ·replace h := ite2_f h e
         refine AWP.skip ?_
         exact ⟨x9, x10, (Sc rfl (Sc rfl (Sc rfl (Sc rfl (Sc rfl (Sc rfl Sn)))))), Sn, h⟩
       ·rintro env pv hp ⟨x9, x10, he, hv, h⟩
        refine AWP.sub (env' := (upd (upd (upd (upd (upd (upd E0 10 (sI x10)) 9 (sI x9)) 3 (sV x3)) 2 (sI x2)) 1 (sI x1)) 0 (sS x0a x0n x0c))) (pv' := V0) ?_ (Ru 0 (Ru 1 (Ru 2 (Ru 3 (Ru 9 (Ru 10 Rn)))))) he hv (HSub.refl _)
        clear he hv
        unfold F161_j6 at h
        refine AWP.seq' ?_
        refine AWP.rgn (F161_r8 (upd (upd (upd (upd E0 10 (sI x10)) 3 (sV x3)) 1 (sI x1)) 0 (sS x0a x0n x0c)) x2 x9 hp _) ?_ (Ru 2 (Ru 9 (Ru 0 (Ru 1 (Ru 3 (Ru 10 Rn)))))) (Sc rfl (Sc rfl (Sc rfl (Sc rfl (Sc rfl (Sc rfl Sn)))))) Sn
        refine AWP.cond (t := (decide (((wr (x2 - x9)) : Int) ≥ 2))) rfl (fun e => ?_) (fun e => ?_)
        ·replace h := ite2_t h e
         refine AWP.seq (fun env pv hp => ∃ (x9 : Int) (x10 : Int) (x12 : Int), Sub (upd (upd (upd (upd (upd (upd (upd E0 12 (sI x12)) 10 (sI x10)) 9 (sI x9)) 3 (sV x3)) 2 (sI x2)) 1 (sI x1)) 0 (sS x0a x0n x0c)) env ∧ Sub V0 pv ∧ (F161_j7 x0a x0n x0c x1 x2 x3 x9 x10 x12 hp I2 K)) ?_ ?_
         ·refine AWP.rgn (F161_r13 (upd (upd (upd (upd (upd E0 10 (sI x10)) 3 (sV x3)) 2 (sI x2)) 1 (sI x1)) 0 (sS x0a x0n x0c)) x9 hp _) ?_ (Ru 9 (Ru 0 (Ru 1 (Ru 2 (Ru 3 (Ru 10 Rn)))))) (Sc rfl (Sc rfl (Sc rfl (Sc rfl (Sc rfl (Sc rfl Sn)))))) Sn
          exact ⟨x9, x10, (wr (x9 + 1)), (Sc rfl (Sc rfl (Sc rfl (Sc rfl (Sc rfl (Sc rfl (Sc rfl Sn))))))), Sn, h⟩
         ·rintro env pv hp ⟨x9, x10, x12, he, hv, h⟩
          refine AWP.sub (env' := (upd (upd (upd (upd (upd (upd (upd E0 12 (sI x12)) 10 (sI x10)) 9 (sI x9)) 3 (sV x3)) 2 (sI x2)) 1 (sI x1)) 0 (sS x0a x0n x0c))) (pv' := V0) ?_ (Ru 0 (Ru 1 (Ru 2 (Ru 3 (Ru 9 (Ru 10 (Ru 12 Rn))))))) he hv (HSub.refl _)
          clear he hv
          unfold F161_j7 at h
          refine AWP.block ?_
          refine AWP.loop (σ := Int) (fun I s hp => F161_l8 x0a x0n x0c x1 x2 x3 x9 x10 I2 K I s hp) (fun s => (upd (upd (upd (upd (upd (upd (upd E0 12 (sI s)) 10 (sI x10)) 9 (sI x9)) 3 (sV x3)) 2 (sI x2)) 1 (sI x1)) 0 (sS x0a x0n x0c))) (fun s => V0) x12 h (fun s => (Ru 0 (Ru 1 (Ru 2 (Ru 3 (Ru 9 (Ru 10 (Ru 12 Rn)))))))) (Sc rfl (Sc rfl (Sc rfl (Sc rfl (Sc rfl (Sc rfl (Sc rfl Sn))))))) Sn ?_
          intro I8 s hp h
          obtain ⟨x12, hs⟩ : ∃ x, x = s := ⟨s, rfl⟩
          subst hs
          replace h : F161_l8 x0a x0n x0c x1 x2 x3 x9 x10 I2 K I8 x12 hp := h
          unfold F161_l8 at h
          refine AWP.seq' ?_
          refine AWP.seq' ?_
          refine AWP.rgn (F161_r9 (upd (upd (upd (upd (upd E0 10 (sI x10)) 9 (sI x9)) 3 (sV x3)) 1 (sI x1)) 0 (sS x0a x0n x0c)) x2 x12 hp _) ?_ (Ru 2 (Ru 12 (Ru 0 (Ru 1 (Ru 3 (Ru 9 (Ru 10 Rn))))))) (Sc rfl (Sc rfl (Sc rfl (Sc rfl (Sc rfl (Sc rfl (Sc rfl Sn))))))) Sn
          refine AWP.cond (t := (decide (x12 < x2))) rfl (fun e => ?_) (fun e => ?_)
          ·replace h := ite2_t h e
           refine AWP.skip ?_
           refine AWP.seq' ?_
           refine AWP.block ?_
           refine AWP.seq' ?_
           refine AWP.seq' ?_
           refine AWP.rgnD (by kernel_rfl) (by kernel_rfl) (F161_r10 (upd (upd (upd (upd E0 10 (sI x10)) 9 (sI x9)) 2 (sI x2)) 1 (sI x1)) x0a x0n x0c x3 x12 hp _) ?_ (Ru 0 (Ru 3 (Ru 12 (Ru 1 (Ru 2 (Ru 9 (Ru 10 Rn))))))) (Sc rfl (Sc rfl (Sc rfl (Sc rfl (Sc rfl (Sc rfl (Sc rfl Sn))))))) Sn
           refine ⟨h.1, h.2.1, mN h.2.2 (fun b_13 o_14 h => mL h (fun l_15 h => ⟨h.1, h.2.1, mN h.2.2 fun b_16 o_17 h => mL h fun l_18 h => mF h fun f_19 ga_20 gb_21 h => mC h fun u_22 h_23 h => mI h fun i_24 h => ?_⟩))⟩
           refine AWP.cond (t := (!(decide (i_24 < 0)))) rfl (fun e => ?_) (fun e => ?_)
           ·replace h := ite2_t h e
            refine AWP.exit ?_
            exact ⟨x9, x10, (Sc rfl (Sc rfl (Sc rfl (Sc rfl (Sc rfl (Sc rfl Sn)))))), Sn, h⟩
           ·replace h := ite2_f h e
            refine AWP.skip ?_
            refine AWP.rgnD (by kernel_rfl) (by kernel_rfl) (F161_r11 (upd (upd (upd (upd (upd E0 10 (sI x10)) 9 (sI x9)) 3 (sV x3)) 2 (sI x2)) 1 (sI x1)) x0a x0n x0c x12 h_23 _) ?_ (Ru 0 (Ru 12 (Ru 1 (Ru 2 (Ru 3 (Ru 9 (Ru 10 Rn))))))) (Sc rfl (Sc rfl (Sc rfl (Sc rfl (Sc rfl (Sc rfl (Sc rfl Sn))))))) Sn
            refine ⟨h.1, h.2.1, mN h.2.2 (fun b_25 o_26 h => mL h (fun l_27 h => ⟨h.1, h.2.1, mN h.2.2 (fun b_28 o_29 h => mL h (fun l_30 h => ⟨h.1, h.2.1, mN h.2.2 (fun b_31 o_32 h => ⟨h.1, mW h.2 (fun h_33 h => ⟨h.1, h.2.1, mN h.2.2 (fun b_34 o_35 h => ⟨h.1, mW h.2 fun h_36 h => ?_⟩)⟩)⟩)⟩))⟩))⟩
            refine AWP.rgn (F161_r12 (upd (upd (upd (upd (upd (upd E0 10 (sI x10)) 9 (sI x9)) 3 (sV x3)) 2 (sI x2)) 1 (sI x1)) 0 (sS x0a x0n x0c)) x12 h_36 _) ?_ (Ru 12 (Ru 0 (Ru 1 (Ru 2 (Ru 3 (Ru 9 (Ru 10 Rn))))))) (Sc rfl (Sc rfl (Sc rfl (Sc rfl (Sc rfl (Sc rfl (Sc rfl Sn))))))) Sn
            exact ⟨(wr (x12 + 1)), (Sc rfl (Sc rfl (Sc rfl (Sc rfl (Sc rfl (Sc rfl (Sc rfl Sn))))))), Sn, h⟩
          ·replace h := ite2_f h e
           refine AWP.exit ?_
           exact ⟨x9, x10, (Sc rfl (Sc rfl (Sc rfl (Sc rfl (Sc rfl (Sc rfl Sn)))))), Sn, h⟩
        ·replace h := ite2_f h e
         refine AWP.skip ?_
         exact ⟨x9, x10, (Sc rfl (Sc rfl (Sc rfl (Sc rfl (Sc rfl (Sc rfl Sn)))))), Sn, h⟩
   ·rintro env pv hp ⟨x9, x10, he, hv, h⟩
    refine AWP.sub (env' := (upd (upd (upd (upd (upd (upd E0 10 (sI x10)) 9 (sI x9)) 3 (sV x3)) 2 (sI x2)) 1 (sI x1)) 0 (sS x0a x0n x0c))) (pv' := V0) ?_ (Ru 0 (Ru 1 (Ru 2 (Ru 3 (Ru 9 (Ru 10 Rn)))))) he hv (HSub.refl _)
    clear he hv
    unfold F161_j4 at h
    refine AWP.rgn (F161_r2 (upd (upd (upd (upd (upd E0 9 (sI x9)) 3 (sV x3)) 2 (sI x2)) 1 (sI x1)) 0 (sS x0a x0n x0c)) x10 hp _) ?_ (Ru 10 (Ru 0 (Ru 1 (Ru 2 (Ru 3 (Ru 9 Rn)))))) (Sc rfl (Sc rfl (Sc rfl (Sc rfl (Sc rfl (Sc rfl Sn)))))) Sn
    exact ⟨(x9, (wr (x10 + 1))), (Sc rfl (Sc rfl (Sc rfl (Sc rfl (Sc rfl (Sc rfl Sn)))))), Sn, h⟩
end
-- 162 slices.partitionEqualCmpFunc[interpreter/api.T4]
section
variable (e : Env) (x0a : Option Addr) (x0n x0c : Nat) (x1 x2 x3 : Int) (x4 : Value) (x11 x12 : Int) (hp : HP) (K : Env → PV → HP → Prop)
abbrev R162 (p : List Nat) (n : Nat) := RW Try.prog 90 [] (opsAt Try.f162 p) (List.range n)
theorem F162_r0 : R162 [0] 1 e V0 hp K =
    (K (upd e 10 (sI 0)) V0 hp) := by kernel_rfl
theorem F162_r1 : R162 [1, 0] 16 (upd (upd (upd e 3 (sI x3)) 1 (sI x1)) 0 (sS x0a x0n x0c)) V0 hp K =
    ((0 ≤ x3) ∧ (x3 < x0n) ∧ (ptrN x0a fun b1 o2 => (ldL (HP.cellN hp b1 (o2 + Int.toNat x3 * 5) 5) fun l3 => ((0 ≤ x1) ∧ (x1 < x0n) ∧ (ptrN x0a fun b4 o5 => (ldL (HP.cellN hp b4 (o5 + Int.toNat x1 * 5) 5) fun l6 => ((0 ≤ x1) ∧ (x1 < x0n) ∧ (ptrN x0a fun b7 o8 => ((List.length l3 = 5) ∧ (HP.stN hp b7 (o8 + Int.toNat x1 * 5) l3 fun h9 => ((0 ≤ x3) ∧ (x3 < x0n) ∧ (ptrN x0a fun b10 o11 => ((List.length l6 = 5) ∧ (HP.stN h9 b10 (o11 + Int.toNat x3 * 5) l6 fun h12 => (K (upd (upd (upd (upd (upd (upd (upd (upd (upd (upd (upd (upd (upd (upd (upd (upd (upd e 3 (sI x3)) 1 (sI x1)) 0 (sS x0a x0n x0c)) 13 (sS x0a x0n x0c)) 14 (sI x1)) 15 (sS x0a x0n x0c)) 16 (sI x3)) 17 (sS x0a x0n x0c)) 18 (sI x3)) 19 (sQ b1 (o2 + Int.toNat x3 * 5))) 20 (sA l3)) 21 (sS x0a x0n x0c)) 22 (sI x1)) 23 (sQ b4 (o5 + Int.toNat x1 * 5))) 24 (sA l6)) 25 (sQ b7 (o8 + Int.toNat x1 * 5))) 26 (sQ b10 (o11 + Int.toNat x3 * 5))) V0 h12))))))))))))))) := by kernel_rfl
theorem F162_r2 : R162 [1, 1, 1, 1, 0] 2 (upd e 11 (sI x11)) V0 hp K =
    (K (upd (upd (upd e 11 (sI x11)) 89 (sI x11)) 10 (sI x11)) V0 hp) := by kernel_rfl
def F162_j2 (x11 : Int) (hp : HP) (K : Value → HP → Prop) : Prop :=
  (K (.int .i64 x11) hp)
theorem F162_r3 : R162 [1, 1, 1, 0, 0, 0, 0, 1, 1, 0, 0] 3 (upd (upd e 12 (sI x12)) 11 (sI x11)) V0 hp K =
    (K (upd (upd (upd (upd (upd e 12 (sI x12)) 11 (sI x11)) 68 (sI x11)) 69 (sI x12)) 70 (sB (decide (x11 > x12)))) V0 hp) := by kernel_rfl
theorem F162_r4 : R162 [1, 1, 1, 0, 0, 0, 0, 1, 1, 1, 0] 16 (upd (upd (upd e 12 (sI x12)) 11 (sI x11)) 0 (sS x0a x0n x0c)) V0 hp K =
    ((0 ≤ x12) ∧ (x12 < x0n) ∧ (ptrN x0a fun b1 o2 => (ldL (HP.cellN hp b1 (o2 + Int.toNat x12 * 5) 5) fun l3 => ((0 ≤ x11) ∧ (x11 < x0n) ∧ (ptrN x0a fun b4 o5 => (ldL (HP.cellN hp b4 (o5 + Int.toNat x11 * 5) 5) fun l6 => ((0 ≤ x11) ∧ (x11 < x0n) ∧ (ptrN x0a fun b7 o8 => ((List.length l3 = 5) ∧ (HP.stN hp b7 (o8 + Int.toNat x11 * 5) l3 fun h9 => ((0 ≤ x12) ∧ (x12 < x0n) ∧ (ptrN x0a fun b10 o11 => ((List.length l6 = 5) ∧ (HP.stN h9 b10 (o11 + Int.toNat x12 * 5) l6 fun h12 => (K (upd (upd (upd (upd (upd (upd (upd (upd (upd (upd (upd (upd (upd (upd (upd (upd (upd e 12 (sI x12)) 11 (sI x11)) 0 (sS x0a x0n x0c)) 71 (sS x0a x0n x0c)) 72 (sI x11)) 73 (sS x0a x0n x0c)) 74 (sI x12)) 75 (sS x0a x0n x0c)) 76 (sI x12)) 77 (sQ b1 (o2 + Int.toNat x12 * 5))) 78 (sA l3)) 79 (sS x0a x0n x0c)) 80 (sI x11)) 81 (sQ b4 (o5 + Int.toNat x11 * 5))) 82 (sA l6)) 83 (sQ b7 (o8 + Int.toNat x11 * 5))) 84 (sQ b10 (o11 + Int.toNat x12 * 5))) V0 h12))))))))))))))) := by kernel_rfl
theorem F162_r5 : R162 [1, 1, 1, 0, 0, 0, 0, 1, 1, 1, 1, 0] 3 (upd e 11 (sI x11)) V0 hp K =
    (K (upd (upd (upd (upd e 11 (sI x11)) 85 (sI x11)) 86 (sI ((wr (x11 + 1))))) 11 (sI ((wr (x11 + 1))))) V0 hp) := by kernel_rfl
theorem F162_r6 : R162 [1, 1, 1, 0, 0, 0, 0, 1, 1, 1, 1, 1] 3 (upd e 12 (sI x12)) V0 hp K =
    (K (upd (upd (upd (upd e 12 (sI x12)) 87 (sI x12)) 88 (sI ((wr (x12 - 1))))) 12 (sI ((wr (x12 - 1))))) V0 hp) := by kernel_rfl
def F162_j5 (x0a : Option Addr) (x0n : Nat) (x0c : Nat) (x1 : Int) (x4 : Value) (x11 : Int) (x12 : Int) (hp : HP) (I3 : (Int × Int) → HP → Prop) (K : Value → HP → Prop) : Prop :=
  (ite2 (decide (x11 > x12)) (F162_j2 x11 hp  K) ((0 ≤ x12) ∧ (x12 < x0n) ∧ (ptrN x0a fun b_13 o_14 => (ldL (HP.cellN hp b_13 (o_14 + Int.toNat x12 * 5) 5) fun l_15 => ((0 ≤ x11) ∧ (x11 < x0n) ∧ (ptrN x0a fun b_16 o_17 => (ldL (HP.cellN hp b_16 (o_17 + Int.toNat x11 * 5) 5) fun l_18 => ((0 ≤ x11) ∧ (x11 < x0n) ∧ (ptrN x0a fun b_19 o_20 => ((List.length l_15 = 5) ∧ (HP.stN hp b_19 (o_20 + Int.toNat x11 * 5) l_15 fun h_21 => ((0 ≤ x12) ∧ (x12 < x0n) ∧ (ptrN x0a fun b_22 o_23 => ((List.length l_18 = 5) ∧ (HP.stN h_21 b_22 (o_23 + Int.toNat x12 * 5) l_18 fun h_24 => (I3 ((IntKind.wrap .i64 (x11 + 1)), (IntKind.wrap .i64 (x12 - 1))) h_24))))))))))))))))
theorem F162_r7 : R162 [1, 1, 1, 0, 0, 0, 0, 1, 0, 0, 0, 1, 0] 3 (upd e 12 (sI x12)) V0 hp K =
    (K (upd (upd (upd (upd e 12 (sI x12)) 66 (sI x12)) 67 (sI ((wr (x12 - 1))))) 12 (sI ((wr (x12 - 1))))) V0 hp) := by kernel_rfl
def F162_j7 (x0a : Option Addr) (x0n : Nat) (x0c : Nat) (x1 : Int) (x4 : Value) (x11 : Int) (x12 : Int) (x65 : Bool) (hp : HP) (I3 : (Int × Int) → HP → Prop) (I6 : (Int) → HP → Prop) (K : Value → HP → Prop) : Prop :=
  (ite2 x65 (I6 (IntKind.wrap .i64 (x12 - 1)) hp) (F162_j5 x0a x0n x0c x1 x4 x11 x12 hp I3 K))
theorem F162_r8 : R162 [1, 1, 1, 0, 0, 0, 0, 1, 0, 0, 0, 0, 0] 16 (upd (upd (upd (upd (upd e 12 (sI x12)) 11 (sI x11)) 4 (sV x4)) 1 (sI x1)) 0 (sS x0a x0n x0c)) V0 hp K =
    (ite2 (decide (x11 ≤ x12)) ((0 ≤ x1) ∧ (x1 < x0n) ∧ (ptrN x0a fun b1 o2 => (ldL (HP.cellN hp b1 (o2 + Int.toNat x1 * 5) 5) fun l3 => ((0 ≤ x12) ∧ (x12 < x0n) ∧ (ptrN x0a fun b4 o5 => (ldL (HP.cellN hp b4 (o5 + Int.toNat x12 * 5) 5) fun l6 => (fnV x4 fun f7 ga8 gb9 => (CF Try.prog f7 (ga8 ++ [(Value.agg ⟨l3⟩), (.agg ⟨l6⟩)] ++ gb9) hp fun u10 h11 => (intV u10 .i64 fun i12 => (K (upd (upd (upd (upd (upd (upd (upd (upd (upd (upd (upd (upd (upd (upd (upd (upd (upd (upd (upd (upd (upd e 12 (sI x12)) 11 (sI x11)) 4 (sV x4)) 1 (sI x1)) 0 (sS x0a x0n x0c)) 50 (sI x11)) 51 (sI x12)) 52 (sB (decide (x11 ≤ x12)))) 53 (sB true)) 54 (sV x4)) 55 (sS x0a x0n x0c)) 56 (sI x1)) 57 (sQ b1 (o2 + Int.toNat x1 * 5))) 58 (sA l3)) 59 (sS x0a x0n x0c)) 60 (sI x12)) 61 (sQ b4 (o5 + Int.toNat x12 * 5))) 62 (sA l6)) 63 (sI i12)) 64 (sB (decide (i12 < 0)))) 65 (sB (decide (i12 < 0)))) V0 h11)))))))))) (K (upd (upd (upd (upd (upd (upd (upd (upd (upd (upd (upd (upd (upd (upd (upd (upd (upd (upd (upd (upd (upd e 12 (sI x12)) 11 (sI x11)) 4 (sV x4)) 1 (sI x1)) 0 (sS x0a x0n x0c)) 50 (sI x11)) 51 (sI x12)) 52 (sB (decide (x11 ≤ x12)))) 53 (sB false)) 54 sU) 55 sU) 56 sU) 57 sU) 58 sU) 59 sU) 60 sU) 61 sU) 62 sU) 63 sU) 64 sU) 65 (sB false)) V0 hp)) := by kernel_rfl
def F162_l6 (x0a : Option Addr) (x0n : Nat) (x0c : Nat) (x1 : Int) (x4 : Value) (x11 : Int) (I3 : (Int × Int) → HP → Prop) (K : Value → HP → Prop) (I6 : (Int) → HP → Prop) (x12 : Int) (hp : HP) : Prop :=
  (ite2 (decide (x11 ≤ x12)) ((0 ≤ x1) ∧ (x1 < x0n) ∧ (ptrN x0a fun b_25 o_26 => (ldL (HP.cellN hp b_25 (o_26 + Int.toNat x1 * 5) 5) fun l_27 => ((0 ≤ x12) ∧ (x12 < x0n) ∧ (ptrN x0a fun b_28 o_29 => (ldL (HP.cellN hp b_28 (o_29 + Int.toNat x12 * 5) 5) fun l_30 => (fnV x4 fun f_31 ga_32 gb_33 => (CF Try.prog f_31 (ga_32 ++ [(Value.agg ⟨l_27⟩), (.agg ⟨l_30⟩)] ++ gb_33) hp fun u_34 h_35 => (intV u_34 .i64 fun i_36 => (F162_j7 x0a x0n x0c x1 x4 x11 x12 (decide (i_36 < 0)) h_35 I3 I6 K)))))))))) (F162_j7 x0a x0n x0c x1 x4 x11 x12 false hp I3 I6 K))
def F162_j4 (x0a : Option Addr) (x0n : Nat) (x0c : Nat) (x1 : Int) (x4 : Value) (x11 : Int) (x12 : Int) (hp : HP) (I3 : (Int × Int) → HP → Prop) (K : Value → HP → Prop) : Prop :=
  (LoopP (σ := Int) (fun I s hp => F162_l6 x0a x0n x0c x1 x4 x11 I3 K I s hp) x12 hp)
theorem F162_r9 : R162 [1, 1, 1, 0, 0, 0, 0, 0, 0, 0, 1, 0] 3 (upd e 11 (sI x11)) V0 hp K =
    (K (upd (upd (upd (upd e 11 (sI x11)) 48 (sI x11)) 49 (sI ((wr (x11 + 1))))) 11 (sI ((wr (x11 + 1))))) V0 hp) := by kernel_rfl
def F162_j9 (x0a : Option Addr) (x0n : Nat) (x0c : Nat) (x1 : Int) (x4 : Value) (x11 : Int) (x12 : Int) (x47 : Bool) (hp : HP) (I3 : (Int × Int) → HP → Prop) (I8 : (Int) → HP → Prop) (K : Value → HP → Prop) : Prop :=
  (ite2 x47 (I8 (IntKind.wrap .i64 (x11 + 1)) hp) (F162_j4 x0a x0n x0c x1 x4 x11 x12 hp I3 K))
theorem F162_r10 : R162 [1, 1, 1, 0, 0, 0, 0, 0, 0, 0, 0, 0] 17 (upd (upd (upd (upd (upd e 12 (sI x12)) 11 (sI x11)) 4 (sV x4)) 1 (sI x1)) 0 (sS x0a x0n x0c)) V0 hp K =
    (ite2 (decide (x11 ≤ x12)) ((0 ≤ x1) ∧ (x1 < x0n) ∧ (ptrN x0a fun b1 o2 => (ldL (HP.cellN hp b1 (o2 + Int.toNat x1 * 5) 5) fun l3 => ((0 ≤ x11) ∧ (x11 < x0n) ∧ (ptrN x0a fun b4 o5 => (ldL (HP.cellN hp b4 (o5 + Int.toNat x11 * 5) 5) fun l6 => (fnV x4 fun f7 ga8 gb9 => (CF Try.prog f7 (ga8 ++ [(Value.agg ⟨l3⟩), (.agg ⟨l6⟩)] ++ gb9) hp fun u10 h11 => (intV u10 .i64 fun i12 => (K (upd (upd (upd (upd (upd (upd (upd (upd (upd (upd (upd (upd (upd (upd (upd (upd (upd (upd (upd (upd (upd (upd e 12 (sI x12)) 11 (sI x11)) 4 (sV x4)) 1 (sI x1)) 0 (sS x0a x0n x0c)) 31 (sI x11)) 32 (sI x12)) 33 (sB (decide (x11 ≤ x12)))) 34 (sB true)) 35 (sV x4)) 36 (sS x0a x0n x0c)) 37 (sI x1)) 38 (sQ b1 (o2 + Int.toNat x1 * 5))) 39 (sA l3)) 40 (sS x0a x0n x0c)) 41 (sI x11)) 42 (sQ b4 (o5 + Int.toNat x11 * 5))) 43 (sA l6)) 44 (sI i12)) 45 (sB (decide (i12 < 0)))) 46 (sB ((!(decide (i12 < 0)))))) 47 (sB ((!(decide (i12 < 0)))))) V0 h11)))))))))) (K (upd (upd (upd (upd (upd (upd (upd (upd (upd (upd (upd (upd (upd (upd (upd (upd (upd (upd (upd (upd (upd (upd e 12 (sI x12)) 11 (sI x11)) 4 (sV x4)) 1 (sI x1)) 0 (sS x0a x0n x0c)) 31 (sI x11)) 32 (sI x12)) 33 (sB (decide (x11 ≤ x12)))) 34 (sB false)) 35 sU) 36 sU) 37 sU) 38 sU) 39 sU) 40 sU) 41 sU) 42 sU) 43 sU) 44 sU) 45 sU) 46 sU) 47 (sB false)) V0 hp)) := by kernel_rfl
def F162_l8 (x0a : Option Addr) (x0n : Nat) (x0c : Nat) (x1 : Int) (x4 : Value) (x12 : Int) (I3 : (Int × Int) → HP → Prop) (K : Value → HP → Prop) (I8 : (Int) → HP → Prop) (x11 : Int) (hp : HP) : Prop :=
  (ite2 (decide (x11 ≤ x12)) ((0 ≤ x1) ∧ (x1 < x0n) ∧ (ptrN x0a fun b_37 o_38 => (ldL (HP.cellN hp b_37 (o_38 + Int.toNat x1 * 5) 5) fun l_39 => ((0 ≤ x11) ∧ (x11 < x0n) ∧ (ptrN x0a fun b_40 o_41 => (ldL (HP.cellN hp b_40 (o_41 + Int.toNat x11 * 5) 5) fun l_42 => (fnV x4 fun f_43 ga_44 gb_45 => (CF Try.prog f_43 (ga_44 ++ [(Value.agg ⟨l_39⟩), (.agg ⟨l_42⟩)] ++ gb_45) hp fun u_46 h_47 => (intV u_46 .i64 fun i_48 => (F162_j9 x0a x0n x0c x1 x4 x11 x12 (!(decide (i_48 < 0))) h_47 I3 I8 K)))))))))) (F162_j9 x0a x0n x0c x1 x4 x11 x12 false hp I3 I8 K))
def F162_l3 (x0a : Option Addr) (x0n : Nat) (x0c : Nat) (x1 : Int) (x4 : Value) (K : Value → HP → Prop) (I3 : (Int × Int) → HP → Prop) (x11 : Int) (x12 : Int) (hp : HP) : Prop :=
  (LoopP (σ := Int) (fun I s hp => F162_l8 x0a x0n x0c x1 x4 x12 I3 K I s hp) x11 hp)
def F162_j1 (x0a : Option Addr) (x0n : Nat) (x0c : Nat) (x1 : Int) (x4 : Value) (x11 : Int) (x12 : Int) (hp : HP) (K : Value → HP → Prop) : Prop :=
  (LoopP (σ := Int × Int) (fun I s hp => F162_l3 x0a x0n x0c x1 x4  K I s.1 s.2 hp) (x11, x12) hp)
theorem F162_r11 : R162 [1, 1, 0] 6 (upd (upd e 2 (sI x2)) 1 (sI x1)) V0 hp K =
    (K (upd (upd (upd (upd (upd (upd (upd (upd e 2 (sI x2)) 1 (sI x1)) 27 (sI x1)) 28 (sI ((wr (x1 + 1))))) 29 (sI x2)) 30 (sI ((wr (x2 - 1))))) 11 (sI ((wr (x1 + 1))))) 12 (sI ((wr (x2 - 1))))) V0 hp) := by kernel_rfl
def F162 (x0a : Option Addr) (x0n : Nat) (x0c : Nat) (x1 : Int) (x2 : Int) (x3 : Int) (x4 : Value) (hp : HP) (K : Value → HP → Prop) : Prop :=
  ((0 ≤ x3) ∧ (x3 < x0n) ∧ (ptrN x0a fun b_1 o_2 => (ldL (HP.cellN hp b_1 (o_2 + Int.toNat x3 * 5) 5) fun l_3 => ((0 ≤ x1) ∧ (x1 < x0n) ∧ (ptrN x0a fun b_4 o_5 => (ldL (HP.cellN hp b_4 (o_5 + Int.toNat x1 * 5) 5) fun l_6 => ((0 ≤ x1) ∧ (x1 < x0n) ∧ (ptrN x0a fun b_7 o_8 => ((List.length l_3 = 5) ∧ (HP.stN hp b_7 (o_8 + Int.toNat x1 * 5) l_3 fun h_9 => ((0 ≤ x3) ∧ (x3 < x0n) ∧ (ptrN x0a fun b_10 o_11 => ((List.length l_6 = 5) ∧ (HP.stN h_9 b_10 (o_11 + Int.toNat x3 * 5) l_6 fun h_12 => (F162_j1 x0a x0n x0c x1 x4 (IntKind.wrap .i64 (x1 + 1)) (IntKind.wrap .i64 (x2 - 1)) h_12  K)))))))))))))))
noncomputable def F162_code : Code := (.seq (.region 0 (opsAt Try.f162 [0]) false) (.seq (.region 1 (opsAt Try.f162 [1, 0]) true) (.seq (.region 2 (opsAt Try.f162 [1, 1, 0]) false) (.seq (.block 0 (.loop (.block 1 (.seq (.block 2 (.loop (.seq (.seq (.region 3 (opsAt Try.f162 [1, 1, 1, 0, 0, 0, 0, 0, 0, 0, 0, 0]) true) (.cond (.tmp 47) .skip (.exit 2))) (.block 3 (.region 4 (opsAt Try.f162 [1, 1, 1, 0, 0, 0, 0, 0, 0, 0, 1, 0]) false))))) (.seq (.block 4 (.loop (.seq (.seq (.region 5 (opsAt Try.f162 [1, 1, 1, 0, 0, 0, 0, 1, 0, 0, 0, 0, 0]) true) (.cond (.tmp 65) .skip (.exit 4))) (.block 5 (.region 6 (opsAt Try.f162 [1, 1, 1, 0, 0, 0, 0, 1, 0, 0, 0, 1, 0]) false))))) (.seq (.seq (.region 7 (opsAt Try.f162 [1, 1, 1, 0, 0, 0, 0, 1, 1, 0, 0]) false) (.cond (.tmp 70) (.exit 0) .skip)) (.seq (.region 8 (opsAt Try.f162 [1, 1, 1, 0, 0, 0, 0, 1, 1, 1, 0]) true) (.seq (.region 9 (opsAt Try.f162 [1, 1, 1, 0, 0, 0, 0, 1, 1, 1, 1, 0]) false) (.region 10 (opsAt Try.f162 [1, 1, 1, 0, 0, 0, 0, 1, 1, 1, 1, 1]) false))))))))) (.seq (.region 11 (opsAt Try.f162 [1, 1, 1, 1, 0]) false) .ret)))))
theorem F162_body : Try.f162.body = some F162_code := by kernel_rfl
theorem F162_ok (x0a : Option Addr) (x0n : Nat) (x0c : Nat) (x1 : Int) (x2 : Int) (x3 : Int) (x4 : Value) (hp : HP) (K : Value → HP → Prop) (h : F162 x0a x0n x0c x1 x2 x3 x4 hp K) : CF Try.prog 162 [(.slice x0a x0n x0c), (.int .i64 x1), (.int .i64 x2), (.int .i64 x3), x4] hp K := by
 refine .inl ⟨by kernel_rfl, AC.intro (N := 90) Try.func162 F162_body rfl (Nat.le_of_ble_eq_true rfl) ?_⟩
 unfold F162 at h
 unfold F162_code
 refine AWP.seq' ?_
 refine AWP.rgn (F162_r0 (upd (upd (upd (upd (upd E0 4 (sV x4)) 3 (sI x3)) 2 (sI x2)) 1 (sI x1)) 0 (sS x0a x0n x0c))  hp _) ?_ (Ru 0 (Ru 1 (Ru 2 (Ru 3 (Ru 4 Rn))))) (Sc rfl (Sc rfl (Sc rfl (Sc rfl (Sc rfl Sn))))) Sn
 refine AWP.seq' ?_
 refine AWP.rgnD (by kernel_rfl) (by kernel_rfl) (F162_r1 (upd (upd E0 4 (sV x4)) 2 (sI x2)) x0a x0n x0c x1 x3 hp _) ?_ (Ru 0 (Ru 1 (Ru 3 (Ru 2 (Ru 4 Rn))))) (Sc rfl (Sc rfl (Sc rfl (Sc rfl (Sc rfl Sn))))) Sn
 refine ⟨h.1, h.2.1, mN h.2.2 (fun b_1 o_2 h => mL h (fun l_3 h => ⟨h.1, h.2.1, mN h.2.2 (fun b_4 o_5 h => mL h (fun l_6 h => ⟨h.1, h.2.1, mN h.2.2 (fun b_7 o_8 h => ⟨h.1, mW h.2 (fun h_9 h => ⟨h.1, h.2.1, mN h.2.2 (fun b_10 o_11 h => ⟨h.1, mW h.2 fun h_12 h => ?_⟩)⟩)⟩)⟩))⟩))⟩
 refine AWP.seq (fun env pv hp => ∃ (x0a : Option Addr) (x0n : Nat) (x0c : Nat) (x1 : Int) (x4 : Value) (x11 : Int) (x12 : Int), Sub (upd (upd (upd (upd (upd E0 12 (sI x12)) 11 (sI x11)) 4 (sV x4)) 1 (sI x1)) 0 (sS x0a x0n x0c)) env ∧ Sub V0 pv ∧ (F162_j1 x0a x0n x0c x1 x4 x11 x12 hp  K)) ?_ ?_
 ·refine AWP.rgn (F162_r11 (upd (upd E0 4 (sV x4)) 0 (sS x0a x0n x0c)) x1 x2 h_12 _) ?_ (Ru 1 (Ru 2 (Ru 0 (Ru 4 Rn)))) (Sc rfl (Sc rfl (Sc rfl (Sc rfl Sn)))) Sn
  exact ⟨x0a, x0n, x0c, x1, x4, (wr (x1 + 1)), (wr (x2 - 1)), (Sc rfl (Sc rfl (Sc rfl (Sc rfl (Sc rfl Sn))))), Sn, h⟩
 ·rintro env pv hp ⟨x0a, x0n, x0c, x1, x4, x11, x12, he, hv, h⟩
  refine AWP.sub (env' := (upd (upd (upd (upd (upd E0 12 (sI x12)) 11 (sI x11)) 4 (sV x4)) 1 (sI x1)) 0 (sS x0a x0n x0c))) (pv' := V0) ?_ (Ru 0 (Ru 1 (Ru 4 (Ru 11 (Ru 12 Rn))))) he hv (HSub.refl _)
  clear he hv
  unfold F162_j1 at h
  refine AWP.seq (fun env pv hp => ∃ (x11 : Int), Sub (upd E0 11 (sI x11)) env ∧ Sub V0 pv ∧ (F162_j2 x11 hp  K)) ?_ ?_
  ·refine AWP.block ?_
   refine AWP.loop (σ := Int × Int) (fun I s hp => F162_l3 x0a x0n x0c x1 x4  K I s.1 s.2 hp) (fun s => (upd (upd (upd (upd (upd E0 12 (sI (s.2))) 11 (sI (s.1))) 4 (sV x4)) 1 (sI x1)) 0 (sS x0a x0n x0c))) (fun s => V0) (x11, x12) h (fun s => (Ru 0 (Ru 1 (Ru 4 (Ru 11 (Ru 12 Rn)))))) (Sc rfl (Sc rfl (Sc rfl (Sc rfl (Sc rfl Sn))))) Sn ?_
   intro I3 s hp h
   obtain ⟨x11, x12⟩ := s
   replace h : F162_l3 x0a x0n x0c x1 x4  K I3 x11 x12 hp := h
   unfold F162_l3 at h
   refine AWP.block ?_
   refine AWP.seq (fun env pv hp => ∃ (x11 : Int) (x12 : Int), Sub (upd (upd (upd (upd (upd E0 12 (sI x12)) 11 (sI x11)) 4 (sV x4)) 1 (sI x1)) 0 (sS x0a x0n x0c)) env ∧ Sub V0 pv ∧ (F162_j4 x0a x0n x0c x1 x4 x11 x12 hp I3 K)) ?_ ?_
   ·refine AWP.block ?_
    refine AWP.loop (σ := Int) (fun I s hp => F162_l8 x0a x0n x0c x1 x4 x12 I3 K I s hp) (fun s => (upd (upd (upd (upd (upd E0 12 (sI x12)) 11 (sI s)) 4 (sV x4)) 1 (sI x1)) 0 (sS x0a x0n x0c))) (fun s => V0) x11 h (fun s => (Ru 0 (Ru 1 (Ru 4 (Ru 11 (Ru 12 Rn)))))) (Sc rfl (Sc rfl (Sc rfl (Sc rfl (Sc rfl Sn))))) Sn ?_
    intro I8 s hp h
    obtain ⟨x11, hs⟩ : ∃ x, x = s := ⟨s, rfl⟩
    subst hs
    replace h : F162_l8 x0a x0n x0c x1 x4 x12 I3 K I8 x11 hp := h
    unfold F162_l8 at h
    refine AWP.seq' ?_
    refine AWP.seq (fun env pv hp => ∃ (x11 : Int) (x47 : Bool), Sub (upd (upd (upd (upd (upd (upd E0 47 (sB x47)) 12 (sI x12)) 11 (sI x11)) 4 (sV x4)) 1 (sI x1)) 0 (sS x0a x0n x0c)) env ∧ Sub V0 pv ∧ (F162_j9 x0a x0n x0c x1 x4 x11 x12 x47 hp I3 I8 K)) ?_ ?_
    ·refine AWP.rgnD (by kernel_rfl) (by kernel_rfl) (F162_r10 E0 x0a x0n x0c x1 x4 x11 x12 hp _) ?_ (Ru 0 (Ru 1 (Ru 4 (Ru 11 (Ru 12 Rn))))) (Sc rfl (Sc rfl (Sc rfl (Sc rfl (Sc rfl Sn))))) Sn
     refine mt h (fun h => ?_) (fun h => ?_)
     ·refine ⟨h.1, h.2.1, mN h.2.2 (fun b_37 o_38 h => mL h (fun l_39 h => ⟨h.1, h.2.1, mN h.2.2 fun b_40 o_41 h => mL h fun l_42 h => mF h fun f_43 ga_44 gb_45 h => mC h fun u_46 h_47 h => mI h fun i_48 h => ?_⟩))⟩
      exact ⟨x11, (!(decide (i_48 < 0))), (Sc rfl (Sc rfl (Sc rfl (Sc rfl (Sc rfl (Sc rfl Sn)))))), Sn, h⟩
     ·exact ⟨x11, false, (Sc rfl (Sc rfl (Sc rfl (Sc rfl (Sc rfl (Sc rfl Sn)))))), Sn, h⟩
    ·rintro env pv hp ⟨x11, x47, he, hv, h⟩
     refine AWP.sub (env' := (upd (upd (upd (upd (upd (upd E0 47 (sB x47)) 12 (sI x12)) 11 (sI x11)) 4 (sV x4)) 1 (sI x1)) 0 (sS x0a x0n x0c))) (pv' := V0) ?_ (Ru 0 (Ru 1 (Ru 4 (Ru 11 (Ru 12 (Ru 47 Rn)))))) he hv (HSub.refl _)
     clear he hv
     unfold F162_j9 at h
     refine AWP.cond (t := x47) rfl (fun e => ?_) (fun e => ?_)
     ·replace h := ite2_t h e
      refine AWP.skip ?_
      refine AWP.block ?_
      refine AWP.rgn (F162_r9 (upd (upd (upd (upd E0 12 (sI x12)) 4 (sV x4)) 1 (sI x1)) 0 (sS x0a x0n x0c)) x11 hp _) ?_ (Ru 11 (Ru 0 (Ru 1 (Ru 4 (Ru 12 Rn))))) (Sc rfl (Sc rfl (Sc rfl (Sc rfl (Sc rfl Sn))))) Sn
      exact ⟨(wr (x11 + 1)), (Sc rfl (Sc rfl (Sc rfl (Sc rfl (Sc rfl Sn))))), Sn, h⟩
     ·replace h := ite2_f h e
      refine AWP.exit ?_
      exact ⟨x11, x12, (Sc rfl (Sc rfl (Sc rfl (Sc rfl (Sc rfl Sn))))), Sn, h⟩
   ·rintro env pv hp ⟨x11, x12, he, hv, h⟩
    refine AWP.sub (env' := (upd (upd (upd (upd (upd E0 12 (sI x12)) 11 (sI x11)) 4 (sV x4)) 1 (sI x1)) 0 (sS x0a x0n x0c))) (pv' := V0) ?_ (Ru 0 (Ru 1 (Ru 4 (Ru 11 (Ru 12 Rn))))) he hv (HSub.refl _)
    clear he hv
    unfold F162_j4 at h
    refine AWP.seq (fun env pv hp => ∃ (x11 : Int) (x12 : Int), Sub (upd (upd (upd (upd (upd E0 12 (sI x12)) 11 (sI x11)) 4 (sV x4)) 1 (sI x1)) 0 (sS x0a x0n x0c)) env ∧ Sub V0 pv ∧ (F162_j5 x0a x0n x0c x1 x4 x11 x12 hp I3 K)) ?_ ?_
    ·refine AWP.block ?_
     refine AWP.loop (σ := Int) (fun I s hp => F162_l6 x0a x0n x0c x1 x4 x11 I3 K I s hp) (fun s => (upd (upd (upd (upd (upd E0 12 (sI s)) 11 (sI x11)) 4 (sV x4)) 1 (sI x1)) 0 (sS x0a x0n x0c))) (fun s => V0) x12 h (fun s => (Ru 0 (Ru 1 (Ru 4 (Ru 11 (Ru 12 Rn)))))) (Sc rfl (Sc rfl (Sc rfl (Sc rfl (Sc rfl Sn))))) Sn ?_
     intro I6 s hp h
     obtain ⟨x12, hs⟩ : ∃ x, x = s := ⟨s, rfl⟩
     subst hs
     replace h : F162_l6 x0a x0n x0c x1 x4 x11 I3 K I6 x12 hp := h
     unfold F162_l6 at h
     refine AWP.seq' ?_
     refine AWP.seq (fun env pv hp => ∃ (x12 : Int) (x65 : Bool), Sub (upd (upd (upd (upd (upd (upd E0 65 (sB x65)) 12 (sI x12)) 11 (sI x11)) 4 (sV x4)) 1 (sI x1)) 0 (sS x0a x0n x0c)) env ∧ Sub V0 pv ∧ (F162_j7 x0a x0n x0c x1 x4 x11 x12 x65 hp I3 I6 K)) ?_ ?_
     ·refine AWP.rgnD (by kernel_rfl) (by kernel_rfl) (F162_r8 E0 x0a x0n x0c x1 x4 x11 x12 hp _) ?_ (Ru 0 (Ru 1 (Ru 4 (Ru 11 (Ru 12 Rn))))) (Sc rfl (Sc rfl (Sc rfl (Sc rfl (Sc rfl Sn))))) Sn
      refine mt h (fun h => ?_) (fun h => ?_)
      ·refine ⟨h.1, h.2.1, mN h.2.2 (fun b_25 o_26 h => mL h (fun l_27 h => ⟨h.1, h.2.1, mN h.2.2 fun b_28 o_29 h => mL h fun l_30 h => mF h fun f_31 ga_32 gb_33 h => mC h fun u_34 h_35 h => mI h fun i_36 h => ?_⟩))⟩
       exact ⟨x12, (decide (i_36 < 0)), (Sc rfl (Sc rfl (Sc rfl (Sc rfl (Sc rfl (Sc rfl Sn)))))), Sn, h⟩
      ·exact ⟨x12, false, (Sc rfl (Sc rfl (Sc rfl (Sc rfl (Sc rfl (Sc rfl Sn)))))), Sn, h⟩
     ·rintro env pv hp ⟨x12, x65, he, hv, h⟩
      refine AWP.sub (env' := (upd (upd (upd (upd (upd (upd E0 65 (sB x65)) 12 (sI x12)) 11 (sI x11)) 4 (sV x4)) 1 (sI x1)) 0 (sS x0a x0n x0c))) (pv' := V0) ?_ (Ru 0 (Ru 1 (Ru 4 (Ru 11 (Ru 12 (Ru 65 Rn)))))) he hv (HSub.refl _)
      clear he hv
      unfold F162_j7 at h
      refine AWP.cond (t := x65) rfl (fun e => ?_) (fun e => ?_)
      ·replace h := ite2_t h e
       refine AWP.skip ?_
       refine AWP.block ?_
       refine AWP.rgn (F162_r7 (upd (upd (upd (upd E0 11 (sI x11)) 4 (sV x4)) 1 (sI x1)) 0 (sS x0a x0n x0c)) x12 hp _) ?_ (Ru 12 (Ru 0 (Ru 1 (Ru 4 (Ru 11 Rn))))) (Sc rfl (Sc rfl (Sc rfl (Sc rfl (Sc rfl Sn))))) Sn
       exact ⟨(wr (x12 - 1)), (Sc rfl (Sc rfl (Sc rfl (Sc rfl (Sc rfl Sn))))), Sn, h⟩
      ·replace h := ite2_f h e
       refine AWP.exit ?_
       exact ⟨x11, x12, (Sc rfl (Sc rfl (Sc rfl (Sc rfl (Sc rfl Sn))))), Sn, h⟩
    ·rintro env pv hp ⟨x11, x12, he, hv, h⟩
     refine AWP.sub (env' := (upd (upd (upd (upd (upd E0 12 (sI x12)) 11 (sI x11)) 4 (sV x4)) 1 (sI x1)) 0 (sS x0a x0n x0c))) (pv' := V0) ?_ (Ru 0 (Ru 1 (Ru 4 (Ru 11 (Ru 12 Rn))))) he hv (HSub.refl _)
     clear he hv
     unfold F162_j5 at h
     refine AWP.seq' ?_
     refine AWP.seq' ?_
     refine AWP.rgn (F162_r3 (upd (upd (upd E0 4 (sV x4)) 1 (sI x1)) 0 (sS x0a x0n x0c)) x11 x12 hp _) ?_ (Ru 11 (Ru 12 (Ru 0 (Ru 1 (Ru 4 Rn))))) (Sc rfl (Sc rfl (Sc rfl (Sc rfl (Sc rfl Sn))))) Sn
     refine AWP.cond (t := (decide (x11 > x12))) rfl (fun e => ?_) (fun e => ?_)
     ·replace h := ite2_t h e
      refine AWP.exit ?_
      exact ⟨x11, (Sc rfl Sn), Sn, h⟩
     ·replace h := ite2_f h e
      refine AWP.skip ?_
      refine AWP.seq' ?_
      refine AWP.rgnD (by kernel_rfl) (by kernel_rfl) (F162_r4 (upd (upd E0 4 (sV x4)) 1 (sI x1)) x0a x0n x0c x11 x12 hp _) ?_ (Ru 0 (Ru 11 (Ru 12 (Ru 1 (Ru 4 Rn))))) (Sc rfl (Sc rfl (Sc rfl (Sc rfl (Sc rfl Sn))))) Sn
      refine ⟨h.1, h.2.1, mN h.2.2 (fun b_13 o_14 h => mL h (fun l_15 h => ⟨h.1, h.2.1, mN h.2.2 (fun b_16 o_17 h => mL h (fun l_18 h => ⟨h.1, h.2.1, mN h.2.2 (fun b_19 o_20 h => ⟨h.1, mW h.2 (fun h_21 h => ⟨h.1, h.2.1, mN h.2.2 (fun b_22 o_23 h => ⟨h.1, mW h.2 fun h_24 h => ?_⟩)⟩)⟩)⟩))⟩))⟩
      refine AWP.seq' ?_
      refine AWP.rgn (F162_r5 (upd (upd (upd (upd E0 12 (sI x12)) 4 (sV x4)) 1 (sI x1)) 0 (sS x0a x0n x0c)) x11 h_24 _) ?_ (Ru 11 (Ru 0 (Ru 1 (Ru 4 (Ru 12 Rn))))) (Sc rfl (Sc rfl (Sc rfl (Sc rfl (Sc rfl Sn))))) Sn
      refine AWP.rgn (F162_r6 (upd (upd (upd (upd E0 11 (sI ((wr (x11 + 1))))) 4 (sV x4)) 1 (sI x1)) 0 (sS x0a x0n x0c)) x12 h_24 _) ?_ (Ru 12 (Ru 0 (Ru 1 (Ru 4 (Ru 11 Rn))))) (Sc rfl (Sc rfl (Sc rfl (Sc rfl (Sc rfl Sn))))) Sn
      exact ⟨((wr (x11 + 1)), (wr (x12 - 1))), (Sc rfl (Sc rfl (Sc rfl (Sc rfl (Sc rfl Sn))))), Sn, h⟩
  ·rintro env pv hp ⟨x11, he, hv, h⟩
   refine AWP.sub (env' := (upd E0 11 (sI x11))) (pv' := V0) ?_ (Ru 11 Rn) he hv (HSub.refl _)
   clear he hv
   unfold F162_j2 at h
   refine AWP.seq' ?_
   refine AWP.rgn (F162_r2 E0 x11 hp _) ?_ (Ru 11 Rn) (Sc rfl Sn) Sn
   refine AWP.ret ?_
   exact h
end
-- 163 slices.partitionCmpFunc[interpreter/api.T4]
section
variable (e : Env) (x0a : Option Addr) (x0n x0c : Nat) (x1 x2 x3 : Int) (x4 : Value) (x12 x13 : Int) (hp : HP) (K : Env → PV → HP → Prop)
abbrev R163 (p : List Nat) (n : Nat) := RW Try.prog 178 [] (opsAt Try.f163 p) (List.range n)
theorem F163_r0 : R163 [0] 2 e V0 hp K =
    (K (upd (upd e 10 (sI 0)) 11 (sB false)) V0 hp) := by kernel_rfl
theorem F163_r1 : R163 [1, 0] 16 (upd (upd (upd e 3 (sI x3)) 1 (sI x1)) 0 (sS x0a x0n x0c)) V0 hp K =
    ((0 ≤ x3) ∧ (x3 < x0n) ∧ (ptrN x0a fun b1 o2 => (ldL (HP.cellN hp b1 (o2 + Int.toNat x3 * 5) 5) fun l3 => ((0 ≤ x1) ∧ (x1 < x0n) ∧ (ptrN x0a fun b4 o5 => (ldL (HP.cellN hp b4 (o5 + Int.toNat x1 * 5) 5) fun l6 => ((0 ≤ x1) ∧ (x1 < x0n) ∧ (ptrN x0a fun b7 o8 => ((List.length l3 = 5) ∧ (HP.stN hp b7 (o8 + Int.toNat x1 * 5) l3 fun h9 => ((0 ≤ x3) ∧ (x3 < x0n) ∧ (ptrN x0a fun b10 o11 => ((List.length l6 = 5) ∧ (HP.stN h9 b10 (o11 + Int.toNat x3 * 5) l6 fun h12 => (K (upd (upd (upd (upd (upd (upd (upd (upd (upd (upd (upd (upd (upd (upd (upd (upd (upd e 3 (sI x3)) 1 (sI x1)) 0 (sS x0a x0n x0c)) 14 (sS x0a x0n x0c)) 15 (sI x1)) 16 (sS x0a x0n x0c)) 17 (sI x3)) 18 (sS x0a x0n x0c)) 19 (sI x3)) 20 (sQ b1 (o2 + Int.toNat x3 * 5))) 21 (sA l3)) 22 (sS x0a x0n x0c)) 23 (sI x1)) 24 (sQ b4 (o5 + Int.toNat x1 * 5))) 25 (sA l6)) 26 (sQ b7 (o8 + Int.toNat x1 * 5))) 27 (sQ b10 (o11 + Int.toNat x3 * 5))) V0 h12))))))))))))))) := by kernel_rfl
theorem F163_r2 : R163 [1, 1, 1, 1, 1, 0, 0] 3 (upd (upd e 13 (sI x13)) 12 (sI x12)) V0 hp K =
    (K (upd (upd (upd (upd (upd e 13 (sI x13)) 12 (sI x12)) 69 (sI x12)) 70 (sI x13)) 71 (sB (decide (x12 > x13)))) V0 hp) := by kernel_rfl
theorem F163_r3 : R163 [1, 1, 1, 1, 1, 0, 1, 0, 0] 16 (upd (upd (upd e 13 (sI x13)) 1 (sI x1)) 0 (sS x0a x0n x0c)) V0 hp K =
    ((0 ≤ x1) ∧ (x1 < x0n) ∧ (ptrN x0a fun b1 o2 => (ldL (HP.cellN hp b1 (o2 + Int.toNat x1 * 5) 5) fun l3 => ((0 ≤ x13) ∧ (x13 < x0n) ∧ (ptrN x0a fun b4 o5 => (ldL (HP.cellN hp b4 (o5 + Int.toNat x13 * 5) 5) fun l6 => ((0 ≤ x13) ∧ (x13 < x0n) ∧ (ptrN x0a fun b7 o8 => ((List.length l3 = 5) ∧ (HP.stN hp b7 (o8 + Int.toNat x13 * 5) l3 fun h9 => ((0 ≤ x1) ∧ (x1 < x0n) ∧ (ptrN x0a fun b10 o11 => ((List.length l6 = 5) ∧ (HP.stN h9 b10 (o11 + Int.toNat x1 * 5) l6 fun h12 => (K (upd (upd (upd (upd (upd (upd (upd (upd (upd (upd (upd (upd (upd (upd (upd (upd (upd e 13 (sI x13)) 1 (sI x1)) 0 (sS x0a x0n x0c)) 72 (sS x0a x0n x0c)) 73 (sI x13)) 74 (sS x0a x0n x0c)) 75 (sI x1)) 76 (sS x0a x0n x0c)) 77 (sI x1)) 78 (sQ b1 (o2 + Int.toNat x1 * 5))) 79 (sA l3)) 80 (sS x0a x0n x0c)) 81 (sI x13)) 82 (sQ b4 (o5 + Int.toNat x13 * 5))) 83 (sA l6)) 84 (sQ b7 (o8 + Int.toNat x13 * 5))) 85 (sQ b10 (o11 + Int.toNat x1 * 5))) V0 h12))))))))))))))) := by kernel_rfl
theorem F163_r4 : R163 [1, 1, 1, 1, 1, 0, 1, 0, 1, 0] 3 (upd e 13 (sI x13)) V0 hp K =
    (K (upd (upd (upd (upd e 13 (sI x13)) 86 (sI x13)) 10 (sI x13)) 11 (sB true)) V0 hp) := by kernel_rfl
theorem F163_r5 : R163 [1, 1, 1, 1, 1, 1, 0] 16 (upd (upd (upd e 13 (sI x13)) 12 (sI x12)) 0 (sS x0a x0n x0c)) V0 hp K =
    ((0 ≤ x13) ∧ (x13 < x0n) ∧ (ptrN x0a fun b1 o2 => (ldL (HP.cellN hp b1 (o2 + Int.toNat x13 * 5) 5) fun l3 => ((0 ≤ x12) ∧ (x12 < x0n) ∧ (ptrN x0a fun b4 o5 => (ldL (HP.cellN hp b4 (o5 + Int.toNat x12 * 5) 5) fun l6 => ((0 ≤ x12) ∧ (x12 < x0n) ∧ (ptrN x0a fun b7 o8 => ((List.length l3 = 5) ∧ (HP.stN hp b7 (o8 + Int.toNat x12 * 5) l3 fun h9 => ((0 ≤ x13) ∧ (x13 < x0n) ∧ (ptrN x0a fun b10 o11 => ((List.length l6 = 5) ∧ (HP.stN h9 b10 (o11 + Int.toNat x13 * 5) l6 fun h12 => (K (upd (upd (upd (upd (upd (upd (upd (upd (upd (upd (upd (upd (upd (upd (upd (upd (upd e 13 (sI x13)) 12 (sI x12)) 0 (sS x0a x0n x0c)) 87 (sS x0a x0n x0c)) 88 (sI x12)) 89 (sS x0a x0n x0c)) 90 (sI x13)) 91 (sS x0a x0n x0c)) 92 (sI x13)) 93 (sQ b1 (o2 + Int.toNat x13 * 5))) 94 (sA l3)) 95 (sS x0a x0n x0c)) 96 (sI x12)) 97 (sQ b4 (o5 + Int.toNat x12 * 5))) 98 (sA l6)) 99 (sQ b7 (o8 + Int.toNat x12 * 5))) 100 (sQ b10 (o11 + Int.toNat x13 * 5))) V0 h12))))))))))))))) := by kernel_rfl
theorem F163_r6 : R163 [1, 1, 1, 1, 1, 1, 1, 0] 3 (upd e 12 (sI x12)) V0 hp K =
    (K (upd (upd (upd (upd e 12 (sI x12)) 101 (sI x12)) 102 (sI ((wr (x12 + 1))))) 12 (sI ((wr (x12 + 1))))) V0 hp) := by kernel_rfl
theorem F163_r7 : R163 [1, 1, 1, 1, 1, 1, 1, 1, 1, 1, 0] 16 (upd (upd (upd e 13 (sI x13)) 1 (sI x1)) 0 (sS x0a x0n x0c)) V0 hp K =
    ((0 ≤ x1) ∧ (x1 < x0n) ∧ (ptrN x0a fun b1 o2 => (ldL (HP.cellN hp b1 (o2 + Int.toNat x1 * 5) 5) fun l3 => ((0 ≤ x13) ∧ (x13 < x0n) ∧ (ptrN x0a fun b4 o5 => (ldL (HP.cellN hp b4 (o5 + Int.toNat x13 * 5) 5) fun l6 => ((0 ≤ x13) ∧ (x13 < x0n) ∧ (ptrN x0a fun b7 o8 => ((List.length l3 = 5) ∧ (HP.stN hp b7 (o8 + Int.toNat x13 * 5) l3 fun h9 => ((0 ≤ x1) ∧ (x1 < x0n) ∧ (ptrN x0a fun b10 o11 => ((List.length l6 = 5) ∧ (HP.stN h9 b10 (o11 + Int.toNat x1 * 5) l6 fun h12 => (K (upd (upd (upd (upd (upd (upd (upd (upd (upd (upd (upd (upd (upd (upd (upd (upd (upd e 13 (sI x13)) 1 (sI x1)) 0 (sS x0a x0n x0c)) 163 (sS x0a x0n x0c)) 164 (sI x13)) 165 (sS x0a x0n x0c)) 166 (sI x1)) 167 (sS x0a x0n x0c)) 168 (sI x1)) 169 (sQ b1 (o2 + Int.toNat x1 * 5))) 170 (sA l3)) 171 (sS x0a x0n x0c)) 172 (sI x13)) 173 (sQ b4 (o5 + Int.toNat x13 * 5))) 174 (sA l6)) 175 (sQ b7 (o8 + Int.toNat x13 * 5))) 176 (sQ b10 (o11 + Int.toNat x1 * 5))) V0 h12))))))))))))))) := by kernel_rfl
theorem F163_r8 : R163 [1, 1, 1, 1, 1, 1, 1, 1, 1, 1, 1, 0] 3 (upd e 13 (sI x13)) V0 hp K =
    (K (upd (upd (upd (upd e 13 (sI x13)) 177 (sI x13)) 10 (sI x13)) 11 (sB false)) V0 hp) := by kernel_rfl
def F163_j5 (x0a : Option Addr) (x0n : Nat) (x0c : Nat) (x1 : Int) (x13 : Int) (hp : HP) (K : Value → HP → Prop) : Prop :=
  ((0 ≤ x1) ∧ (x1 < x0n) ∧ (ptrN x0a fun b_37 o_38 => (ldL (HP.cellN hp b_37 (o_38 + Int.toNat x1 * 5) 5) fun l_39 => ((0 ≤ x13) ∧ (x13 < x0n) ∧ (ptrN x0a fun b_40 o_41 => (ldL (HP.cellN hp b_40 (o_41 + Int.toNat x13 * 5) 5) fun l_42 => ((0 ≤ x13) ∧ (x13 < x0n) ∧ (ptrN x0a fun b_43 o_44 => ((List.length l_39 = 5) ∧ (HP.stN hp b_43 (o_44 + Int.toNat x13 * 5) l_39 fun h_45 => ((0 ≤ x1) ∧ (x1 < x0n) ∧ (ptrN x0a fun b_46 o_47 => ((List.length l_42 = 5) ∧ (HP.stN h_45 b_46 (o_47 + Int.toNat x1 * 5) l_42 fun h_48 => (K (.tuple ⟨[(.int .i64 x13), .bool false]⟩) h_48)))))))))))))))
theorem F163_r9 : R163 [1, 1, 1, 1, 1, 1, 1, 1, 1, 0, 0, 0, 0, 1, 1, 0, 0] 3 (upd (upd e 13 (sI x13)) 12 (sI x12)) V0 hp K =
    (K (upd (upd (upd (upd (upd e 13 (sI x13)) 12 (sI x12)) 142 (sI x12)) 143 (sI x13)) 144 (sB (decide (x12 > x13)))) V0 hp) := by kernel_rfl
theorem F163_r10 : R163 [1, 1, 1, 1, 1, 1, 1, 1, 1, 0, 0, 0, 0, 1, 1, 1, 0] 16 (upd (upd (upd e 13 (sI x13)) 12 (sI x12)) 0 (sS x0a x0n x0c)) V0 hp K =
    ((0 ≤ x13) ∧ (x13 < x0n) ∧ (ptrN x0a fun b1 o2 => (ldL (HP.cellN hp b1 (o2 + Int.toNat x13 * 5) 5) fun l3 => ((0 ≤ x12) ∧ (x12 < x0n) ∧ (ptrN x0a fun b4 o5 => (ldL (HP.cellN hp b4 (o5 + Int.toNat x12 * 5) 5) fun l6 => ((0 ≤ x12) ∧ (x12 < x0n) ∧ (ptrN x0a fun b7 o8 => ((List.length l3 = 5) ∧ (HP.stN hp b7 (o8 + Int.toNat x12 * 5) l3 fun h9 => ((0 ≤ x13) ∧ (x13 < x0n) ∧ (ptrN x0a fun b10 o11 => ((List.length l6 = 5) ∧ (HP.stN h9 b10 (o11 + Int.toNat x13 * 5) l6 fun h12 => (K (upd (upd (upd (upd (upd (upd (upd (upd (upd (upd (upd (upd (upd (upd (upd (upd (upd e 13 (sI x13)) 12 (sI x12)) 0 (sS x0a x0n x0c)) 145 (sS x0a x0n x0c)) 146 (sI x12)) 147 (sS x0a x0n x0c)) 148 (sI x13)) 149 (sS x0a x0n x0c)) 150 (sI x13)) 151 (sQ b1 (o2 + Int.toNat x13 * 5))) 152 (sA l3)) 153 (sS x0a x0n x0c)) 154 (sI x12)) 155 (sQ b4 (o5 + Int.toNat x12 * 5))) 156 (sA l6)) 157 (sQ b7 (o8 + Int.toNat x12 * 5))) 158 (sQ b10 (o11 + Int.toNat x13 * 5))) V0 h12))))))))))))))) := by kernel_rfl
theorem F163_r11 : R163 [1, 1, 1, 1, 1, 1, 1, 1, 1, 0, 0, 0, 0, 1, 1, 1, 1, 0] 3 (upd e 12 (sI x12)) V0 hp K =
    (K (upd (upd (upd (upd e 12 (sI x12)) 159 (sI x12)) 160 (sI ((wr (x12 + 1))))) 12 (sI ((wr (x12 + 1))))) V0 hp) := by kernel_rfl
theorem F163_r12 : R163 [1, 1, 1, 1, 1, 1, 1, 1, 1, 0, 0, 0, 0, 1, 1, 1, 1, 1] 3 (upd e 13 (sI x13)) V0 hp K =
    (K (upd (upd (upd (upd e 13 (sI x13)) 161 (sI x13)) 162 (sI ((wr (x13 - 1))))) 13 (sI ((wr (x13 - 1))))) V0 hp) := by kernel_rfl
def F163_j8 (x0a : Option Addr) (x0n : Nat) (x0c : Nat) (x1 : Int) (x4 : Value) (x12 : Int) (x13 : Int) (hp : HP) (I6 : (Int × Int) → HP → Prop) (K : Value → HP → Prop) : Prop :=
  (ite2 (decide (x12 > x13)) (F163_j5 x0a x0n x0c x1 x13 hp  K) ((0 ≤ x13) ∧ (x13 < x0n) ∧ (ptrN x0a fun b_49 o_50 => (ldL (HP.cellN hp b_49 (o_50 + Int.toNat x13 * 5) 5) fun l_51 => ((0 ≤ x12) ∧ (x12 < x0n) ∧ (ptrN x0a fun b_52 o_53 => (ldL (HP.cellN hp b_52 (o_53 + Int.toNat x12 * 5) 5) fun l_54 => ((0 ≤ x12) ∧ (x12 < x0n) ∧ (ptrN x0a fun b_55 o_56 => ((List.length l_51 = 5) ∧ (HP.stN hp b_55 (o_56 + Int.toNat x12 * 5) l_51 fun h_57 => ((0 ≤ x13) ∧ (x13 < x0n) ∧ (ptrN x0a fun b_58 o_59 => ((List.length l_54 = 5) ∧ (HP.stN h_57 b_58 (o_59 + Int.toNat x13 * 5) l_54 fun h_60 => (I6 ((IntKind.wrap .i64 (x12 + 1)), (IntKind.wrap .i64 (x13 - 1))) h_60))))))))))))))))
theorem F163_r13 : R163 [1, 1, 1, 1, 1, 1, 1, 1, 1, 0, 0, 0, 0, 1, 0, 0, 0, 1, 0] 3 (upd e 13 (sI x13)) V0 hp K =
    (K (upd (upd (upd (upd e 13 (sI x13)) 140 (sI x13)) 141 (sI ((wr (x13 - 1))))) 13 (sI ((wr (x13 - 1))))) V0 hp) := by kernel_rfl
def F163_j10 (x0a : Option Addr) (x0n : Nat) (x0c : Nat) (x1 : Int) (x4 : Value) (x12 : Int) (x13 : Int) (x139 : Bool) (hp : HP) (I6 : (Int × Int) → HP → Prop) (I9 : (Int) → HP → Prop) (K : Value → HP → Prop) : Prop :=
  (ite2 x139 (I9 (IntKind.wrap .i64 (x13 - 1)) hp) (F163_j8 x0a x0n x0c x1 x4 x12 x13 hp I6 K))
theorem F163_r14 : R163 [1, 1, 1, 1, 1, 1, 1, 1, 1, 0, 0, 0, 0, 1, 0, 0, 0, 0, 0] 17 (upd (upd (upd (upd (upd e 13 (sI x13)) 12 (sI x12)) 4 (sV x4)) 1 (sI x1)) 0 (sS x0a x0n x0c)) V0 hp K =
    (ite2 (decide (x12 ≤ x13)) ((0 ≤ x13) ∧ (x13 < x0n) ∧ (ptrN x0a fun b1 o2 => (ldL (HP.cellN hp b1 (o2 + Int.toNat x13 * 5) 5) fun l3 => ((0 ≤ x1) ∧ (x1 < x0n) ∧ (ptrN x0a fun b4 o5 => (ldL (HP.cellN hp b4 (o5 + Int.toNat x1 * 5) 5) fun l6 => (fnV x4 fun f7 ga8 gb9 => (CF Try.prog f7 (ga8 ++ [(Value.agg ⟨l3⟩), (.agg ⟨l6⟩)] ++ gb9) hp fun u10 h11 => (intV u10 .i64 fun i12 => (K (upd (upd (upd (upd (upd (upd (upd (upd (upd (upd (upd (upd (upd (upd (upd (upd (upd (upd (upd (upd (upd (upd e 13 (sI x13)) 12 (sI x12)) 4 (sV x4)) 1 (sI x1)) 0 (sS x0a x0n x0c)) 123 (sI x12)) 124 (sI x13)) 125 (sB (decide (x12 ≤ x13)))) 126 (sB true)) 127 (sV x4)) 128 (sS x0a x0n x0c)) 129 (sI x13)) 130 (sQ b1 (o2 + Int.toNat x13 * 5))) 131 (sA l3)) 132 (sS x0a x0n x0c)) 133 (sI x1)) 134 (sQ b4 (o5 + Int.toNat x1 * 5))) 135 (sA l6)) 136 (sI i12)) 137 (sB (decide (i12 < 0)))) 138 (sB ((!(decide (i12 < 0)))))) 139 (sB ((!(decide (i12 < 0)))))) V0 h11)))))))))) (K (upd (upd (upd (upd (upd (upd (upd (upd (upd (upd (upd (upd (upd (upd (upd (upd (upd (upd (upd (upd (upd (upd e 13 (sI x13)) 12 (sI x12)) 4 (sV x4)) 1 (sI x1)) 0 (sS x0a x0n x0c)) 123 (sI x12)) 124 (sI x13)) 125 (sB (decide (x12 ≤ x13)))) 126 (sB false)) 127 sU) 128 sU) 129 sU) 130 sU) 131 sU) 132 sU) 133 sU) 134 sU) 135 sU) 136 sU) 137 sU) 138 sU) 139 (sB false)) V0 hp)) := by kernel_rfl
def F163_l9 (x0a : Option Addr) (x0n : Nat) (x0c : Nat) (x1 : Int) (x4 : Value) (x12 : Int) (I6 : (Int × Int) → HP → Prop) (K : Value → HP → Prop) (I9 : (Int) → HP → Prop) (x13 : Int) (hp : HP) : Prop :=
  (ite2 (decide (x12 ≤ x13)) ((0 ≤ x13) ∧ (x13 < x0n) ∧ (ptrN x0a fun b_61 o_62 => (ldL (HP.cellN hp b_61 (o_62 + Int.toNat x13 * 5) 5) fun l_63 => ((0 ≤ x1) ∧ (x1 < x0n) ∧ (ptrN x0a fun b_64 o_65 => (ldL (HP.cellN hp b_64 (o_65 + Int.toNat x1 * 5) 5) fun l_66 => (fnV x4 fun f_67 ga_68 gb_69 => (CF Try.prog f_67 (ga_68 ++ [(Value.agg ⟨l_63⟩), (.agg ⟨l_66⟩)] ++ gb_69) hp fun u_70 h_71 => (intV u_70 .i64 fun i_72 => (F163_j10 x0a x0n x0c x1 x4 x12 x13 (!(decide (i_72 < 0))) h_71 I6 I9 K)))))))))) (F163_j10 x0a x0n x0c x1 x4 x12 x13 false hp I6 I9 K))
def F163_j7 (x0a : Option Addr) (x0n : Nat) (x0c : Nat) (x1 : Int) (x4 : Value) (x12 : Int) (x13 : Int) (hp : HP) (I6 : (Int × Int) → HP → Prop) (K : Value → HP → Prop) : Prop :=
  (LoopP (σ := Int) (fun I s hp => F163_l9 x0a x0n x0c x1 x4 x12 I6 K I s hp) x13 hp)
theorem F163_r15 : R163 [1, 1, 1, 1, 1, 1, 1, 1, 1, 0, 0, 0, 0, 0, 0, 0, 1, 0] 3 (upd e 12 (sI x12)) V0 hp K =
    (K (upd (upd (upd (upd e 12 (sI x12)) 121 (sI x12)) 122 (sI ((wr (x12 + 1))))) 12 (sI ((wr (x12 + 1))))) V0 hp) := by kernel_rfl
def F163_j12 (x0a : Option Addr) (x0n : Nat) (x0c : Nat) (x1 : Int) (x4 : Value) (x12 : Int) (x13 : Int) (x120 : Bool) (hp : HP) (I6 : (Int × Int) → HP → Prop) (I11 : (Int) → HP → Prop) (K : Value → HP → Prop) : Prop :=
  (ite2 x120 (I11 (IntKind.wrap .i64 (x12 + 1)) hp) (F163_j7 x0a x0n x0c x1 x4 x12 x13 hp I6 K))
theorem F163_r16 : R163 [1, 1, 1, 1, 1, 1, 1, 1, 1, 0, 0, 0, 0, 0, 0, 0, 0, 0] 16 (upd (upd (upd (upd (upd e 13 (sI x13)) 12 (sI x12)) 4 (sV x4)) 1 (sI x1)) 0 (sS x0a x0n x0c)) V0 hp K =
    (ite2 (decide (x12 ≤ x13)) ((0 ≤ x12) ∧ (x12 < x0n) ∧ (ptrN x0a fun b1 o2 => (ldL (HP.cellN hp b1 (o2 + Int.toNat x12 * 5) 5) fun l3 => ((0 ≤ x1) ∧ (x1 < x0n) ∧ (ptrN x0a fun b4 o5 => (ldL (HP.cellN hp b4 (o5 + Int.toNat x1 * 5) 5) fun l6 => (fnV x4 fun f7 ga8 gb9 => (CF Try.prog f7 (ga8 ++ [(Value.agg ⟨l3⟩), (.agg ⟨l6⟩)] ++ gb9) hp fun u10 h11 => (intV u10 .i64 fun i12 => (K (upd (upd (upd (upd (upd (upd (upd (upd (upd (upd (upd (upd (upd (upd (upd (upd (upd (upd (upd (upd (upd e 13 (sI x13)) 12 (sI x12)) 4 (sV x4)) 1 (sI x1)) 0 (sS x0a x0n x0c)) 105 (sI x12)) 106 (sI x13)) 107 (sB (decide (x12 ≤ x13)))) 108 (sB true)) 109 (sV x4)) 110 (sS x0a x0n x0c)) 111 (sI x12)) 112 (sQ b1 (o2 + Int.toNat x12 * 5))) 113 (sA l3)) 114 (sS x0a x0n x0c)) 115 (sI x1)) 116 (sQ b4 (o5 + Int.toNat x1 * 5))) 117 (sA l6)) 118 (sI i12)) 119 (sB (decide (i12 < 0)))) 120 (sB (decide (i12 < 0)))) V0 h11)))))))))) (K (upd (upd (upd (upd (upd (upd (upd (upd (upd (upd (upd (upd (upd (upd (upd (upd (upd (upd (upd (upd (upd e 13 (sI x13)) 12 (sI x12)) 4 (sV x4)) 1 (sI x1)) 0 (sS x0a x0n x0c)) 105 (sI x12)) 106 (sI x13)) 107 (sB (decide (x12 ≤ x13)))) 108 (sB false)) 109 sU) 110 sU) 111 sU) 112 sU) 113 sU) 114 sU) 115 sU) 116 sU) 117 sU) 118 sU) 119 sU) 120 (sB false)) V0 hp)) := by kernel_rfl
def F163_l11 (x0a : Option Addr) (x0n : Nat) (x0c : Nat) (x1 : Int) (x4 : Value) (x13 : Int) (I6 : (Int × Int) → HP → Prop) (K : Value → HP → Prop) (I11 : (Int) → HP → Prop) (x12 : Int) (hp : HP) : Prop :=
  (ite2 (decide (x12 ≤ x13)) ((0 ≤ x12) ∧ (x12 < x0n) ∧ (ptrN x0a fun b_73 o_74 => (ldL (HP.cellN hp b_73 (o_74 + Int.toNat x12 * 5) 5) fun l_75 => ((0 ≤ x1) ∧ (x1 < x0n) ∧ (ptrN x0a fun b_76 o_77 => (ldL (HP.cellN hp b_76 (o_77 + Int.toNat x1 * 5) 5) fun l_78 => (fnV x4 fun f_79 ga_80 gb_81 => (CF Try.prog f_79 (ga_80 ++ [(Value.agg ⟨l_75⟩), (.agg ⟨l_78⟩)] ++ gb_81) hp fun u_82 h_83 => (intV u_82 .i64 fun i_84 => (F163_j12 x0a x0n x0c x1 x4 x12 x13 (decide (i_84 < 0)) h_83 I6 I11 K)))))))))) (F163_j12 x0a x0n x0c x1 x4 x12 x13 false hp I6 I11 K))
def F163_l6 (x0a : Option Addr) (x0n : Nat) (x0c : Nat) (x1 : Int) (x4 : Value) (K : Value → HP → Prop) (I6 : (Int × Int) → HP → Prop) (x12 : Int) (x13 : Int) (hp : HP) : Prop :=
  (LoopP (σ := Int) (fun I s hp => F163_l11 x0a x0n x0c x1 x4 x13 I6 K I s hp) x12 hp)
def F163_j4 (x0a : Option Addr) (x0n : Nat) (x0c : Nat) (x1 : Int) (x4 : Value) (x12 : Int) (x13 : Int) (hp : HP) (K : Value → HP → Prop) : Prop :=
  (LoopP (σ := Int × Int) (fun I s hp => F163_l6 x0a x0n x0c x1 x4  K I s.1 s.2 hp) (x12, x13) hp)
theorem F163_r17 : R163 [1, 1, 1, 1, 1, 1, 1, 1, 0] 3 (upd e 13 (sI x13)) V0 hp K =
    (K (upd (upd (upd (upd e 13 (sI x13)) 103 (sI x13)) 104 (sI ((wr (x13 - 1))))) 13 (sI ((wr (x13 - 1))))) V0 hp) := by kernel_rfl
def F163_j3 (x0a : Option Addr) (x0n : Nat) (x0c : Nat) (x1 : Int) (x4 : Value) (x12 : Int) (x13 : Int) (hp : HP) (K : Value → HP → Prop) : Prop :=
  (ite2 (decide (x12 > x13)) ((0 ≤ x1) ∧ (x1 < x0n) ∧ (ptrN x0a fun b_13 o_14 => (ldL (HP.cellN hp b_13 (o_14 + Int.toNat x1 * 5) 5) fun l_15 => ((0 ≤ x13) ∧ (x13 < x0n) ∧ (ptrN x0a fun b_16 o_17 => (ldL (HP.cellN hp b_16 (o_17 + Int.toNat x13 * 5) 5) fun l_18 => ((0 ≤ x13) ∧ (x13 < x0n) ∧ (ptrN x0a fun b_19 o_20 => ((List.length l_15 = 5) ∧ (HP.stN hp b_19 (o_20 + Int.toNat x13 * 5) l_15 fun h_21 => ((0 ≤ x1) ∧ (x1 < x0n) ∧ (ptrN x0a fun b_22 o_23 => ((List.length l_18 = 5) ∧ (HP.stN h_21 b_22 (o_23 + Int.toNat x1 * 5) l_18 fun h_24 => (K (.tuple ⟨[(.int .i64 x13), (.bool true)]⟩) h_24))))))))))))))) ((0 ≤ x13) ∧ (x13 < x0n) ∧ (ptrN x0a fun b_25 o_26 => (ldL (HP.cellN hp b_25 (o_26 + Int.toNat x13 * 5) 5) fun l_27 => ((0 ≤ x12) ∧ (x12 < x0n) ∧ (ptrN x0a fun b_28 o_29 => (ldL (HP.cellN hp b_28 (o_29 + Int.toNat x12 * 5) 5) fun l_30 => ((0 ≤ x12) ∧ (x12 < x0n) ∧ (ptrN x0a fun b_31 o_32 => ((List.length l_27 = 5) ∧ (HP.stN hp b_31 (o_32 + Int.toNat x12 * 5) l_27 fun h_33 => ((0 ≤ x13) ∧ (x13 < x0n) ∧ (ptrN x0a fun b_34 o_35 => ((List.length l_30 = 5) ∧ (HP.stN h_33 b_34 (o_35 + Int.toNat x13 * 5) l_30 fun h_36 => (F163_j4 x0a x0n x0c x1 x4 (IntKind.wrap .i64 (x12 + 1)) (IntKind.wrap .i64 (x13 - 1)) h_36  K))))))))))))))))
theorem F163_r18 : R163 [1, 1, 1, 1, 0, 0, 0, 1, 0] 3 (upd e 13 (sI x13)) V0 hp K =
    (K (upd (upd (upd (upd e 13 (sI x13)) 67 (sI x13)) 68 (sI ((wr (x13 - 1))))) 13 (sI ((wr (x13 - 1))))) V0 hp) := by kernel_rfl
def F163_j14 (x0a : Option Addr) (x0n : Nat) (x0c : Nat) (x1 : Int) (x4 : Value) (x12 : Int) (x13 : Int) (x66 : Bool) (hp : HP) (I13 : (Int) → HP → Prop) (K : Value → HP → Prop) : Prop :=
  (ite2 x66 (I13 (IntKind.wrap .i64 (x13 - 1)) hp) (F163_j3 x0a x0n x0c x1 x4 x12 x13 hp  K))
theorem F163_r19 : R163 [1, 1, 1, 1, 0, 0, 0, 0, 0] 17 (upd (upd (upd (upd (upd e 13 (sI x13)) 12 (sI x12)) 4 (sV x4)) 1 (sI x1)) 0 (sS x0a x0n x0c)) V0 hp K =
    (ite2 (decide (x12 ≤ x13)) ((0 ≤ x13) ∧ (x13 < x0n) ∧ (ptrN x0a fun b1 o2 => (ldL (HP.cellN hp b1 (o2 + Int.toNat x13 * 5) 5) fun l3 => ((0 ≤ x1) ∧ (x1 < x0n) ∧ (ptrN x0a fun b4 o5 => (ldL (HP.cellN hp b4 (o5 + Int.toNat x1 * 5) 5) fun l6 => (fnV x4 fun f7 ga8 gb9 => (CF Try.prog f7 (ga8 ++ [(Value.agg ⟨l3⟩), (.agg ⟨l6⟩)] ++ gb9) hp fun u10 h11 => (intV u10 .i64 fun i12 => (K (upd (upd (upd (upd (upd (upd (upd (upd (upd (upd (upd (upd (upd (upd (upd (upd (upd (upd (upd (upd (upd (upd e 13 (sI x13)) 12 (sI x12)) 4 (sV x4)) 1 (sI x1)) 0 (sS x0a x0n x0c)) 50 (sI x12)) 51 (sI x13)) 52 (sB (decide (x12 ≤ x13)))) 53 (sB true)) 54 (sV x4)) 55 (sS x0a x0n x0c)) 56 (sI x13)) 57 (sQ b1 (o2 + Int.toNat x13 * 5))) 58 (sA l3)) 59 (sS x0a x0n x0c)) 60 (sI x1)) 61 (sQ b4 (o5 + Int.toNat x1 * 5))) 62 (sA l6)) 63 (sI i12)) 64 (sB (decide (i12 < 0)))) 65 (sB ((!(decide (i12 < 0)))))) 66 (sB ((!(decide (i12 < 0)))))) V0 h11)))))))))) (K (upd (upd (upd (upd (upd (upd (upd (upd (upd (upd (upd (upd (upd (upd (upd (upd (upd (upd (upd (upd (upd (upd e 13 (sI x13)) 12 (sI x12)) 4 (sV x4)) 1 (sI x1)) 0 (sS x0a x0n x0c)) 50 (sI x12)) 51 (sI x13)) 52 (sB (decide (x12 ≤ x13)))) 53 (sB false)) 54 sU) 55 sU) 56 sU) 57 sU) 58 sU) 59 sU) 60 sU) 61 sU) 62 sU) 63 sU) 64 sU) 65 sU) 66 (sB false)) V0 hp)) := by kernel_rfl
def F163_l13 (x0a : Option Addr) (x0n : Nat) (x0c : Nat) (x1 : Int) (x4 : Value) (x12 : Int) (K : Value → HP → Prop) (I13 : (Int) → HP → Prop) (x13 : Int) (hp : HP) : Prop :=
  (ite2 (decide (x12 ≤ x13)) ((0 ≤ x13) ∧ (x13 < x0n) ∧ (ptrN x0a fun b_85 o_86 => (ldL (HP.cellN hp b_85 (o_86 + Int.toNat x13 * 5) 5) fun l_87 => ((0 ≤ x1) ∧ (x1 < x0n) ∧ (ptrN x0a fun b_88 o_89 => (ldL (HP.cellN hp b_88 (o_89 + Int.toNat x1 * 5) 5) fun l_90 => (fnV x4 fun f_91 ga_92 gb_93 => (CF Try.prog f_91 (ga_92 ++ [(Value.agg ⟨l_87⟩), (.agg ⟨l_90⟩)] ++ gb_93) hp fun u_94 h_95 => (intV u_94 .i64 fun i_96 => (F163_j14 x0a x0n x0c x1 x4 x12 x13 (!(decide (i_96 < 0))) h_95 I13 K)))))))))) (F163_j14 x0a x0n x0c x1 x4 x12 x13 false hp I13 K))
def F163_j2 (x0a : Option Addr) (x0n : Nat) (x0c : Nat) (x1 : Int) (x4 : Value) (x12 : Int) (x13 : Int) (hp : HP) (K : Value → HP → Prop) : Prop :=
  (LoopP (σ := Int) (fun I s hp => F163_l13 x0a x0n x0c x1 x4 x12  K I s hp) x13 hp)
theorem F163_r20 : R163 [1, 1, 1, 0, 0, 0, 1, 0] 3 (upd e 12 (sI x12)) V0 hp K =
    (K (upd (upd (upd (upd e 12 (sI x12)) 48 (sI x12)) 49 (sI ((wr (x12 + 1))))) 12 (sI ((wr (x12 + 1))))) V0 hp) := by kernel_rfl
def F163_j16 (x0a : Option Addr) (x0n : Nat) (x0c : Nat) (x1 : Int) (x4 : Value) (x12 : Int) (x13 : Int) (x47 : Bool) (hp : HP) (I15 : (Int) → HP → Prop) (K : Value → HP → Prop) : Prop :=
  (ite2 x47 (I15 (IntKind.wrap .i64 (x12 + 1)) hp) (F163_j2 x0a x0n x0c x1 x4 x12 x13 hp  K))
theorem F163_r21 : R163 [1, 1, 1, 0, 0, 0, 0, 0] 16 (upd (upd (upd (upd (upd e 13 (sI x13)) 12 (sI x12)) 4 (sV x4)) 1 (sI x1)) 0 (sS x0a x0n x0c)) V0 hp K =
    (ite2 (decide (x12 ≤ x13)) ((0 ≤ x12) ∧ (x12 < x0n) ∧ (ptrN x0a fun b1 o2 => (ldL (HP.cellN hp b1 (o2 + Int.toNat x12 * 5) 5) fun l3 => ((0 ≤ x1) ∧ (x1 < x0n) ∧ (ptrN x0a fun b4 o5 => (ldL (HP.cellN hp b4 (o5 + Int.toNat x1 * 5) 5) fun l6 => (fnV x4 fun f7 ga8 gb9 => (CF Try.prog f7 (ga8 ++ [(Value.agg ⟨l3⟩), (.agg ⟨l6⟩)] ++ gb9) hp fun u10 h11 => (intV u10 .i64 fun i12 => (K (upd (upd (upd (upd (upd (upd (upd (upd (upd (upd (upd (upd (upd (upd (upd (upd (upd (upd (upd (upd (upd e 13 (sI x13)) 12 (sI x12)) 4 (sV x4)) 1 (sI x1)) 0 (sS x0a x0n x0c)) 32 (sI x12)) 33 (sI x13)) 34 (sB (decide (x12 ≤ x13)))) 35 (sB true)) 36 (sV x4)) 37 (sS x0a x0n x0c)) 38 (sI x12)) 39 (sQ b1 (o2 + Int.toNat x12 * 5))) 40 (sA l3)) 41 (sS x0a x0n x0c)) 42 (sI x1)) 43 (sQ b4 (o5 + Int.toNat x1 * 5))) 44 (sA l6)) 45 (sI i12)) 46 (sB (decide (i12 < 0)))) 47 (sB (decide (i12 < 0)))) V0 h11)))))))))) (K (upd (upd (upd (upd (upd (upd (upd (upd (upd (upd (upd (upd (upd (upd (upd (upd (upd (upd (upd (upd (upd e 13 (sI x13)) 12 (sI x12)) 4 (sV x4)) 1 (sI x1)) 0 (sS x0a x0n x0c)) 32 (sI x12)) 33 (sI x13)) 34 (sB (decide (x12 ≤ x13)))) 35 (sB false)) 36 sU) 37 sU) 38 sU) 39 sU) 40 sU) 41 sU) 42 sU) 43 sU) 44 sU) 45 sU) 46 sU) 47 (sB false)) V0 hp)) := by kernel_rfl
def F163_l15 (x0a : Option Addr) (x0n : Nat) (x0c : Nat) (x1 : Int) (x4 : Value) (x13 : Int) (K : Value → HP → Prop) (I15 : (Int) → HP → Prop) (x12 : Int) (hp : HP) : Prop :=
  (ite2 (decide (x12 ≤ x13)) ((0 ≤ x12) ∧ (x12 < x0n) ∧ (ptrN x0a fun b_97 o_98 => (ldL (HP.cellN hp b_97 (o_98 + Int.toNat x12 * 5) 5) fun l_99 => ((0 ≤ x1) ∧ (x1 < x0n) ∧ (ptrN x0a fun b_100 o_101 => (ldL (HP.cellN hp b_100 (o_101 + Int.toNat x1 * 5) 5) fun l_102 => (fnV x4 fun f_103 ga_104 gb_105 => (CF Try.prog f_103 (ga_104 ++ [(Value.agg ⟨l_99⟩), (.agg ⟨l_102⟩)] ++ gb_105) hp fun u_106 h_107 => (intV u_106 .i64 fun i_108 => (F163_j16 x0a x0n x0c x1 x4 x12 x13 (decide (i_108 < 0)) h_107 I15 K)))))))))) (F163_j16 x0a x0n x0c x1 x4 x12 x13 false hp I15 K))
def F163_j1 (x0a : Option Addr) (x0n : Nat) (x0c : Nat) (x1 : Int) (x4 : Value) (x12 : Int) (x13 : Int) (hp : HP) (K : Value → HP → Prop) : Prop :=
  (LoopP (σ := Int) (fun I s hp => F163_l15 x0a x0n x0c x1 x4 x13  K I s hp) x12 hp)
theorem F163_r22 : R163 [1, 1, 0] 6 (upd (upd e 2 (sI x2)) 1 (sI x1)) V0 hp K =
    (K (upd (upd (upd (upd (upd (upd (upd (upd e 2 (sI x2)) 1 (sI x1)) 28 (sI x1)) 29 (sI ((wr (x1 + 1))))) 30 (sI x2)) 31 (sI ((wr (x2 - 1))))) 12 (sI ((wr (x1 + 1))))) 13 (sI ((wr (x2 - 1))))) V0 hp) := by kernel_rfl
def F163 (x0a : Option Addr) (x0n : Nat) (x0c : Nat) (x1 : Int) (x2 : Int) (x3 : Int) (x4 : Value) (hp : HP) (K : Value → HP → Prop) : Prop :=
  ((0 ≤ x3) ∧ (x3 < x0n) ∧ (ptrN x0a fun b_1 o_2 => (ldL (HP.cellN hp b_1 (o_2 + Int.toNat x3 * 5) 5) fun l_3 => ((0 ≤ x1) ∧ (x1 < x0n) ∧ (ptrN x0a fun b_4 o_5 => (ldL (HP.cellN hp b_4 (o_5 + Int.toNat x1 * 5) 5) fun l_6 => ((0 ≤ x1) ∧ (x1 < x0n) ∧ (ptrN x0a fun b_7 o_8 => ((List.length l_3 = 5) ∧ (HP.stN hp b_7 (o_8 + Int.toNat x1 * 5) l_3 fun h_9 => ((0 ≤ x3) ∧ (x3 < x0n) ∧ (ptrN x0a fun b_10 o_11 => ((List.length l_6 = 5) ∧ (HP.stN h_9 b_10 (o_11 + Int.toNat x3 * 5) l_6 fun h_12 => (F163_j1 x0a x0n x0c x1 x4 (IntKind.wrap .i64 (x1 + 1)) (IntKind.wrap .i64 (x2 - 1)) h_12  K)))))))))))))))
noncomputable def F163_code : Code := (.seq (.region 0 (opsAt Try.f163 [0]) false) (.seq (.region 1 (opsAt Try.f163 [1, 0]) true) (.seq (.region 2 (opsAt Try.f163 [1, 1, 0]) false) (.seq (.block 0 (.loop (.seq (.seq (.region 3 (opsAt Try.f163 [1, 1, 1, 0, 0, 0, 0, 0]) true) (.cond (.tmp 47) .skip (.exit 0))) (.block 1 (.region 4 (opsAt Try.f163 [1, 1, 1, 0, 0, 0, 1, 0]) false))))) (.seq (.block 2 (.loop (.seq (.seq (.region 5 (opsAt Try.f163 [1, 1, 1, 1, 0, 0, 0, 0, 0]) true) (.cond (.tmp 66) .skip (.exit 2))) (.block 3 (.region 6 (opsAt Try.f163 [1, 1, 1, 1, 0, 0, 0, 1, 0]) false))))) (.seq (.seq (.region 7 (opsAt Try.f163 [1, 1, 1, 1, 1, 0, 0]) false) (.cond (.tmp 71) (.seq (.region 8 (opsAt Try.f163 [1, 1, 1, 1, 1, 0, 1, 0, 0]) true) (.seq (.region 9 (opsAt Try.f163 [1, 1, 1, 1, 1, 0, 1, 0, 1, 0]) false) .ret)) .skip)) (.seq (.region 10 (opsAt Try.f163 [1, 1, 1, 1, 1, 1, 0]) true) (.seq (.region 11 (opsAt Try.f163 [1, 1, 1, 1, 1, 1, 1, 0]) false) (.seq (.region 12 (opsAt Try.f163 [1, 1, 1, 1, 1, 1, 1, 1, 0]) false) (.seq (.block 4 (.loop (.block 5 (.seq (.block 6 (.loop (.seq (.seq (.region 13 (opsAt Try.f163 [1, 1, 1, 1, 1, 1, 1, 1, 1, 0, 0, 0, 0, 0, 0, 0, 0, 0]) true) (.cond (.tmp 120) .skip (.exit 6))) (.block 7 (.region 14 (opsAt Try.f163 [1, 1, 1, 1, 1, 1, 1, 1, 1, 0, 0, 0, 0, 0, 0, 0, 1, 0]) false))))) (.seq (.block 8 (.loop (.seq (.seq (.region 15 (opsAt Try.f163 [1, 1, 1, 1, 1, 1, 1, 1, 1, 0, 0, 0, 0, 1, 0, 0, 0, 0, 0]) true) (.cond (.tmp 139) .skip (.exit 8))) (.block 9 (.region 16 (opsAt Try.f163 [1, 1, 1, 1, 1, 1, 1, 1, 1, 0, 0, 0, 0, 1, 0, 0, 0, 1, 0]) false))))) (.seq (.seq (.region 17 (opsAt Try.f163 [1, 1, 1, 1, 1, 1, 1, 1, 1, 0, 0, 0, 0, 1, 1, 0, 0]) false) (.cond (.tmp 144) (.exit 4) .skip)) (.seq (.region 18 (opsAt Try.f163 [1, 1, 1, 1, 1, 1, 1, 1, 1, 0, 0, 0, 0, 1, 1, 1, 0]) true) (.seq (.region 19 (opsAt Try.f163 [1, 1, 1, 1, 1, 1, 1, 1, 1, 0, 0, 0, 0, 1, 1, 1, 1, 0]) false) (.region 20 (opsAt Try.f163 [1, 1, 1, 1, 1, 1, 1, 1, 1, 0, 0, 0, 0, 1, 1, 1, 1, 1]) false))))))))) (.seq (.region 21 (opsAt Try.f163 [1, 1, 1, 1, 1, 1, 1, 1, 1, 1, 0]) true) (.seq (.region 22 (opsAt Try.f163 [1, 1, 1, 1, 1, 1, 1, 1, 1, 1, 1, 0]) false) .ret))))))))))))
theorem F163_body : Try.f163.body = some F163_code := by kernel_rfl
theorem F163_ok (x0a : Option Addr) (x0n : Nat) (x0c : Nat) (x1 : Int) (x2 : Int) (x3 : Int) (x4 : Value) (hp : HP) (K : Value → HP → Prop) (h : F163 x0a x0n x0c x1 x2 x3 x4 hp K) : CF Try.prog 163 [(.slice x0a x0n x0c), (.int .i64 x1), (.int .i64 x2), (.int .i64 x3), x4] hp K := by
 refine .inl ⟨by kernel_rfl, AC.intro (N := 178) Try.func163 F163_body rfl (Nat.le_of_ble_eq_true rfl) ?_⟩
 unfold F163 at h
 unfold F163_code
 refine AWP.seq' ?_
 refine AWP.rgn (F163_r0 (upd (upd (upd (upd (upd E0 4 (sV x4)) 3 (sI x3)) 2 (sI x2)) 1 (sI x1)) 0 (sS x0a x0n x0c))  hp _) ?_ (Ru 0 (Ru 1 (Ru 2 (Ru 3 (Ru 4 Rn))))) (Sc rfl (Sc rfl (Sc rfl (Sc rfl (Sc rfl Sn))))) Sn
 refine AWP.seq' ?_
 refine AWP.rgnD (by kernel_rfl) (by kernel_rfl) (F163_r1 (upd (upd E0 4 (sV x4)) 2 (sI x2)) x0a x0n x0c x1 x3 hp _) ?_ (Ru 0 (Ru 1 (Ru 3 (Ru 2 (Ru 4 Rn))))) (Sc rfl (Sc rfl (Sc rfl (Sc rfl (Sc rfl Sn))))) Sn
 refine ⟨h.1, h.2.1, mN h.2.2 (fun b_1 o_2 h => mL h (fun l_3 h => ⟨h.1, h.2.1, mN h.2.2 (fun b_4 o_5 h => mL h (fun l_6 h => ⟨h.1, h.2.1, mN h.2.2 (fun b_7 o_8 h => ⟨h.1, mW h.2 (fun h_9 h => ⟨h.1, h.2.1, mN h.2.2 (fun b_10 o_11 h => ⟨h.1, mW h.2 fun h_12 h => ?_⟩)⟩)⟩)⟩))⟩))⟩
 refine AWP.seq (fun env pv hp => ∃ (x0a : Option Addr) (x0n : Nat) (x0c : Nat) (x1 : Int) (x4 : Value) (x12 : Int) (x13 : Int), Sub (upd (upd (upd (upd (upd E0 13 (sI x13)) 12 (sI x12)) 4 (sV x4)) 1 (sI x1)) 0 (sS x0a x0n x0c)) env ∧ Sub V0 pv ∧ (F163_j1 x0a x0n x0c x1 x4 x12 x13 hp  K)) ?_ ?_
 ·refine AWP.rgn (F163_r22 (upd (upd E0 4 (sV x4)) 0 (sS x0a x0n x0c)) x1 x2 h_12 _) ?_ (Ru 1 (Ru 2 (Ru 0 (Ru 4 Rn)))) (Sc rfl (Sc rfl (Sc rfl (Sc rfl Sn)))) Sn
  exact ⟨x0a, x0n, x0c, x1, x4, (wr (x1 + 1)), (wr (x2 - 1)), (Sc rfl (Sc rfl (Sc rfl (Sc rfl (Sc rfl Sn))))), Sn, h⟩
 ·rintro env pv hp ⟨x0a, x0n, x0c, x1, x4, x12, x13, he, hv, h⟩
  refine AWP.sub (env' := (upd (upd (upd (upd (upd E0 13 (sI x13)) 12 (sI x12)) 4 (sV x4)) 1 (sI x1)) 0 (sS x0a x0n x0c))) (pv' := V0) ?_ (Ru 0 (Ru 1 (Ru 4 (Ru 12 (Ru 13 Rn))))) he hv (HSub.refl _)
  clear he hv
  unfold F163_j1 at h
  refine AWP.seq (fun env pv hp => ∃ (x0a : Option Addr) (x0n : Nat) (x0c : Nat) (x1 : Int) (x4 : Value) (x12 : Int) (x13 : Int), Sub (upd (upd (upd (upd (upd E0 13 (sI x13)) 12 (sI x12)) 4 (sV x4)) 1 (sI x1)) 0 (sS x0a x0n x0c)) env ∧ Sub V0 pv ∧ (F163_j2 x0a x0n x0c x1 x4 x12 x13 hp  K)) ?_ ?_
  ·refine AWP.block ?_
   refine AWP.loop (σ := Int) (fun I s hp => F163_l15 x0a x0n x0c x1 x4 x13  K I s hp) (fun s => (upd (upd (upd (upd (upd E0 13 (sI x13)) 12 (sI s)) 4 (sV x4)) 1 (sI x1)) 0 (sS x0a x0n x0c))) (fun s => V0) x12 h (fun s => (Ru 0 (Ru 1 (Ru 4 (Ru 12 (Ru 13 Rn)))))) (Sc rfl (Sc rfl (Sc rfl (Sc rfl (Sc rfl Sn))))) Sn ?_
   intro I15 s hp h
   obtain ⟨x12, hs⟩ : ∃ x, x = s := ⟨s, rfl⟩
   subst hs
   replace h : F163_l15 x0a x0n x0c x1 x4 x13  K I15 x12 hp := h
   unfold F163_l15 at h
   refine AWP.seq' ?_
   refine AWP.seq (fun env pv hp => ∃ (x12 : Int) (x47 : Bool), Sub (upd (upd (upd (upd (upd (upd E0 47 (sB x47)) 13 (sI x13)) 12 (sI x12)) 4 (sV x4)) 1 (sI x1)) 0 (sS x0a x0n x0c)) env ∧ Sub V0 pv ∧ (F163_j16 x0a x0n x0c x1 x4 x12 x13 x47 hp I15 K)) ?_ ?_
   ·refine AWP.rgnD (by kernel_rfl) (by kernel_rfl) (F163_r21 E0 x0a x0n x0c x1 x4 x12 x13 hp _) ?_ (Ru 0 (Ru 1 (Ru 4 (Ru 12 (Ru 13 Rn))))) (Sc rfl (Sc rfl (Sc rfl (Sc rfl (Sc rfl Sn))))) Sn
    refine mt h (fun h => ?_) (fun h => ?_)
    ·refine ⟨h.1, h.2.1, mN h.2.2 (fun b_97 o_98 h => mL h (fun l_99 h => ⟨h.1, h.2.1, mN h.2.2 fun b_100 o_101 h => mL h fun l_102 h => mF h fun f_103 ga_104 gb_105 h => mC h fun u_106 h_107 h => mI h fun i_108 h => ?_⟩))⟩
     exact ⟨x12, (decide (i_108 < 0)), (Sc rfl (Sc rfl (Sc rfl (Sc rfl (Sc rfl (Sc rfl Sn)))))), Sn, h⟩
    ·exact ⟨x12, false, (Sc rfl (Sc rfl (Sc rfl (Sc rfl (Sc rfl (Sc rfl Sn)))))), Sn, h⟩
   ·rintro env pv hp ⟨x12, x47, he, hv, h⟩
    refine AWP.sub (env' := (upd (upd (upd (upd (upd (upd E0 47 (sB x47)) 13 (sI x13)) 12 (sI x12)) 4 (sV x4)) 1 (sI x1)) 0 (sS x0a x0n x0c))) (pv' := V0) ?_ (Ru 0 (Ru 1 (Ru 4 (Ru 12 (Ru 13 (Ru 47 Rn)))))) he hv (HSub.refl _)
    clear he hv
    unfold F163_j16 at h
    refine AWP.cond (t := x47) rfl (fun e => ?_) (fun e => ?_)
    ·replace h := ite2_t h e
     refine AWP.skip ?_
     refine AWP.block ?_
     refine AWP.rgn (F163_r20 (upd (upd (upd (upd E0 13 (sI x13)) 4 (sV x4)) 1 (sI x1)) 0 (sS x0a x0n x0c)) x12 hp _) ?_ (Ru 12 (Ru 0 (Ru 1 (Ru 4 (Ru 13 Rn))))) (Sc rfl (Sc rfl (Sc rfl (Sc rfl (Sc rfl Sn))))) Sn
     exact ⟨(wr (x12 + 1)), (Sc rfl (Sc rfl (Sc rfl (Sc rfl (Sc rfl Sn))))), Sn, h⟩
    ·replace h := ite2_f h e
     refine AWP.exit ?_
     exact ⟨x0a, x0n, x0c, x1, x4, x12, x13, (Sc rfl (Sc rfl (Sc rfl (Sc rfl (Sc rfl Sn))))), Sn, h⟩
  ·rintro env pv hp ⟨x0a, x0n, x0c, x1, x4, x12, x13, he, hv, h⟩
   refine AWP.sub (env' := (upd (upd (upd (upd (upd E0 13 (sI x13)) 12 (sI x12)) 4 (sV x4)) 1 (sI x1)) 0 (sS x0a x0n x0c))) (pv' := V0) ?_ (Ru 0 (Ru 1 (Ru 4 (Ru 12 (Ru 13 Rn))))) he hv (HSub.refl _)
   clear he hv
   unfold F163_j2 at h
   refine AWP.seq (fun env pv hp => ∃ (x0a : Option Addr) (x0n : Nat) (x0c : Nat) (x1 : Int) (x4 : Value) (x12 : Int) (x13 : Int), Sub (upd (upd (upd (upd (upd E0 13 (sI x13)) 12 (sI x12)) 4 (sV x4)) 1 (sI x1)) 0 (sS x0a x0n x0c)) env ∧ Sub V0 pv ∧ (F163_j3 x0a x0n x0c x1 x4 x12 x13 hp  K)) ?_ ?_
   ·refine AWP.block ?_
    refine AWP.loop (σ := Int) (fun I s hp => F163_l13 x0a x0n x0c x1 x4 x12  K I s hp) (fun s => (upd (upd (upd (upd (upd E0 13 (sI s)) 12 (sI x12)) 4 (sV x4)) 1 (sI x1)) 0 (sS x0a x0n x0c))) (fun s => V0) x13 h (fun s => (Ru 0 (Ru 1 (Ru 4 (Ru 12 (Ru 13 Rn)))))) (Sc rfl (Sc rfl (Sc rfl (Sc rfl (Sc rfl Sn))))) Sn ?_
    intro I13 s hp h
    obtain ⟨x13, hs⟩ : ∃ x, x = s := ⟨s, rfl⟩
    subst hs
    replace h : F163_l13 x0a x0n x0c x1 x4 x12  K I13 x13 hp := h
    unfold F163_l13 at h
    refine AWP.seq' ?_
    refine AWP.seq (fun env pv hp => ∃ (x13 : Int) (x66 : Bool), Sub (upd (upd (upd (upd (upd (upd E0 66 (sB x66)) 13 (sI x13)) 12 (sI x12)) 4 (sV x4)) 1 (sI x1)) 0 (sS x0a x0n x0c)) env ∧ Sub V0 pv ∧ (F163_j14 x0a x0n x0c x1 x4 x12 x13 x66 hp I13 K)) ?_ ?_
    ·refine AWP.rgnD (by kernel_rfl) (by kernel_rfl) (F163_r19 E0 x0a x0n x0c x1 x4 x12 x13 hp _) ?_ (Ru 0 (Ru 1 (Ru 4 (Ru 12 (Ru 13 Rn))))) (Sc rfl (Sc rfl (Sc rfl (Sc rfl (Sc rfl Sn))))) Sn
     refine mt h (fun h => ?_) (fun h => ?_)
     ·refine ⟨h.1, h.2.1, mN h.2.2 (fun b_85 o_86 h => mL h (fun l_87 h => ⟨h.1, h.2.1, mN h.2.2 fun b_88 o_89 h => mL h fun l_90 h => mF h fun f_91 ga_92 gb_93 h => mC h fun u_94 h_95 h => mI h fun i_96 h => ?_⟩))⟩
      exact ⟨x13, (!(decide (i_96 < 0))), (Sc rfl (Sc rfl (Sc rfl (Sc rfl (Sc rfl (Sc rfl Sn)))))), Sn, h⟩
     ·exact ⟨x13, false, (Sc rfl (Sc rfl (Sc rfl (Sc rfl (Sc rfl (Sc rfl Sn)))))), Sn, h⟩
    ·rintro env pv hp ⟨x13, x66, he, hv, h⟩
     refine AWP.sub (env' := (upd (upd (upd (upd (upd (upd E0 66 (sB x66)) 13 (sI x13)) 12 (sI x12)) 4 (sV x4)) 1 (sI x1)) 0 (sS x0a x0n x0c))) (pv' := V0) ?_ (Ru 0 (Ru 1 (Ru 4 (Ru 12 (Ru 13 (Ru 66 Rn)))))) he hv (HSub.refl _)
     clear he hv
     unfold F163_j14 at h
     refine AWP.cond (t := x66) rfl (fun e => ?_) (fun e => ?_)
     ·replace h := ite2_t h e
      refine AWP.skip ?_
      refine AWP.block ?_
      refine AWP.rgn (F163_r18 (upd (upd (upd (upd E0 12 (sI x12)) 4 (sV x4)) 1 (sI x1)) 0 (sS x0a x0n x0c)) x13 hp _) ?_ (Ru 13 (Ru 0 (Ru 1 (Ru 4 (Ru 12 Rn))))) (Sc rfl (Sc rfl (Sc rfl (Sc rfl (Sc rfl Sn))))) Sn
      exact ⟨(wr (x13 - 1)), (Sc rfl (Sc rfl (Sc rfl (Sc rfl (Sc rfl Sn))))), Sn, h⟩
     ·replace h := ite2_f h e
      refine AWP.exit ?_
      exact ⟨x0a, x0n, x0c, x1, x4, x12, x13, (Sc rfl (Sc rfl (Sc rfl (Sc rfl (Sc rfl Sn))))), Sn, h⟩
   ·rintro env pv hp ⟨x0a, x0n, x0c, x1, x4, x12, x13, he, hv, h⟩
    refine AWP.sub (env' := (upd (upd (upd (upd (upd E0 13 (sI x13)) 12 (sI x12)) 4 (sV x4)) 1 (sI x1)) 0 (sS x0a x0n x0c))) (pv' := V0) ?_ (Ru 0 (Ru 1 (Ru 4 (Ru 12 (Ru 13 Rn))))) he hv (HSub.refl _)
    clear he hv
    unfold F163_j3 at h
    refine AWP.seq' ?_
    refine AWP.seq' ?_
    refine AWP.rgn (F163_r2 (upd (upd (upd E0 4 (sV x4)) 1 (sI x1)) 0 (sS x0a x0n x0c)) x12 x13 hp _) ?_ (Ru 12 (Ru 13 (Ru 0 (Ru 1 (Ru 4 Rn))))) (Sc rfl (Sc rfl (Sc rfl (Sc rfl (Sc rfl Sn))))) Sn
    refine AWP.cond (t := (decide (x12 > x13))) rfl (fun e => ?_) (fun e => ?_)
    ·replace h := ite2_t h e
     refine AWP.seq' ?_
     refine AWP.rgnD (by kernel_rfl) (by kernel_rfl) (F163_r3 E0 x0a x0n x0c x1 x13 hp _) ?_ (Ru 0 (Ru 1 (Ru 13 Rn))) (Sc rfl (Sc rfl (Sc rfl Sn))) Sn
     refine ⟨h.1, h.2.1, mN h.2.2 (fun b_13 o_14 h => mL h (fun l_15 h => ⟨h.1, h.2.1, mN h.2.2 (fun b_16 o_17 h => mL h (fun l_18 h => ⟨h.1, h.2.1, mN h.2.2 (fun b_19 o_20 h => ⟨h.1, mW h.2 (fun h_21 h => ⟨h.1, h.2.1, mN h.2.2 (fun b_22 o_23 h => ⟨h.1, mW h.2 fun h_24 h => ?_⟩)⟩)⟩)⟩))⟩))⟩
     refine AWP.seq' ?_
     refine AWP.rgn (F163_r4 E0 x13 h_24 _) ?_ (Ru 13 Rn) (Sc rfl Sn) Sn
     refine AWP.ret ?_
     exact h
    ·replace h := ite2_f h e
     refine AWP.skip ?_
     refine AWP.seq' ?_
     refine AWP.rgnD (by kernel_rfl) (by kernel_rfl) (F163_r5 (upd (upd E0 4 (sV x4)) 1 (sI x1)) x0a x0n x0c x12 x13 hp _) ?_ (Ru 0 (Ru 12 (Ru 13 (Ru 1 (Ru 4 Rn))))) (Sc rfl (Sc rfl (Sc rfl (Sc rfl (Sc rfl Sn))))) Sn
     refine ⟨h.1, h.2.1, mN h.2.2 (fun b_25 o_26 h => mL h (fun l_27 h => ⟨h.1, h.2.1, mN h.2.2 (fun b_28 o_29 h => mL h (fun l_30 h => ⟨h.1, h.2.1, mN h.2.2 (fun b_31 o_32 h => ⟨h.1, mW h.2 (fun h_33 h => ⟨h.1, h.2.1, mN h.2.2 (fun b_34 o_35 h => ⟨h.1, mW h.2 fun h_36 h => ?_⟩)⟩)⟩)⟩))⟩))⟩
     refine AWP.seq' ?_
     refine AWP.rgn (F163_r6 (upd (upd (upd (upd E0 13 (sI x13)) 4 (sV x4)) 1 (sI x1)) 0 (sS x0a x0n x0c)) x12 h_36 _) ?_ (Ru 12 (Ru 0 (Ru 1 (Ru 4 (Ru 13 Rn))))) (Sc rfl (Sc rfl (Sc rfl (Sc rfl (Sc rfl Sn))))) Sn
     refine AWP.seq (fun env pv hp => ∃ (x0a : Option Addr) (x0n : Nat) (x0c : Nat) (x1 : Int) (x4 : Value) (x12 : Int) (x13 : Int), Sub (upd (upd (upd (upd (upd E0 13 (sI x13)) 12 (sI x12)) 4 (sV x4)) 1 (sI x1)) 0 (sS x0a x0n x0c)) env ∧ Sub V0 pv ∧ (F163_j4 x0a x0n x0c x1 x4 x12 x13 hp  K)) ?_ ?_
     ·refine AWP.rgn (F163_r17 (upd (upd (upd (upd E0 12 (sI ((wr (x12 + 1))))) 4 (sV x4)) 1 (sI x1)) 0 (sS x0a x0n x0c)) x13 h_36 _) ?_ (Ru 13 (Ru 0 (Ru 1 (Ru 4 (Ru 12 Rn))))) (Sc rfl (Sc rfl (Sc rfl (Sc rfl (Sc rfl Sn))))) Sn
      exact ⟨x0a, x0n, x0c, x1, x4, (wr (x12 + 1)), (wr (x13 - 1)), (Sc rfl (Sc rfl (Sc rfl (Sc rfl (Sc rfl Sn))))), Sn, h⟩
     ·rintro env pv hp ⟨x0a, x0n, x0c, x1, x4, x12, x13, he, hv, h⟩
      refine AWP.sub (env' := (upd (upd (upd (upd (upd E0 13 (sI x13)) 12 (sI x12)) 4 (sV x4)) 1 (sI x1)) 0 (sS x0a x0n x0c))) (pv' := V0) ?_ (Ru 0 (Ru 1 (Ru 4 (Ru 12 (Ru 13 Rn))))) he hv (HSub.refl _)
      clear he hv
      unfold F163_j4 at h
      refine AWP.seq (fun env pv hp => ∃ (x0a : Option Addr) (x0n : Nat) (x0c : Nat) (x1 : Int) (x13 : Int), Sub (upd (upd (upd E0 13 (sI x13)) 1 (sI x1)) 0 (sS x0a x0n x0c)) env ∧ Sub V0 pv ∧ (F163_j5 x0a x0n x0c x1 x13 hp  K)) ?_ ?_
      ·refine AWP.block ?_
       refine AWP.loop (σ := Int × Int) (fun I s hp => F163_l6 x0a x0n x0c x1 x4  K I s.1 s.2 hp) (fun s => (upd (upd (upd (upd (upd E0 13 (sI (s.2))) 12 (sI (s.1))) 4 (sV x4)) 1 (sI x1)) 0 (sS x0a x0n x0c))) (fun s => V0) (x12, x13) h (fun s => (Ru 0 (Ru 1 (Ru 4 (Ru 12 (Ru 13 Rn)))))) (Sc rfl (Sc rfl (Sc rfl (Sc rfl (Sc rfl Sn))))) Sn ?_
       intro I6 s hp h
       obtain ⟨x12, x13⟩ := s
       replace h : F163_l6 x0a x0n x0c x1 x4  K I6 x12 x13 hp := h
       unfold F163_l6 at h
       refine AWP.block ?_
       refine AWP.seq (fun env pv hp => ∃ (x12 : Int) (x13 : Int), Sub (upd (upd (upd (upd (upd E0 13 (sI x13)) 12 (sI x12)) 4 (sV x4)) 1 (sI x1)) 0 (sS x0a x0n x0c)) env ∧ Sub V0 pv ∧ (F163_j7 x0a x0n x0c x1 x4 x12 x13 hp I6 K)) ?_ ?_
       ·refine AWP.block ?_
        refine AWP.loop (σ := Int) (fun I s hp => F163_l11 x0a x0n x0c x1 x4 x13 I6 K I s hp) (fun s => (upd (upd (upd (upd (upd E0 13 (sI x13)) 12 (sI s)) 4 (sV x4)) 1 (sI x1)) 0 (sS x0a x0n x0c))) (fun s => V0) x12 h (fun s => (Ru 0 (Ru 1 (Ru 4 (Ru 12 (Ru 13 Rn)))))) (Sc rfl (Sc rfl (Sc rfl (Sc rfl (Sc rfl Sn))))) Sn ?_
        intro I11 s hp h
        obtain ⟨x12, hs⟩ : ∃ x, x = s := ⟨s, rfl⟩
        subst hs
        replace h : F163_l11 x0a x0n x0c x1 x4 x13 I6 K I11 x12 hp := h
        unfold F163_l11 at h
        refine AWP.seq' ?_
        refine AWP.seq (fun env pv hp => ∃ (x12 : Int) (x120 : Bool), Sub (upd (upd (upd (upd (upd (upd E0 120 (sB x120)) 13 (sI x13)) 12 (sI x12)) 4 (sV x4)) 1 (sI x1)) 0 (sS x0a x0n x0c)) env ∧ Sub V0 pv ∧ (F163_j12 x0a x0n x0c x1 x4 x12 x13 x120 hp I6 I11 K)) ?_ ?_
        ·refine AWP.rgnD (by kernel_rfl) (by kernel_rfl) (F163_r16 E0 x0a x0n x0c x1 x4 x12 x13 hp _) ?_ (Ru 0 (Ru 1 (Ru 4 (Ru 12 (Ru 13 Rn))))) (Sc rfl (Sc rfl (Sc rfl (Sc rfl (Sc rfl Sn))))) Sn
         refine mt h (fun h => ?_) (fun h => ?_)
         ·refine ⟨h.1, h.2.1, mN h.2.2 (fun b_73 o_74 h => mL h (fun l_75 h => ⟨h.1, h.2.1, mN h.2.2 fun b_76 o_77 h => mL h fun l_78 h => mF h fun f_79 ga_80 gb_81 h => mC h fun u_82 h_83 h => mI h fun i_84 h => ?_⟩))⟩
          exact ⟨x12, (decide (i_84 < 0)), (Sc rfl (Sc rfl (Sc rfl (Sc rfl (Sc rfl (Sc rfl Sn)))))), Sn, h⟩
         ·exact ⟨x12, false, (Sc rfl (Sc rfl (Sc rfl (Sc rfl (Sc rfl (Sc rfl Sn)))))), Sn, h⟩
        ·rintro env pv hp ⟨x12, x120, he, hv, h⟩
         refine AWP.sub (env' := (upd (upd (upd (upd (upd (upd E0 120 (sB x120)) 13 (sI x13)) 12 (sI x12)) 4 (sV x4)) 1 (sI x1)) 0 (sS x0a x0n x0c))) (pv' := V0) ?_ (Ru 0 (Ru 1 (Ru 4 (Ru 12 (Ru 13 (Ru 120 Rn)))))) he hv (HSub.refl _)
         clear he hv
         unfold F163_j12 at h
         refine AWP.cond (t := x120) rfl (fun e => ?_) (fun e => ?_)
         ·replace h := ite2_t h e
          refine AWP.skip ?_
          refine AWP.block ?_
          refine AWP.rgn (F163_r15 (upd (upd (upd (upd E0 13 (sI x13)) 4 (sV x4)) 1 (sI x1)) 0 (sS x0a x0n x0c)) x12 hp _) ?_ (Ru 12 (Ru 0 (Ru 1 (Ru 4 (Ru 13 Rn))))) (Sc rfl (Sc rfl (Sc rfl (Sc rfl (Sc rfl Sn))))) Sn
          exact ⟨(wr (x12 + 1)), (Sc rfl (Sc rfl (Sc rfl (Sc rfl (Sc rfl Sn))))), Sn, h⟩
         ·replace h := ite2_f h e
          refine AWP.exit ?_
          exact ⟨x12, x13, (Sc rfl (Sc rfl (Sc rfl (Sc rfl (Sc rfl Sn))))), Sn, h⟩
       ·rintro env pv hp ⟨x12, x13, he, hv, h⟩
        refine AWP.sub (env' := (upd (upd (upd (upd (upd E0 13 (sI x13)) 12 (sI x12)) 4 (sV x4)) 1 (sI x1)) 0 (sS x0a x0n x0c))) (pv' := V0) ?_ (Ru 0 (Ru 1 (Ru 4 (Ru 12 (Ru 13 Rn))))) he hv (HSub.refl _)
        clear he hv
        unfold F163_j7 at h
        refine AWP.seq (fun env pv hp => ∃ (x12 : Int) (x13 : Int), Sub (upd (upd (upd (upd (upd E0 13 (sI x13)) 12 (sI x12)) 4 (sV x4)) 1 (sI x1)) 0 (sS x0a x0n x0c)) env ∧ Sub V0 pv ∧ (F163_j8 x0a x0n x0c x1 x4 x12 x13 hp I6 K)) ?_ ?_
        ·refine AWP.block ?_
         refine AWP.loop (σ := Int) (fun I s hp => F163_l9 x0a x0n x0c x1 x4 x12 I6 K I s hp) (fun s => (upd (upd (upd (upd (upd E0 13 (sI s)) 12 (sI x12)) 4 (sV x4)) 1 (sI x1)) 0 (sS x0a x0n x0c))) (fun s => V0) x13 h (fun s => (Ru 0 (Ru 1 (Ru 4 (Ru 12 (Ru 13 Rn)))))) (Sc rfl (Sc rfl (Sc rfl (Sc rfl (Sc rfl Sn))))) Sn ?_
         intro I9 s hp h
         obtain ⟨x13, hs⟩ : ∃ x, x = s := ⟨s, rfl⟩
         subst hs
         replace h : F163_l9 x0a x0n x0c x1 x4 x12 I6 K I9 x13 hp := h
         unfold F163_l9 at h
         refine AWP.seq' ?_
         refine AWP.seq (fun env pv hp => ∃ (x13 : Int) (x139 : Bool), Sub (upd (upd (upd (upd (upd (upd E0 139 (sB x139)) 13 (sI x13)) 12 (sI x12)) 4 (sV x4)) 1 (sI x1)) 0 (sS x0a x0n x0c)) env ∧ Sub V0 pv ∧ (F163_j10 x0a x0n x0c x1 x4 x12 x13 x139 hp I6 I9 K)) ?_ ?_
         ·refine AWP.rgnD (by kernel_rfl) (by kernel_rfl) (F163_r14 E0 x0a x0n x0c x1 x4 x12 x13 hp _) ?_ (Ru 0 (Ru 1 (Ru 4 (Ru 12 (Ru 13 Rn))))) (Sc rfl (Sc rfl (Sc rfl (Sc rfl (Sc rfl Sn))))) Sn
          refine mt h (fun h => ?_) (fun h => ?_)
          ·refine ⟨h.1, h.2.1, mN h.2.2 (fun b_61 o_62 h => mL h (fun l_63 h => ⟨h.1, h.2.1, mN h.2.2 fun b_64 o_65 h => mL h fun l_66 h => mF h fun f_67 ga_68 gb_69 h => mC h fun u_70 h_71 h => mI h fun i_72 h => ?_⟩))⟩
           exact ⟨x13, (!(decide (i_72 < 0))), (Sc rfl (Sc rfl (Sc rfl (Sc rfl (Sc rfl (Sc rfl Sn)))))), Sn, h⟩
          ·exact ⟨x13, false, (Sc rfl (Sc rfl (Sc rfl (Sc rfl (Sc rfl (Sc rfl Sn)))))), Sn, h⟩
         ·rintro env pv hp ⟨x13, x139, he, hv, h⟩
          refine AWP.sub (env' := (upd (upd (upd (upd (upd (upd E0 139 (sB x139)) 13 (sI x13)) 12 (sI x12)) 4 (sV x4)) 1 (sI x1)) 0 (sS x0a x0n x0c))) (pv' := V0) ?_ (Ru 0 (Ru 1 (Ru 4 (Ru 12 (Ru 13 (Ru 139 Rn)))))) he hv (HSub.refl _)
          clear he hv
          unfold F163_j10 at h
          refine AWP.cond (t := x139) rfl (fun e => ?_) (fun e => ?_)
          ·replace h := ite2_t h e
           refine AWP.skip ?_
           refine AWP.block ?_
           refine AWP.rgn (F163_r13 (upd (upd (upd (upd E0 12 (sI x12)) 4 (sV x4)) 1 (sI x1)) 0 (sS x0a x0n x0c)) x13 hp _) ?_ (Ru 13 (Ru 0 (Ru 1 (Ru 4 (Ru 12 Rn))))) (Sc rfl (Sc rfl (Sc rfl (Sc rfl (Sc rfl Sn))))) Sn
           exact ⟨(wr (x13 - 1)), (Sc rfl (Sc rfl (Sc rfl (Sc rfl (Sc rfl Sn))))), Sn, h⟩
          ·replace h := ite2_f h e
           refine AWP.exit ?_
           exact ⟨x12, x13, (Sc rfl (Sc rfl (Sc rfl (Sc rfl (Sc rfl Sn))))), Sn, h⟩
        ·rintro env pv hp ⟨x12, x13, he, hv, h⟩
         refine AWP.sub (env' := (upd (upd (upd (upd (upd E0 13 (sI x13)) 12 (sI x12)) 4 (sV x4)) 1 (sI x1)) 0 (sS x0a x0n x0c))) (pv' := V0) ?_ (Ru 0 (Ru 1 (Ru 4 (Ru 12 (Ru 13 Rn))))) he hv (HSub.refl _)
         clear he hv
         unfold F163_j8 at h
         refine AWP.seq' ?_
         refine AWP.seq' ?_
         refine AWP.rgn (F163_r9 (upd (upd (upd E0 4 (sV x4)) 1 (sI x1)) 0 (sS x0a x0n x0c)) x12 x13 hp _) ?_ (Ru 12 (Ru 13 (Ru 0 (Ru 1 (Ru 4 Rn))))) (Sc rfl (Sc rfl (Sc rfl (Sc rfl (Sc rfl Sn))))) Sn
         refine AWP.cond (t := (decide (x12 > x13))) rfl (fun e => ?_) (fun e => ?_)
         ·replace h := ite2_t h e
          refine AWP.exit ?_
          exact ⟨x0a, x0n, x0c, x1, x13, (Sc rfl (Sc rfl (Sc rfl Sn))), Sn, h⟩
         ·replace h := ite2_f h e
          refine AWP.skip ?_
          refine AWP.seq' ?_
          refine AWP.rgnD (by kernel_rfl) (by kernel_rfl) (F163_r10 (upd (upd E0 4 (sV x4)) 1 (sI x1)) x0a x0n x0c x12 x13 hp _) ?_ (Ru 0 (Ru 12 (Ru 13 (Ru 1 (Ru 4 Rn))))) (Sc rfl (Sc rfl (Sc rfl (Sc rfl (Sc rfl Sn))))) Sn
          refine ⟨h.1, h.2.1, mN h.2.2 (fun b_49 o_50 h => mL h (fun l_51 h => ⟨h.1, h.2.1, mN h.2.2 (fun b_52 o_53 h => mL h (fun l_54 h => ⟨h.1, h.2.1, mN h.2.2 (fun b_55 o_56 h => ⟨h.1, mW h.2 (fun h_57 h => ⟨h.1, h.2.1, mN h.2.2 (fun b_58 o_59 h => ⟨h.1, mW h.2 fun h_60 h => ?_⟩)⟩)⟩)⟩))⟩))⟩
          refine AWP.seq' ?_
          refine AWP.rgn (F163_r11 (upd (upd (upd (upd E0 13 (sI x13)) 4 (sV x4)) 1 (sI x1)) 0 (sS x0a x0n x0c)) x12 h_60 _) ?_ (Ru 12 (Ru 0 (Ru 1 (Ru 4 (Ru 13 Rn))))) (Sc rfl (Sc rfl (Sc rfl (Sc rfl (Sc rfl Sn))))) Sn
          refine AWP.rgn (F163_r12 (upd (upd (upd (upd E0 12 (sI ((wr (x12 + 1))))) 4 (sV x4)) 1 (sI x1)) 0 (sS x0a x0n x0c)) x13 h_60 _) ?_ (Ru 13 (Ru 0 (Ru 1 (Ru 4 (Ru 12 Rn))))) (Sc rfl (Sc rfl (Sc rfl (Sc rfl (Sc rfl Sn))))) Sn
          exact ⟨((wr (x12 + 1)), (wr (x13 - 1))), (Sc rfl (Sc rfl (Sc rfl (Sc rfl (Sc rfl Sn))))), Sn, h⟩
      ·rintro env pv hp ⟨x0a, x0n, x0c, x1, x13, he, hv, h⟩
       refine AWP.sub (env' := (upd (upd (upd E0 13 (sI x13)) 1 (sI x1)) 0 (sS x0a x0n x0c))) (pv' := V0) ?_ (Ru 0 (Ru 1 (Ru 13 Rn))) he hv (HSub.refl _)
       clear he hv
       unfold F163_j5 at h
       refine AWP.seq' ?_
       refine AWP.rgnD (by kernel_rfl) (by kernel_rfl) (F163_r7 E0 x0a x0n x0c x1 x13 hp _) ?_ (Ru 0 (Ru 1 (Ru 13 Rn))) (Sc rfl (Sc rfl (Sc rfl Sn))) Sn
       refine ⟨h.1, h.2.1, mN h.2.2 (fun b_37 o_38 h => mL h (fun l_39 h => ⟨h.1, h.2.1, mN h.2.2 (fun b_40 o_41 h => mL h (fun l_42 h => ⟨h.1, h.2.1, mN h.2.2 (fun b_43 o_44 h => ⟨h.1, mW h.2 (fun h_45 h => ⟨h.1, h.2.1, mN h.2.2 (fun b_46 o_47 h => ⟨h.1, mW h.2 fun h_48 h => ?_⟩)⟩)⟩)⟩))⟩))⟩
       refine AWP.seq' ?_
       refine AWP.rgn (F163_r8 E0 x13 h_48 _) ?_ (Ru 13 Rn) (Sc rfl Sn) Sn
       refine AWP.ret ?_
       exact h
end
end Go.Proofs

set_option linter.unusedVariables false
set_option maxRecDepth 20000
namespace Go.Proofs
open Go Go.HL

section
variable {f : FuncId} {ga gb : List Value} {hp0 : HP} {b sp n c : Nat} {cf : (Q × Int) → (Q × Int) → Int}

theorem S176 (hc : CmpOk Try.prog f ga gb hp0 b 75 sp t4 n cf) {d : Array (Q × Int)} {lo hi fst : Nat} {K : Value → HP → Prop} (hs : d.size = n) (hlo : lo ≤ hi) (hf : fst + hi ≤ n) (hn : n ≤ 1000000000)
    (h : K (.tuple ⟨[]⟩) (HA hp0 b 75 sp t4 (Sort.siftDown (ltC cf) hi fst lo d))) :
    CF Try.prog 176 [.slice (some ⟨b, 0, none⟩) n c, .int .i64 lo, .int .i64 hi, .int .i64 fst, .func (.func f) ⟨ga⟩ ⟨gb⟩] (HA hp0 b 75 sp t4 d) K := by
  refine F176_ok _ n c lo hi fst _ _ K ?_
  unfold F176 F176_j1
  refine LoopP.by (J := fun k (x : Int) hp => ∃ (r : Nat) (d' : Array (Q × Int)), x = r ∧ hp = HA hp0 b 75 sp t4 d' ∧ d'.size = n ∧ r ≤ hi ∧ k = hi - r ∧ Sort.siftDown (ltC cf) hi fst r d' = Sort.siftDown (ltC cf) hi fst lo d) ?_
    (n := hi - lo) ⟨lo, d, rfl, rfl, hs, hlo, rfl, rfl⟩
  rintro I k x hp ⟨r, d', rfl, rfl, hs', hr, rfl, he⟩ hI
  unfold F176_l2
  have w1 : IntKind.wrap .i64 (2 * (r : Int)) = ((2 * r : Nat) : Int) := wi (by omega) (by omega)
  have w2 : IntKind.wrap .i64 (((2 * r : Nat) : Int) + 1) = ((2 * r + 1 : Nat) : Int) := wi (by omega) (by omega)
  have w3 : IntKind.wrap .i64 (((2 * r + 1 : Nat) : Int) + 1) = ((2 * r + 2 : Nat) : Int) := wi (by omega) (by omega)
  have w4 : IntKind.wrap .i64 ((fst : Int) + ((2 * r + 1 : Nat) : Int)) = ((fst + (2 * r + 1) : Nat) : Int) := wi (by omega) (by omega)
  have w5 : IntKind.wrap .i64 (((fst + (2 * r + 1) : Nat) : Int) + 1) = ((fst + (2 * r + 1) + 1 : Nat) : Int) := wi (by omega) (by omega)
  simp only [w1, w2, w3, w4, w5]
  rw [Sort.siftDown] at he
  by_cases h1 : 2 * r + 1 ≥ hi
  · rw [dif_pos h1] at he
    rw [decide_eq_true (by omega : ((2 * r + 1 : Nat) : Int) ≥ (hi : Int)), ite2_true, he]
    exact h
  rw [dif_neg h1] at he
  rw [decide_eq_false (by omega : ¬ ((2 * r + 1 : Nat) : Int) ≥ (hi : Int)), ite2_false]
  have tail : ∀ ch : Nat, ch < hi → r < ch → (if !ltC cf d'[fst + r]! d'[fst + ch]! then d' else Sort.siftDown (ltC cf) hi fst ch (Sort.swp d' (fst + r) (fst + ch))) = Sort.siftDown (ltC cf) hi fst lo d →
      F176_j3 (some ⟨b, 0, none⟩) n c hi fst (.func (.func f) ⟨ga⟩ ⟨gb⟩) r ch (HA hp0 b 75 sp t4 d') I K := by
    intro ch hch hrc ht
    unfold F176_j3
    have v1 : IntKind.wrap .i64 ((fst : Int) + (r : Int)) = ((fst + r : Nat) : Int) := wi (by omega) (by omega)
    have v2 : IntKind.wrap .i64 ((fst : Int) + (ch : Int)) = ((fst + ch : Nat) : Int) := wi (by omega) (by omega)
    simp only [v1, v2]
    refine cmpP hc t4_len hs' (i := fst + r) (j := fst + ch) rfl rfl (by omega) (by omega) ?_
    have hl : decide (cf d'[fst + r]! d'[fst + ch]! < 0) = ltC cf d'[fst + r]! d'[fst + ch]! := rfl
    rw [hl]
    cases hlt : ltC cf d'[fst + r]! d'[fst + ch]!
    · rw [hlt] at ht
      simp only [Bool.not_false, if_true] at ht
      simp only [Bool.not_false, ite2_true]
      rw [ht]; exact h
    · rw [hlt] at ht
      simp only [Bool.not_true, Bool.false_eq_true, if_false] at ht
      simp only [Bool.not_true, ite2_false]
      refine swapP t4_len t4_one hs' (i := fst + r) (j := fst + ch) rfl rfl (by omega) (by omega) ?_
      exact hI (hi - ch) _ _ (by omega) ⟨ch, _, rfl, rfl, by rw [swp_size]; exact hs', by omega, rfl, ht⟩
  by_cases h2 : 2 * r + 1 + 1 < hi
  · rw [decide_eq_true (by omega : ((2 * r + 2 : Nat) : Int) < (hi : Int)), ite2_true]
    refine cmpP hc t4_len hs' (i := fst + (2 * r + 1)) (j := fst + (2 * r + 1) + 1) rfl rfl (by omega) (by omega) ?_
    have hl : decide (cf d'[fst + (2 * r + 1)]! d'[fst + (2 * r + 1) + 1]! < 0) = ltC cf d'[fst + (2 * r + 1)]! d'[fst + (2 * r + 1) + 1]! := rfl
    rw [hl]
    unfold F176_j4
    rw [decide_eq_true h2, Bool.true_and] at he
    cases hlt : ltC cf d'[fst + (2 * r + 1)]! d'[fst + (2 * r + 1) + 1]!
    · rw [hlt] at he
      simp only [Bool.false_eq_true, if_false] at he
      rw [ite2_false]
      exact tail (2 * r + 1) (by omega) (by omega) he
    · rw [hlt] at he
      simp only [if_true] at he
      rw [ite2_true, w3]
      refine tail (2 * r + 2) (by omega) (by omega) ?_
      rw [dif_pos (by omega : 2 * r + 2 < hi)] at he
      exact he
  · rw [decide_eq_false (by omega : ¬ ((2 * r + 2 : Nat) : Int) < (hi : Int)), ite2_false]
    rw [decide_eq_false h2, Bool.false_and] at he
    simp only [Bool.false_eq_true, if_false] at he
    unfold F176_j4
    rw [ite2_false]
    exact tail (2 * r + 1) (by omega) (by omega) he

theorem sift_size {α : Type} [Inhabited α] (lt : α → α → Bool) (hi fst : Nat) : ∀ (m r : Nat) (d : Array α), hi - r ≤ m → (Sort.siftDown lt hi fst r d).size = d.size := by
  intro m
  induction m with
  | zero =>
    intro r d hm
    rw [Sort.siftDown, dif_pos (by omega)]
  | succ m ih =>
    intro r d hm
    rw [Sort.siftDown]
    repeat' split
    all_goals first
      | rfl
      | (rw [ih _ _ (by omega), swp_size])

theorem S157 (hc : CmpOk Try.prog f ga gb hp0 b 75 sp t4 n cf) {d : Array (Q × Int)} {lo hi : Nat} {K : Value → HP → Prop} (hs : d.size = n) (hlo : lo ≤ hi) (hf : hi ≤ n) (hn : n ≤ 1000000000)
    (h : K (.tuple ⟨[]⟩) (HA hp0 b 75 sp t4 (Sort.heapSort (ltC cf) d lo hi))) :
    CF Try.prog 157 [.slice (some ⟨b, 0, none⟩) n c, .int .i64 lo, .int .i64 hi, .func (.func f) ⟨ga⟩ ⟨gb⟩] (HA hp0 b 75 sp t4 d) K := by
  refine F157_ok _ n c lo hi _ _ K ?_
  unfold F157 F157_j4
  have w1 : IntKind.wrap .i64 ((hi : Int) - (lo : Int)) = ((hi - lo : Nat) : Int) := wi (by omega) (by omega)
  refine ⟨by omega, ?_⟩
  rw [w1]
  generalize hm : hi - lo = m at *
  have w2 : IntKind.wrap .i64 ((m : Int) - 1) = (m : Int) - 1 := w64 (by omega) (by omega)
  have w3 : Int.tdiv ((m : Int) - 1) 2 = (((m - 1) / 2 : Nat) : Int) := by
    cases m with
    | zero => rfl
    | succ m =>
      have : ((m + 1 : Nat) : Int) - 1 = (m : Int) := by omega
      rw [this]; simp only [Nat.add_sub_cancel]
      rfl
  have w4 : IntKind.wrap .i64 ((((m - 1) / 2 : Nat) : Int)) = (((m - 1) / 2 : Nat) : Int) := wi rfl (by omega)
  rw [w2, w3, w4]
  unfold Sort.heapSort at h
  rw [hm] at h
  refine LoopP.by (J := fun k (x : Int) hp => ∃ (d' : Array (Q × Int)), x = (k : Int) - 1 ∧ hp = HA hp0 b 75 sp t4 d' ∧ d'.size = n ∧ k ≤ (m - 1) / 2 + 1 ∧ Sort.heapBuild (ltC cf) m lo k d' = Sort.heapBuild (ltC cf) m lo ((m - 1) / 2 + 1) d) ?_
    (n := (m - 1) / 2 + 1) ⟨d, by omega, rfl, hs, Nat.le_refl _, rfl⟩
  rintro I k x hp ⟨d', rfl, rfl, hs', hk, he⟩ hI
  unfold F157_l5
  cases k with
  | succ k =>
    have e1 : ((k + 1 : Nat) : Int) - 1 = (k : Int) := by omega
    rw [e1, decide_eq_true (by omega : (k : Int) ≥ 0), ite2_true]
    refine S176 hc hs' (by omega) (by omega) hn ?_
    rw [w64 (by omega) (by omega)]
    rw [Sort.heapBuild] at he
    exact hI k _ _ (by omega) ⟨_, rfl, rfl, by rw [sift_size _ _ _ _ _ _ (Nat.le_refl _)]; exact hs', by omega, he⟩
  | zero =>
    rw [decide_eq_false (by omega : ¬ (((0 : Nat) : Int) - 1) ≥ 0), ite2_false]
    rw [Sort.heapBuild] at he
    rw [← he] at h
    unfold F157_j1 F157_j2
    rw [w2]
    refine LoopP.by (J := fun k (x : Int) hp => ∃ (d2 : Array (Q × Int)), x = (k : Int) - 1 ∧ hp = HA hp0 b 75 sp t4 d2 ∧ d2.size = n ∧ k ≤ m ∧ Sort.heapPop (ltC cf) lo k d2 = Sort.heapPop (ltC cf) lo m d') ?_
      (n := m) ⟨d', rfl, rfl, hs', Nat.le_refl _, rfl⟩
    rintro I2 k2 x2 hp2 ⟨d2, rfl, rfl, hs2, hk2, he2⟩ hI2
    unfold F157_l3
    cases k2 with
    | succ k =>
      have e1 : ((k + 1 : Nat) : Int) - 1 = (k : Int) := by omega
      have v1 : IntKind.wrap .i64 ((lo : Int) + (k : Int)) = ((lo + k : Nat) : Int) := wi (by omega) (by omega)
      rw [e1, decide_eq_true (by omega : (k : Int) ≥ 0), ite2_true, v1]
      refine swapP t4_len t4_one hs2 (i := lo) (j := lo + k) rfl rfl (by omega) (by omega) ?_
      have hz : (Value.int .i64 0) = Value.int .i64 ((0 : Nat) : Int) := rfl
      rw [hz]
      refine S176 hc (by rw [swp_size]; exact hs2) (by omega) (by omega) hn ?_
      rw [w64 (by omega) (by omega)]
      rw [Sort.heapPop] at he2
      exact hI2 k _ _ (by omega) ⟨_, rfl, rfl, by rw [sift_size _ _ _ _ _ _ (Nat.le_refl _), swp_size]; exact hs2, by omega, he2⟩
    | zero =>
      rw [decide_eq_false (by omega : ¬ (((0 : Nat) : Int) - 1) ≥ 0), ite2_false]
      rw [Sort.heapPop] at he2
      rw [he2]; exact h

theorem S160 {v : Value} {d : Array (Q × Int)} {lo hi : Nat} {K : Value → HP → Prop} (hs : d.size = n) (hlo : lo < hi) (hf : hi ≤ n) (hn : n ≤ 1000000000)
    (h : K (.tuple ⟨[]⟩) (HA hp0 b 75 sp t4 (Sort.reverseRange d lo hi))) :
    CF Try.prog 160 [.slice (some ⟨b, 0, none⟩) n c, .int .i64 lo, .int .i64 hi, v] (HA hp0 b 75 sp t4 d) K := by
  refine F160_ok _ n c lo hi _ _ K ?_
  unfold F160 F160_j1
  have w1 : IntKind.wrap .i64 ((hi : Int) - 1) = ((hi - 1 : Nat) : Int) := wi (by omega) (by omega)
  rw [w1]
  unfold Sort.reverseRange at h
  refine LoopP.by (J := fun k (s : Int × Int) hp => ∃ (i j : Nat) (d' : Array (Q × Int)), s = ((i : Int), (j : Int)) ∧ hp = HA hp0 b 75 sp t4 d' ∧ d'.size = n ∧ j < n ∧ k = j - i ∧ Sort.reverseLoop i j d' = Sort.reverseLoop lo (hi - 1) d) ?_
    (n := hi - 1 - lo) ⟨lo, hi - 1, d, rfl, rfl, hs, by omega, rfl, rfl⟩
  rintro I k x hp ⟨i, j, d', rfl, rfl, hs', hj, rfl, he⟩ hI
  unfold F160_l2
  rw [Sort.reverseLoop] at he
  by_cases hij : i < j
  · rw [if_pos hij] at he
    simp only []
    rw [decide_eq_true (by omega : (i : Int) < (j : Int)), ite2_true]
    refine swapP t4_len t4_one hs' (i := i) (j := j) rfl rfl (by omega) (by omega) ?_
    have v1 : IntKind.wrap .i64 ((i : Int) + 1) = ((i + 1 : Nat) : Int) := wi (by omega) (by omega)
    have v2 : IntKind.wrap .i64 ((j : Int) - 1) = ((j - 1 : Nat) : Int) := wi (by omega) (by omega)
    rw [v1, v2]
    exact hI (j - 1 - (i + 1)) _ _ (by omega) ⟨i + 1, j - 1, _, rfl, rfl, by rw [swp_size]; exact hs', by omega, rfl, he⟩
  · rw [if_neg hij] at he
    simp only []
    rw [decide_eq_false (by omega : ¬ (i : Int) < (j : Int)), ite2_false, he]
    exact h
end
end Go.Proofs

set_option linter.unusedVariables false
set_option maxRecDepth 20000
namespace Go.Proofs
open Go Go.HL

section
variable {f : FuncId} {ga gb : List Value} {hp0 : HP} {b sp n c : Nat} {cf : (Q × Int) → (Q × Int) → Int}

theorem S161 (hc : CmpOk Try.prog f ga gb hp0 b 75 sp t4 n cf) {d : Array (Q × Int)} {lo hi : Nat} {K : Value → HP → Prop} (hs : d.size = n) (hlo : lo < hi) (hf : hi ≤ n) (hn : n ≤ 1000000000)
    (h : K (.bool (Sort.partialInsertionSort (ltC cf) d lo hi).2) (HA hp0 b 75 sp t4 (Sort.partialInsertionSort (ltC cf) d lo hi).1)) :
    CF Try.prog 161 [.slice (some ⟨b, 0, none⟩) n c, .int .i64 lo, .int .i64 hi, .func (.func f) ⟨ga⟩ ⟨gb⟩] (HA hp0 b 75 sp t4 d) K := by
  refine F161_ok _ n c lo hi _ _ K ?_
  unfold F161 F161_j1
  have w1 : IntKind.wrap .i64 ((lo : Int) + 1) = ((lo + 1 : Nat) : Int) := wi (by omega) (by omega)
  rw [w1]
  generalize hR : Sort.partialInsertionSort (ltC cf) d lo hi = R at h
  unfold Sort.partialInsertionSort at hR
  refine LoopP.by (J := fun k (s : Int × Int) hp => ∃ (i : Nat) (d' : Array (Q × Int)), s = ((i : Int), 5 - (k : Int)) ∧ k ≤ 5 ∧ hp = HA hp0 b 75 sp t4 d' ∧ d'.size = n ∧ lo < i ∧ i ≤ hi ∧ Sort.partialIns (ltC cf) lo hi k i d' = R) ?_
    (n := 5) ⟨lo + 1, d, rfl, Nat.le_refl _, rfl, hs, by omega, by omega, hR⟩
  rintro I k x hp ⟨i, d', rfl, hk5, rfl, hs', hli, hih, he⟩ hI
  unfold F161_l2
  simp only []
  cases k with
  | zero =>
    rw [decide_eq_false (by omega : ¬ (5 - ((0 : Nat) : Int)) < 5), ite2_false]
    rw [Sort.partialIns] at he
    rw [← he] at h
    exact h
  | succ k =>
    rw [decide_eq_true (by omega : (5 - ((k + 1 : Nat) : Int)) < 5), ite2_true]
    rw [Sort.partialIns_succ] at he
    unfold F161_j3
    have fin4 : ∀ (i : Nat) (d3 : Array (Q × Int)), lo < i → i ≤ hi → d3.size = n → Sort.partialIns (ltC cf) lo hi k i d3 = R →
        F161_j4 (some ⟨b, 0, none⟩) n c lo hi (.func (.func f) ⟨ga⟩ ⟨gb⟩) i (5 - ((k + 1 : Nat) : Int)) (HA hp0 b 75 sp t4 d3) I K := by
      intro i d3 h1 h2 h3 h4
      unfold F161_j4
      have : IntKind.wrap .i64 (5 - ((k + 1 : Nat) : Int) + 1) = 5 - (k : Int) := by rw [w64 (by omega) (by omega)]; omega
      rw [this]
      exact hI k _ _ (by omega) ⟨i, d3, rfl, by omega, rfl, h3, h1, h2, h4⟩
    have fin6 : ∀ (i : Nat) (d2 : Array (Q × Int)), lo < i → i < hi → d2.size = n → Sort.partialIns (ltC cf) lo hi k i (Sort.fixUp (ltC cf) hi i d2) = R →
        F161_j6 (some ⟨b, 0, none⟩) n c lo hi (.func (.func f) ⟨ga⟩ ⟨gb⟩) i (5 - ((k + 1 : Nat) : Int)) (HA hp0 b 75 sp t4 d2) I K := by
      intro i d2 h1 h2 h3 h4
      unfold F161_j6
      have v : IntKind.wrap .i64 ((hi : Int) - (i : Int)) = ((hi - i : Nat) : Int) := wi (by omega) (by omega)
      rw [v]
      unfold Sort.fixUp at h4
      by_cases h2' : hi - i ≥ 2
      · rw [if_pos h2'] at h4
        rw [decide_eq_true (by omega : ((hi - i : Nat) : Int) ≥ 2), ite2_true]
        unfold F161_j7
        have v1 : IntKind.wrap .i64 ((i : Int) + 1) = ((i + 1 : Nat) : Int) := wi (by omega) (by omega)
        rw [v1]
        refine LoopP.by (J := fun m (y : Int) hp => ∃ (j : Nat) (d3 : Array (Q × Int)), y = j ∧ hp = HA hp0 b 75 sp t4 d3 ∧ d3.size = n ∧ i < j ∧ m = hi - j ∧ Sort.shiftUp (ltC cf) hi j d3 = Sort.shiftUp (ltC cf) hi (i + 1) d2) ?_
          (n := hi - (i + 1)) ⟨i + 1, d2, rfl, rfl, h3, by omega, rfl, rfl⟩
        rintro I8 m y hp ⟨j, d3, rfl, rfl, h5, h6, rfl, h7⟩ hI8
        unfold F161_l8
        rw [Sort.shiftUp] at h7
        by_cases hj : j < hi
        · rw [if_pos hj] at h7
          have v2 : IntKind.wrap .i64 ((j : Int) - 1) = ((j - 1 : Nat) : Int) := wi (by omega) (by omega)
          have v3 : IntKind.wrap .i64 ((j : Int) + 1) = ((j + 1 : Nat) : Int) := wi (by omega) (by omega)
          simp only [v2, v3]
          rw [decide_eq_true (by omega : (j : Int) < (hi : Int)), ite2_true]
          refine cmpP hc t4_len h5 (i := j) (j := j - 1) rfl rfl (by omega) (by omega) ?_
          have hl : decide (cf d3[j]! d3[j - 1]! < 0) = ltC cf d3[j]! d3[j - 1]! := rfl
          rw [hl]
          cases hlt : ltC cf d3[j]! d3[j - 1]!
          · rw [hlt] at h7
            simp only [Bool.not_false, if_true] at h7
            simp only [Bool.not_false, ite2_true]
            rw [← h7] at h4
            exact fin4 i d3 h1 (by omega) h5 h4
          · rw [hlt] at h7
            simp only [Bool.not_true, Bool.false_eq_true, if_false] at h7
            simp only [Bool.not_true, ite2_false]
            refine swapP t4_len t4_one h5 (i := j) (j := j - 1) rfl rfl (by omega) (by omega) ?_
            exact hI8 (hi - (j + 1)) _ _ (by omega) ⟨j + 1, _, rfl, rfl, by rw [swp_size]; exact h5, by omega, rfl, h7⟩
        · rw [if_neg hj] at h7
          rw [decide_eq_false (by omega : ¬ (j : Int) < (hi : Int)), ite2_false]
          rw [← h7] at h4
          exact fin4 i d3 h1 (by omega) h5 h4
      · rw [if_neg h2'] at h4
        rw [decide_eq_false (by omega : ¬ ((hi - i : Nat) : Int) ≥ 2), ite2_false]
        exact fin4 i d2 h1 (by omega) h3 h4
    have fin5 : ∀ (i : Nat), lo < i → i ≤ hi → Sort.scanSorted (ltC cf) d' hi i = i →
        (if i = hi then (d', true) else if hi - lo < 50 then (d', false) else Sort.partialIns (ltC cf) lo hi k i (Sort.fixUp (ltC cf) hi i (Sort.fixDown (ltC cf) lo i (Sort.swp d' i (i - 1))))) = R →
        F161_j5 (some ⟨b, 0, none⟩) n c lo hi (.func (.func f) ⟨ga⟩ ⟨gb⟩) i (5 - ((k + 1 : Nat) : Int)) (HA hp0 b 75 sp t4 d') I K := by
      intro i h1 h2 _ h4
      unfold F161_j5
      by_cases hih : i = hi
      · rw [if_pos hih] at h4
        subst hih
        simp only [beq_self_eq_true, ite2_true]
        rw [← h4] at h
        exact h
      rw [if_neg hih] at h4
      have hb : ((i : Int) == (hi : Int)) = false := by
        rw [beq_eq_false_iff_ne]; omega
      rw [hb, ite2_false]
      have v : IntKind.wrap .i64 ((hi : Int) - (lo : Int)) = ((hi - lo : Nat) : Int) := wi (by omega) (by omega)
      rw [v]
      by_cases h50 : hi - lo < 50
      · rw [if_pos h50] at h4
        rw [decide_eq_true (by omega : ((hi - lo : Nat) : Int) < 50), ite2_true]
        rw [← h4] at h
        exact h
      rw [if_neg h50] at h4
      rw [decide_eq_false (by omega : ¬ ((hi - lo : Nat) : Int) < 50), ite2_false]
      have v2 : IntKind.wrap .i64 ((i : Int) - 1) = ((i - 1 : Nat) : Int) := wi (by omega) (by omega)
      have v3 : IntKind.wrap .i64 ((i : Int) - (lo : Int)) = ((i - lo : Nat) : Int) := wi (by omega) (by omega)
      simp only [v2, v3]
      refine swapP t4_len t4_one hs' (i := i) (j := i - 1) rfl rfl (by omega) (by omega) ?_
      have hs1 : (Sort.swp d' i (i - 1)).size = n := by rw [swp_size]; exact hs'
      generalize Sort.swp d' i (i - 1) = d1 at *
      unfold Sort.fixDown at h4
      by_cases hd : i - lo ≥ 2
      · rw [if_pos hd] at h4
        rw [decide_eq_true (by omega : ((i - lo : Nat) : Int) ≥ 2), ite2_true]
        unfold F161_j9
        refine LoopP.by (J := fun m (y : Int) hp => ∃ (d2 : Array (Q × Int)), y = m ∧ hp = HA hp0 b 75 sp t4 d2 ∧ d2.size = n ∧ m < n ∧ Sort.shiftDown (ltC cf) m d2 = Sort.shiftDown (ltC cf) (i - 1) d1) ?_
          (n := i - 1) ⟨d1, rfl, rfl, hs1, by omega, rfl⟩
        rintro I10 m y hp ⟨d2, rfl, rfl, h5, h6, h7⟩ hI10
        unfold F161_l10
        cases m with
        | zero =>
          rw [Sort.shiftDown] at h7
          rw [decide_eq_false (by omega : ¬ ((0 : Nat) : Int) ≥ 1), ite2_false]
          rw [← h7] at h4
          exact fin6 i d2 h1 (by omega) h5 h4
        | succ m =>
          rw [Sort.shiftDown] at h7
          have v4 : IntKind.wrap .i64 (((m + 1 : Nat) : Int) - 1) = (m : Int) := wi (by omega) (by omega)
          simp only [v4]
          rw [decide_eq_true (by omega : ((m + 1 : Nat) : Int) ≥ 1), ite2_true]
          refine cmpP hc t4_len h5 (i := m + 1) (j := m) rfl rfl (by omega) (by omega) ?_
          have hl : decide (cf d2[m + 1]! d2[m]! < 0) = ltC cf d2[m + 1]! d2[m]! := rfl
          rw [hl]
          cases hlt : ltC cf d2[m + 1]! d2[m]!
          · rw [hlt] at h7
            simp only [Bool.not_false, if_true] at h7
            simp only [Bool.not_false, ite2_true]
            rw [← h7] at h4
            exact fin6 i d2 h1 (by omega) h5 h4
          · rw [hlt] at h7
            simp only [Bool.not_true, Bool.false_eq_true, if_false] at h7
            simp only [Bool.not_true, ite2_false]
            refine swapP t4_len t4_one h5 (i := m + 1) (j := m) rfl rfl (by omega) (by omega) ?_
            exact hI10 m _ _ (by omega) ⟨_, rfl, rfl, by rw [swp_size]; exact h5, by omega, h7⟩
      · rw [if_neg hd] at h4
        rw [decide_eq_false (by omega : ¬ ((i - lo : Nat) : Int) ≥ 2), ite2_false]
        exact fin6 i d1 h1 (by omega) hs1 h4
    refine LoopP.by (J := fun m (y : Int) hp => ∃ (i' : Nat), y = i' ∧ hp = HA hp0 b 75 sp t4 d' ∧ lo < i' ∧ i' ≤ hi ∧ m = hi - i' ∧ Sort.scanSorted (ltC cf) d' hi i' = Sort.scanSorted (ltC cf) d' hi i) ?_
      (n := hi - i) ⟨i, rfl, rfl, hli, hih, rfl, rfl⟩
    rintro I11 m y hp ⟨i', rfl, rfl, h1, h2, rfl, h7⟩ hI11
    unfold F161_l11
    rw [← h7] at he
    have out : Sort.scanSorted (ltC cf) d' hi i' = i' → F161_j12 (some ⟨b, 0, none⟩) n c lo hi (.func (.func f) ⟨ga⟩ ⟨gb⟩) i' (5 - ((k + 1 : Nat) : Int)) false (HA hp0 b 75 sp t4 d') I I11 K := by
      intro hq
      unfold F161_j12
      rw [ite2_false]
      rw [hq] at he
      exact fin5 i' h1 h2 hq he
    by_cases hj : i' < hi
    · have v2 : IntKind.wrap .i64 ((i' : Int) - 1) = ((i' - 1 : Nat) : Int) := wi (by omega) (by omega)
      simp only [v2]
      rw [decide_eq_true (by omega : (i' : Int) < (hi : Int)), ite2_true]
      refine cmpP hc t4_len hs' (i := i') (j := i' - 1) rfl rfl (by omega) (by omega) ?_
      have hl : decide (cf d'[i']! d'[i' - 1]! < 0) = ltC cf d'[i']! d'[i' - 1]! := rfl
      rw [hl]
      cases hlt : ltC cf d'[i']! d'[i' - 1]!
      · unfold F161_j12
        have v3 : IntKind.wrap .i64 ((i' : Int) + 1) = ((i' + 1 : Nat) : Int) := wi (by omega) (by omega)
        simp only [Bool.not_false, ite2_true, v3]
        refine hI11 (hi - (i' + 1)) _ _ (by omega) ⟨i' + 1, rfl, rfl, by omega, by omega, rfl, ?_⟩
        rw [← h7]
        rw [Sort.scanSorted.eq_def (ltC cf) d' hi i', hlt, decide_eq_true hj]
        simp
      · simp only [Bool.not_true]
        refine out ?_
        rw [Sort.scanSorted, hlt]
        simp
    · rw [decide_eq_false (by omega : ¬ (i' : Int) < (hi : Int)), ite2_false]
      refine out ?_
      rw [Sort.scanSorted, decide_eq_false hj]
      simp

end
end Go.Proofs

set_option linter.unusedVariables false
set_option maxRecDepth 20000
namespace Go.Proofs
open Go Go.HL

section
variable {f : FuncId} {ga gb : List Value} {hp0 : HP} {b sp n c : Nat} {cf : (Q × Int) → (Q × Int) → Int}

theorem S162 (hc : CmpOk Try.prog f ga gb hp0 b 75 sp t4 n cf) {d : Array (Q × Int)} {lo hi pv : Nat} {K : Value → HP → Prop} (hs : d.size = n) (hlo : lo < hi) (hf : hi ≤ n) (hp : pv < n) (hn : n ≤ 1000000000)
    (h : K (.int .i64 ((Sort.partitionEqual (ltC cf) d lo hi pv).1 : Nat)) (HA hp0 b 75 sp t4 (Sort.partitionEqual (ltC cf) d lo hi pv).2)) :
    CF Try.prog 162 [.slice (some ⟨b, 0, none⟩) n c, .int .i64 lo, .int .i64 hi, .int .i64 pv, .func (.func f) ⟨ga⟩ ⟨gb⟩] (HA hp0 b 75 sp t4 d) K := by
  refine F162_ok _ n c lo hi pv _ _ K ?_
  unfold F162
  refine swapP t4_len t4_one hs (i := lo) (j := pv) rfl rfl (by omega) (by omega) ?_
  unfold Sort.partitionEqual at h
  have hs1 : (Sort.swp d lo pv).size = n := by rw [swp_size]; exact hs
  generalize Sort.swp d lo pv = d1 at *
  have w1 : IntKind.wrap .i64 ((lo : Int) + 1) = ((lo + 1 : Nat) : Int) := wi (by omega) (by omega)
  have w2 : IntKind.wrap .i64 ((hi : Int) - 1) = ((hi - 1 : Nat) : Int) := wi (by omega) (by omega)
  rw [w1, w2]
  generalize hR : Sort.partEqLoop (ltC cf) lo (lo + 1) (hi - 1) d1 = R at h
  unfold F162_j1
  refine LoopP.by (J := fun k (s : Int × Int) hp => ∃ (i j : Nat) (d' : Array (Q × Int)), s = ((i : Int), (j : Int)) ∧ hp = HA hp0 b 75 sp t4 d' ∧ d'.size = n ∧ lo < i ∧ i ≤ j + 2 ∧ j < n ∧ k = j + 1 - i ∧ Sort.partEqLoop (ltC cf) lo i j d' = R) ?_
    (n := hi - 1 + 1 - (lo + 1)) ⟨lo + 1, hi - 1, d1, rfl, rfl, hs1, by omega, by omega, by omega, rfl, hR⟩
  rintro I k x hp ⟨i, j, d', rfl, rfl, hs', hli, hij, hj, rfl, he⟩ hI
  unfold F162_l3
  simp only []
  rw [Sort.partEqLoop_eq] at he
  refine LoopP.by (J := fun m (y : Int) hp => ∃ (i' : Nat), y = i' ∧ hp = HA hp0 b 75 sp t4 d' ∧ i ≤ i' ∧ i' ≤ j + 2 ∧ m = j + 2 - i' ∧ Sort.scanUp (fun x => !ltC cf d'[lo]! x) d' j i' = Sort.scanUp (fun x => !ltC cf d'[lo]! x) d' j i) ?_
    (n := j + 2 - i) ⟨i, rfl, rfl, Nat.le_refl _, hij, rfl, rfl⟩
  rintro I8 m y hp ⟨i', rfl, rfl, h1, h2, rfl, h7⟩ hI8
  unfold F162_l8
  rw [← h7] at he
  have out : Sort.scanUp (fun x => !ltC cf d'[lo]! x) d' j i' = i' → F162_j9 (some ⟨b, 0, none⟩) n c lo (.func (.func f) ⟨ga⟩ ⟨gb⟩) i' j false (HA hp0 b 75 sp t4 d') I I8 K := by
    intro hq
    rw [hq] at he
    unfold F162_j9 F162_j4
    rw [ite2_false]
    refine LoopP.by (J := fun m (y : Int) hp => ∃ (j' : Nat), y = j' ∧ hp = HA hp0 b 75 sp t4 d' ∧ j' ≤ j ∧ m = j' ∧ Sort.scanDown (fun x => ltC cf d'[lo]! x) d' i' j' = Sort.scanDown (fun x => ltC cf d'[lo]! x) d' i' j) ?_
      (n := j) ⟨j, rfl, rfl, Nat.le_refl _, rfl, rfl⟩
    rintro I6 m y hp ⟨j', rfl, rfl, g1, rfl, g7⟩ hI6
    unfold F162_l6
    rw [← g7] at he
    have out2 : Sort.scanDown (fun x => ltC cf d'[lo]! x) d' i' m = m → F162_j7 (some ⟨b, 0, none⟩) n c lo (.func (.func f) ⟨ga⟩ ⟨gb⟩) i' m false (HA hp0 b 75 sp t4 d') I I6 K := by
      intro hq2
      rw [hq2] at he
      unfold F162_j7 F162_j5
      rw [ite2_false]
      by_cases hgt : i' > m
      · rw [if_pos hgt] at he
        rw [decide_eq_true (by omega : (i' : Int) > (m : Int)), ite2_true]
        unfold F162_j2
        rw [← he] at h
        exact h
      · rw [if_neg hgt] at he
        rw [decide_eq_false (by omega : ¬ (i' : Int) > (m : Int)), ite2_false]
        refine swapP t4_len t4_one hs' (i := i') (j := m) rfl rfl (by omega) (by omega) ?_
        have v1 : IntKind.wrap .i64 ((i' : Int) + 1) = ((i' + 1 : Nat) : Int) := wi (by omega) (by omega)
        have v2 : IntKind.wrap .i64 ((m : Int) - 1) = ((m - 1 : Nat) : Int) := wi (by omega) (by omega)
        rw [v1, v2]
        exact hI (m - 1 + 1 - (i' + 1)) _ _ (by omega) ⟨i' + 1, m - 1, _, rfl, rfl, by rw [swp_size]; exact hs', by omega, by omega, by omega, rfl, he⟩
    by_cases hle : i' ≤ m
    · rw [decide_eq_true (by omega : (i' : Int) ≤ (m : Int)), ite2_true]
      refine cmpP hc t4_len hs' (i := lo) (j := m) rfl rfl (by omega) (by omega) ?_
      have hl : decide (cf d'[lo]! d'[m]! < 0) = ltC cf d'[lo]! d'[m]! := rfl
      rw [hl]
      obtain ⟨m, rfl⟩ : ∃ m', m = m' + 1 := ⟨m - 1, by omega⟩
      cases hlt : ltC cf d'[lo]! d'[m + 1]!
      · refine out2 ?_
        rw [Sort.scanDown, hlt]
        simp
      · unfold F162_j7
        have v2 : IntKind.wrap .i64 (((m + 1 : Nat) : Int) - 1) = (m : Int) := wi (by omega) (by omega)
        rw [ite2_true, v2]
        refine hI6 m _ _ (by omega) ⟨m, rfl, rfl, by omega, rfl, ?_⟩
        rw [← g7, Sort.scanDown.eq_def _ _ _ (m + 1)]
        simp only [hlt, decide_eq_true hle, Bool.and_self, if_true]
    · rw [decide_eq_false (by omega : ¬ (i' : Int) ≤ (m : Int)), ite2_false]
      refine out2 ?_
      cases m with
      | zero => rw [Sort.scanDown]
      | succ m => rw [Sort.scanDown, decide_eq_false hle]; simp
  by_cases hle : i' ≤ j
  · rw [decide_eq_true (by omega : (i' : Int) ≤ (j : Int)), ite2_true]
    refine cmpP hc t4_len hs' (i := lo) (j := i') rfl rfl (by omega) (by omega) ?_
    have hl : decide (cf d'[lo]! d'[i']! < 0) = ltC cf d'[lo]! d'[i']! := rfl
    rw [hl]
    cases hlt : ltC cf d'[lo]! d'[i']!
    · unfold F162_j9
      have v2 : IntKind.wrap .i64 ((i' : Int) + 1) = ((i' + 1 : Nat) : Int) := wi (by omega) (by omega)
      simp only [Bool.not_false, ite2_true, v2]
      refine hI8 (j + 2 - (i' + 1)) _ _ (by omega) ⟨i' + 1, rfl, rfl, by omega, by omega, rfl, ?_⟩
      rw [← h7, Sort.scanUp.eq_def _ _ _ i']
      simp only [hlt, decide_eq_true hle, Bool.not_false, Bool.and_self, if_true]
    · simp only [Bool.not_true]
      refine out ?_
      rw [Sort.scanUp, hlt]
      simp
  · rw [decide_eq_false (by omega : ¬ (i' : Int) ≤ (j : Int)), ite2_false]
    refine out ?_
    rw [Sort.scanUp, decide_eq_false hle]
    simp

end
end Go.Proofs

set_option linter.unusedVariables false
set_option maxRecDepth 20000
namespace Go.Proofs
open Go Go.HL

section
variable {f : FuncId} {ga gb : List Value} {hp0 : HP} {b sp n c : Nat} {cf : (Q × Int) → (Q × Int) → Int}

theorem S163 (hc : CmpOk Try.prog f ga gb hp0 b 75 sp t4 n cf) {d : Array (Q × Int)} {lo hi pv : Nat} {K : Value → HP → Prop} (hs : d.size = n) (hlo : lo < hi) (hf : hi ≤ n) (hp : pv < n) (hn : n ≤ 1000000000)
    (h : K (.tuple ⟨[.int .i64 ((Sort.partition (ltC cf) d lo hi pv).1 : Nat), .bool (Sort.partition (ltC cf) d lo hi pv).2.1]⟩) (HA hp0 b 75 sp t4 (Sort.partition (ltC cf) d lo hi pv).2.2)) :
    CF Try.prog 163 [.slice (some ⟨b, 0, none⟩) n c, .int .i64 lo, .int .i64 hi, .int .i64 pv, .func (.func f) ⟨ga⟩ ⟨gb⟩] (HA hp0 b 75 sp t4 d) K := by
  refine F163_ok _ n c lo hi pv _ _ K ?_
  unfold F163
  refine swapP t4_len t4_one hs (i := lo) (j := pv) rfl rfl (by omega) (by omega) ?_
  unfold Sort.partition at h
  have hs' : (Sort.swp d lo pv).size = n := by rw [swp_size]; exact hs
  generalize Sort.swp d lo pv = d' at *
  have w1 : IntKind.wrap .i64 ((lo : Int) + 1) = ((lo + 1 : Nat) : Int) := wi (by omega) (by omega)
  have w2 : IntKind.wrap .i64 ((hi : Int) - 1) = ((hi - 1 : Nat) : Int) := wi (by omega) (by omega)
  rw [w1, w2]
  simp only [] at h
  have hij : lo + 1 ≤ hi - 1 + 2 := by omega
  have hjn : hi - 1 < n := by omega
  have hli : lo < lo + 1 := by omega
  generalize hi0 : lo + 1 = i at *
  generalize hj0 : hi - 1 = j at *
  unfold F163_j1
  -- behind the first two scans
  have fin : ∀ (i' m : Nat), Sort.scanUp (fun x => ltC cf x d'[lo]!) d' j i = i' → Sort.scanDown (fun x => !ltC cf x d'[lo]!) d' i' j = m → i ≤ i' → i' ≤ j + 2 → m ≤ j → F163_j3 (some ⟨b, 0, none⟩) n c lo (.func (.func f) ⟨ga⟩ ⟨gb⟩) i' m (HA hp0 b 75 sp t4 d') K := by
    intro i' m hq hq2 h1 h2 h3
    rw [hq, hq2] at h
    unfold F163_j3
    by_cases hgt : i' > m
    · rw [if_pos hgt] at h
      rw [decide_eq_true (by omega : (i' : Int) > (m : Int)), ite2_true]
      refine swapP t4_len t4_one hs' (i := m) (j := lo) rfl rfl (by omega) (by omega) ?_
      exact h
    rw [if_neg hgt] at h
    rw [decide_eq_false (by omega : ¬ (i' : Int) > (m : Int)), ite2_false]
    refine swapP t4_len t4_one hs' (i := i') (j := m) rfl rfl (by omega) (by omega) ?_
    have v1 : IntKind.wrap .i64 ((i' : Int) + 1) = ((i' + 1 : Nat) : Int) := wi (by omega) (by omega)
    have v2 : IntKind.wrap .i64 ((m : Int) - 1) = ((m - 1 : Nat) : Int) := wi (by omega) (by omega)
    rw [v1, v2]
    have hs2 : (Sort.swp d' i' m).size = n := by rw [swp_size]; exact hs'
    generalize Sort.swp d' i' m = d2 at *
    generalize hR : Sort.partLoop (ltC cf) lo (i' + 1) (m - 1) d2 = R at h
    unfold F163_j4
    refine LoopP.by (J := fun k (s : Int × Int) hp => ∃ (i j : Nat) (d' : Array (Q × Int)), s = ((i : Int), (j : Int)) ∧ hp = HA hp0 b 75 sp t4 d' ∧ d'.size = n ∧ lo < i ∧ i ≤ j + 2 ∧ j < n ∧ k = j + 1 - i ∧ Sort.partLoop (ltC cf) lo i j d' = R) ?_
      (n := m - 1 + 1 - (i' + 1)) ⟨i' + 1, m - 1, d2, rfl, rfl, hs2, by omega, by omega, by omega, rfl, hR⟩
    clear hs' hij hjn hli hq hq2 h1 h2 h3 hR
    clear hi0 hj0
    rintro I6 k x hp ⟨i, j, d', rfl, rfl, hs', hli, hij, hj, rfl, he⟩ hI
    unfold F163_l6
    simp only []
    rw [Sort.partLoop_eq] at he
    have fin2 : ∀ (i' m : Nat), Sort.scanUp (fun x => ltC cf x d'[lo]!) d' j i = i' → Sort.scanDown (fun x => !ltC cf x d'[lo]!) d' i' j = m → i ≤ i' → i' ≤ j + 2 → m ≤ j → F163_j8 (some ⟨b, 0, none⟩) n c lo (.func (.func f) ⟨ga⟩ ⟨gb⟩) i' m (HA hp0 b 75 sp t4 d') I6 K := by
      intro i' m hq hq2 h1 h2 h3
      rw [hq, hq2] at he
      unfold F163_j8
      by_cases hgt : i' > m
      · rw [if_pos hgt] at he
        rw [decide_eq_true (by omega : (i' : Int) > (m : Int)), ite2_true]
        unfold F163_j5
        rw [← he] at h
        refine swapP t4_len t4_one hs' (i := m) (j := lo) rfl rfl (by omega) (by omega) ?_
        exact h
      · rw [if_neg hgt] at he
        rw [decide_eq_false (by omega : ¬ (i' : Int) > (m : Int)), ite2_false]
        refine swapP t4_len t4_one hs' (i := i') (j := m) rfl rfl (by omega) (by omega) ?_
        have v1 : IntKind.wrap .i64 ((i' : Int) + 1) = ((i' + 1 : Nat) : Int) := wi (by omega) (by omega)
        have v2 : IntKind.wrap .i64 ((m : Int) - 1) = ((m - 1 : Nat) : Int) := wi (by omega) (by omega)
        rw [v1, v2]
        exact hI (m - 1 + 1 - (i' + 1)) _ _ (by omega) ⟨i' + 1, m - 1, _, rfl, rfl, by rw [swp_size]; exact hs', by omega, by omega, by omega, rfl, he⟩
    clear he
    refine LoopP.by (J := fun m (y : Int) hp => ∃ (i' : Nat), y = i' ∧ hp = HA hp0 b 75 sp t4 d' ∧ i ≤ i' ∧ i' ≤ j + 2 ∧ m = j + 2 - i' ∧ Sort.scanUp (fun x => ltC cf x d'[lo]!) d' j i' = Sort.scanUp (fun x => ltC cf x d'[lo]!) d' j i) ?_
      (n := j + 2 - i) ⟨i, rfl, rfl, Nat.le_refl _, hij, rfl, rfl⟩
    rintro I11 m y hp ⟨i', rfl, rfl, h1, h2, rfl, h7⟩ hI11
    unfold F163_l11
    have out : Sort.scanUp (fun x => ltC cf x d'[lo]!) d' j i' = i' → F163_j12 (some ⟨b, 0, none⟩) n c lo (.func (.func f) ⟨ga⟩ ⟨gb⟩) i' j false (HA hp0 b 75 sp t4 d') I6 I11 K := by
      intro hq
      rw [hq] at h7
      unfold F163_j12 F163_j7
      rw [ite2_false]
      refine LoopP.by (J := fun m (y : Int) hp => ∃ (j' : Nat), y = j' ∧ hp = HA hp0 b 75 sp t4 d' ∧ j' ≤ j ∧ m = j' ∧ Sort.scanDown (fun x => !ltC cf x d'[lo]!) d' i' j' = Sort.scanDown (fun x => !ltC cf x d'[lo]!) d' i' j) ?_
        (n := j) ⟨j, rfl, rfl, Nat.le_refl _, rfl, rfl⟩
      rintro I9 m y hp ⟨j', rfl, rfl, g1, rfl, g7⟩ hI9
      unfold F163_l9
      have out2 : Sort.scanDown (fun x => !ltC cf x d'[lo]!) d' i' m = m → F163_j10 (some ⟨b, 0, none⟩) n c lo (.func (.func f) ⟨ga⟩ ⟨gb⟩) i' m false (HA hp0 b 75 sp t4 d') I6 I9 K := by
        intro hq2
        rw [hq2] at g7
        unfold F163_j10
        rw [ite2_false]
        exact fin2 i' m h7.symm g7.symm h1 h2 g1
      by_cases hle : i' ≤ m
      · rw [decide_eq_true (by omega : (i' : Int) ≤ (m : Int)), ite2_true]
        refine cmpP hc t4_len hs' (i := m) (j := lo) rfl rfl (by omega) (by omega) ?_
        have hl : decide (cf d'[m]! d'[lo]! < 0) = ltC cf d'[m]! d'[lo]! := rfl
        rw [hl]
        obtain ⟨m, rfl⟩ : ∃ m', m = m' + 1 := ⟨m - 1, by omega⟩
        cases hlt : ltC cf d'[m + 1]! d'[lo]!
        · unfold F163_j10
          have v2 : IntKind.wrap .i64 (((m + 1 : Nat) : Int) - 1) = (m : Int) := wi (by omega) (by omega)
          simp only [Bool.not_false, ite2_true, v2]
          refine hI9 m _ _ (by omega) ⟨m, rfl, rfl, by omega, rfl, ?_⟩
          rw [← g7, Sort.scanDown.eq_def _ _ _ (m + 1)]
          simp only [hlt, decide_eq_true hle, Bool.not_false, Bool.and_self, if_true]
        · simp only [Bool.not_true]
          refine out2 ?_
          rw [Sort.scanDown, hlt]
          simp
      · rw [decide_eq_false (by omega : ¬ (i' : Int) ≤ (m : Int)), ite2_false]
        refine out2 ?_
        cases m with
        | zero => rw [Sort.scanDown]
        | succ m => rw [Sort.scanDown, decide_eq_false hle]; simp
    by_cases hle : i' ≤ j
    · rw [decide_eq_true (by omega : (i' : Int) ≤ (j : Int)), ite2_true]
      refine cmpP hc t4_len hs' (i := i') (j := lo) rfl rfl (by omega) (by omega) ?_
      have hl : decide (cf d'[i']! d'[lo]! < 0) = ltC cf d'[i']! d'[lo]! := rfl
      rw [hl]
      cases hlt : ltC cf d'[i']! d'[lo]!
      · refine out ?_
        rw [Sort.scanUp, hlt]
        simp
      · unfold F163_j12
        have v2 : IntKind.wrap .i64 ((i' : Int) + 1) = ((i' + 1 : Nat) : Int) := wi (by omega) (by omega)
        simp only [ite2_true, v2]
        refine hI11 (j + 2 - (i' + 1)) _ _ (by omega) ⟨i' + 1, rfl, rfl, by omega, by omega, rfl, ?_⟩
        rw [← h7, Sort.scanUp.eq_def _ _ _ i']
        simp only [hlt, decide_eq_true hle, Bool.and_self, if_true]
    · rw [decide_eq_false (by omega : ¬ (i' : Int) ≤ (j : Int)), ite2_false]
      refine out ?_
      rw [Sort.scanUp, decide_eq_false hle]
      simp
  refine LoopP.by (J := fun m (y : Int) hp => ∃ (i' : Nat), y = i' ∧ hp = HA hp0 b 75 sp t4 d' ∧ i ≤ i' ∧ i' ≤ j + 2 ∧ m = j + 2 - i' ∧ Sort.scanUp (fun x => ltC cf x d'[lo]!) d' j i' = Sort.scanUp (fun x => ltC cf x d'[lo]!) d' j i) ?_
    (n := j + 2 - i) ⟨i, rfl, rfl, Nat.le_refl _, hij, rfl, rfl⟩
  rintro I15 m y hp ⟨i', rfl, rfl, h1, h2, rfl, h7⟩ hI15
  unfold F163_l15
  have out : Sort.scanUp (fun x => ltC cf x d'[lo]!) d' j i' = i' → F163_j16 (some ⟨b, 0, none⟩) n c lo (.func (.func f) ⟨ga⟩ ⟨gb⟩) i' j false (HA hp0 b 75 sp t4 d')  I15 K := by
    intro hq
    rw [hq] at h7
    unfold F163_j16 F163_j2
    rw [ite2_false]
    refine LoopP.by (J := fun m (y : Int) hp => ∃ (j' : Nat), y = j' ∧ hp = HA hp0 b 75 sp t4 d' ∧ j' ≤ j ∧ m = j' ∧ Sort.scanDown (fun x => !ltC cf x d'[lo]!) d' i' j' = Sort.scanDown (fun x => !ltC cf x d'[lo]!) d' i' j) ?_
      (n := j) ⟨j, rfl, rfl, Nat.le_refl _, rfl, rfl⟩
    rintro I13 m y hp ⟨j', rfl, rfl, g1, rfl, g7⟩ hI13
    unfold F163_l13
    have out2 : Sort.scanDown (fun x => !ltC cf x d'[lo]!) d' i' m = m → F163_j14 (some ⟨b, 0, none⟩) n c lo (.func (.func f) ⟨ga⟩ ⟨gb⟩) i' m false (HA hp0 b 75 sp t4 d')  I13 K := by
      intro hq2
      rw [hq2] at g7
      unfold F163_j14
      rw [ite2_false]
      exact fin i' m h7.symm g7.symm h1 h2 g1
    by_cases hle : i' ≤ m
    · rw [decide_eq_true (by omega : (i' : Int) ≤ (m : Int)), ite2_true]
      refine cmpP hc t4_len hs' (i := m) (j := lo) rfl rfl (by omega) (by omega) ?_
      have hl : decide (cf d'[m]! d'[lo]! < 0) = ltC cf d'[m]! d'[lo]! := rfl
      rw [hl]
      obtain ⟨m, rfl⟩ : ∃ m', m = m' + 1 := ⟨m - 1, by omega⟩
      cases hlt : ltC cf d'[m + 1]! d'[lo]!
      · unfold F163_j14
        have v2 : IntKind.wrap .i64 (((m + 1 : Nat) : Int) - 1) = (m : Int) := wi (by omega) (by omega)
        simp only [Bool.not_false, ite2_true, v2]
        refine hI13 m _ _ (by omega) ⟨m, rfl, rfl, by omega, rfl, ?_⟩
        rw [← g7, Sort.scanDown.eq_def _ _ _ (m + 1)]
        simp only [hlt, decide_eq_true hle, Bool.not_false, Bool.and_self, if_true]
      · simp only [Bool.not_true]
        refine out2 ?_
        rw [Sort.scanDown, hlt]
        simp
    · rw [decide_eq_false (by omega : ¬ (i' : Int) ≤ (m : Int)), ite2_false]
      refine out2 ?_
      cases m with
      | zero => rw [Sort.scanDown]
      | succ m => rw [Sort.scanDown, decide_eq_false hle]; simp
  by_cases hle : i' ≤ j
  · rw [decide_eq_true (by omega : (i' : Int) ≤ (j : Int)), ite2_true]
    refine cmpP hc t4_len hs' (i := i') (j := lo) rfl rfl (by omega) (by omega) ?_
    have hl : decide (cf d'[i']! d'[lo]! < 0) = ltC cf d'[i']! d'[lo]! := rfl
    rw [hl]
    cases hlt : ltC cf d'[i']! d'[lo]!
    · refine out ?_
      rw [Sort.scanUp, hlt]
      simp
    · unfold F163_j16
      have v2 : IntKind.wrap .i64 ((i' : Int) + 1) = ((i' + 1 : Nat) : Int) := wi (by omega) (by omega)
      simp only [ite2_true, v2]
      refine hI15 (j + 2 - (i' + 1)) _ _ (by omega) ⟨i' + 1, rfl, rfl, by omega, by omega, rfl, ?_⟩
      rw [← h7, Sort.scanUp.eq_def _ _ _ i']
      simp only [hlt, decide_eq_true hle, Bool.and_self, if_true]
  · rw [decide_eq_false (by omega : ¬ (i' : Int) ≤ (j : Int)), ite2_false]
    refine out ?_
    rw [Sort.scanUp, decide_eq_false hle]
    simp

end
end Go.Proofs

