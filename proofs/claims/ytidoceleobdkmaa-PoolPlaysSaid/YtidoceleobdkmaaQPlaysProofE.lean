/- Parts of the proof of PlaysProof: the logic of what is known of memory, functions' contracts. -/
import Derived.Test.YtidoceleobdkmaaQPlaysProofD
import Derived.Test.YtidoceleobdkmaaHlAbb
import Derived.Test.YtidoceleobdkmaaProg
set_option linter.unusedVariables false
set_option maxRecDepth 20000
namespace Go.Proofs
open Go Go.HL
-- 13 interpreter/interpreterlaw18.PoolPlays
section
variable (e : Env) (x0a : Option Addr) (x0n x0c : Nat) (x1 x2 : Int) (x3a : Option Addr) (x3n x3c : Nat) (x9 : Option Addr) (x10 : Int) (x11 : Option Addr) (x12 : Int) (x13a : Option Addr) (x13n x13c : Nat) (x14a : Option Addr) (x14n x14c : Nat) (x15 : Int) (hp : HP) (K : Env → PV → HP → Prop)
abbrev R13 (p : List Nat) (n : Nat) := RW Try.prog 104 [] (opsAt Try.f13 p) (List.range n)
theorem F13_r0 : R13 [0] 1 e V0 hp K =
    (K (upd e 8 (sB false)) V0 hp) := by kernel_rfl
theorem F13_r1 : R13 [1, 0, 1, 0, 0] 2 e V0 hp K =
    (CF Try.prog 21 [] hp fun u1 h2 => (boolV u1 fun q3 => (K (upd (upd e 25 (sB q3)) 8 (sB q3)) V0 h2))) := by kernel_rfl
theorem F13_r2 : R13 [1, 1, 0] 9 (upd (upd (upd e 2 (sI x2)) 1 (sI x1)) 0 (sS x0a x0n x0c)) V0 hp K =
    (CF Try.prog 44 [(.slice x0a x0n x0c), (.int .i64 x1), (.int .i64 x2)] hp fun u1 h2 => (tup2V u1 fun u3 u4 => (ptrV u3 fun p5 => (intV u4 .i64 fun i6 => (K (upd (upd (upd (upd (upd (upd (upd (upd (upd (upd (upd (upd e 2 (sI x2)) 1 (sI x1)) 0 (sS x0a x0n x0c)) 27 (sS x0a x0n x0c)) 28 (sI x1)) 29 (sI x2)) 30 (sV (.tuple ⟨[(.pointer p5), (.int .i64 i6)]⟩))) 26 (sV (.tuple ⟨[(.pointer p5), (.int .i64 i6)]⟩))) 31 (sP p5)) 32 (sI i6)) 9 (sP p5)) 10 (sI i6)) V0 h2))))) := by kernel_rfl
theorem F13_r3 : R13 [1, 1, 1, 0, 0] 5 (upd (upd (upd e 2 (sI x2)) 1 (sI x1)) 0 (sS x0a x0n x0c)) V0 hp K =
    (CF Try.prog 55 [(.slice x0a x0n x0c), (.int .i64 x1), (.int .i64 x2)] hp fun u1 h2 => (boolV u1 fun q3 => (K (upd (upd (upd (upd (upd (upd (upd (upd e 2 (sI x2)) 1 (sI x1)) 0 (sS x0a x0n x0c)) 33 (sS x0a x0n x0c)) 34 (sI x1)) 35 (sI x2)) 36 (sB q3)) 37 (sB ((!q3)))) V0 h2))) := by kernel_rfl
theorem F13_r4 : R13 [1, 1, 1, 0, 1, 0, 0] 10 (upd (upd e 10 (sI x10)) 9 (sP x9)) V0 hp K =
    (ite2 (Option.isNone x9) (ite2 (x10 == 1) (CF Try.prog 21 [] hp fun u1 h2 => (boolV u1 fun q3 => (K (upd (upd (upd (upd (upd (upd (upd (upd (upd (upd (upd (upd e 10 (sI x10)) 9 (sP x9)) 38 (sP x9)) 39 (sB ((Option.isNone x9)))) 40 (sB true)) 41 (sI x10)) 42 (sB ((x10 == 1)))) 43 (sB ((x10 == 1)))) 44 (sB true)) 45 (sB q3)) 46 (sB q3)) 8 (sB q3)) V0 h2))) (K (upd (upd (upd (upd (upd (upd (upd (upd (upd (upd (upd (upd e 10 (sI x10)) 9 (sP x9)) 38 (sP x9)) 39 (sB ((Option.isNone x9)))) 40 (sB true)) 41 (sI x10)) 42 (sB ((x10 == 1)))) 43 (sB ((x10 == 1)))) 44 (sB false)) 45 sU) 46 (sB false)) 8 (sB false)) V0 hp)) (K (upd (upd (upd (upd (upd (upd (upd (upd (upd (upd (upd (upd e 10 (sI x10)) 9 (sP x9)) 38 (sP x9)) 39 (sB ((Option.isNone x9)))) 40 (sB false)) 41 sU) 42 sU) 43 (sB false)) 44 (sB false)) 45 sU) 46 (sB false)) 8 (sB false)) V0 hp)) := by kernel_rfl
theorem F13_r5 : R13 [1, 1, 1, 1, 0, 1, 0, 0] 1 e V0 hp K =
    (K (upd e 8 (sB false)) V0 hp) := by kernel_rfl
theorem F13_r6 : R13 [1, 1, 1, 1, 1, 0] 6 (upd (upd (upd e 2 (sI x2)) 1 (sI x1)) 0 (sS x0a x0n x0c)) V0 hp K =
    (∀ b1 : Nat, hp b1 = .none → (K (upd (upd (upd (upd (upd (upd (upd (upd (upd e 2 (sI x2)) 1 (sI x1)) 0 (sS x0a x0n x0c)) 53 (sS x0a x0n x0c)) 54 (sI x1)) 55 (sI x2)) 56 (sV (.agg ⟨[(.slice x0a x0n x0c), (.int .i64 x1), (.int .i64 x2), (.slice none 0 0)]⟩))) 57 (sQ b1 0)) 11 (sQ b1 0)) V0 (HP.set hp b1 (.cells 93 [(.slice x0a x0n x0c), (.int .i64 x1), (.int .i64 x2), (.slice none 0 0)] 0)))) := by kernel_rfl
theorem F13_r7 : R13 [1, 1, 1, 1, 1, 1, 1, 0] 2 e V0 hp K =
    (CF Try.prog 21 [] hp fun u1 h2 => (boolV u1 fun q3 => (K (upd (upd e 103 (sB q3)) 8 (sB q3)) V0 h2))) := by kernel_rfl
def F13_j3 (hp : HP) (K : Value → HP → Prop) : Prop :=
  (CF Try.prog 21 [] hp fun u_17 h_18 => (boolV u_17 fun q_19 => (K (.bool q_19) h_18)))
theorem F13_r8 : R13 [1, 1, 1, 1, 1, 1, 0, 1, 0, 0, 0, 0] 4 (upd (upd e 12 (sI x12)) 3 (sS x3a x3n x3c)) V0 hp K =
    (K (upd (upd (upd (upd (upd (upd e 12 (sI x12)) 3 (sS x3a x3n x3c)) 58 (sI x12)) 59 (sS x3a x3n x3c)) 60 (sI ((x3n : Nat)))) 61 (sB ((decide (x12 < x3n))))) V0 hp) := by kernel_rfl
theorem F13_r9 : R13 [1, 1, 1, 1, 1, 1, 0, 1, 0, 0, 1, 1] 3 (upd e 12 (sI x12)) V0 hp K =
    (K (upd (upd (upd (upd e 12 (sI x12)) 62 (sI x12)) 63 (sI ((wr (x12 + 1))))) 12 (sI ((wr (x12 + 1))))) V0 hp) := by kernel_rfl
def F13_j6 (x3a : Option Addr) (x3n : Nat) (x3c : Nat) (x9 : Option Addr) (x11 : Option Addr) (x12 : Int) (hp : HP) (I5 : (Int) → HP → Prop) (K : Value → HP → Prop) : Prop :=
  (I5 (IntKind.wrap .i64 (x12 + 1)) hp)
theorem F13_r10 : R13 [1, 1, 1, 1, 1, 1, 0, 1, 0, 0, 1, 0, 0, 0, 1, 0, 0] 1 e V0 hp K =
    (K (upd e 8 (sB false)) V0 hp) := by kernel_rfl
theorem F13_r11 : R13 [1, 1, 1, 1, 1, 1, 0, 1, 0, 0, 1, 0, 0, 1, 0] 3 (upd e 9 (sP x9)) V0 hp K =
    (CF Try.prog 45 [(.pointer x9)] hp fun u1 h2 => (slcV u1 fun a3 n4 c5 => (K (upd (upd (upd (upd e 9 (sP x9)) 79 (sP x9)) 80 (sS a3 n4 c5)) 13 (sS a3 n4 c5)) V0 h2))) := by kernel_rfl
theorem F13_r12 : R13 [1, 1, 1, 1, 1, 1, 0, 1, 0, 0, 1, 0, 0, 1, 1, 0] 3 (upd e 11 (sP x11)) V0 hp K =
    (CF Try.prog 58 [(.pointer x11)] hp fun u1 h2 => (slcV u1 fun a3 n4 c5 => (K (upd (upd (upd (upd e 11 (sP x11)) 81 (sP x11)) 82 (sS a3 n4 c5)) 14 (sS a3 n4 c5)) V0 h2))) := by kernel_rfl
theorem F13_r13 : R13 [1, 1, 1, 1, 1, 1, 0, 1, 0, 0, 1, 0, 0, 1, 1, 1, 0, 0] 5 (upd (upd e 14 (sS x14a x14n x14c)) 13 (sS x13a x13n x13c)) V0 hp K =
    (K (upd (upd (upd (upd (upd (upd (upd e 14 (sS x14a x14n x14c)) 13 (sS x13a x13n x13c)) 83 (sS x13a x13n x13c)) 84 (sI ((x13n : Nat)))) 85 (sS x14a x14n x14c)) 86 (sI ((x14n : Nat)))) 87 (sB ((((x13n : Nat) : Int) != x14n)))) V0 hp) := by kernel_rfl
theorem F13_r14 : R13 [1, 1, 1, 1, 1, 1, 0, 1, 0, 0, 1, 0, 0, 1, 1, 1, 0, 1, 0, 0] 1 e V0 hp K =
    (K (upd e 8 (sB false)) V0 hp) := by kernel_rfl
theorem F13_r15 : R13 [1, 1, 1, 1, 1, 1, 0, 1, 0, 0, 1, 0, 0, 1, 1, 1, 1, 1, 0, 0, 0, 0] 4 (upd (upd e 15 (sI x15)) 13 (sS x13a x13n x13c)) V0 hp K =
    (K (upd (upd (upd (upd (upd (upd e 15 (sI x15)) 13 (sS x13a x13n x13c)) 88 (sI x15)) 89 (sS x13a x13n x13c)) 90 (sI ((x13n : Nat)))) 91 (sB ((decide (x15 < x13n))))) V0 hp) := by kernel_rfl
theorem F13_r16 : R13 [1, 1, 1, 1, 1, 1, 0, 1, 0, 0, 1, 0, 0, 1, 1, 1, 1, 1, 0, 0, 1, 0, 0, 0] 9 (upd (upd (upd e 15 (sI x15)) 14 (sS x14a x14n x14c)) 13 (sS x13a x13n x13c)) V0 hp K =
    ((0 ≤ x15) ∧ (x15 < x13n) ∧ (ptrN x13a fun b1 o2 => (ldL (HP.cellN hp b1 (o2 + Int.toNat x15 * 5) 5) fun l3 => ((0 ≤ x15) ∧ (x15 < x14n) ∧ (ptrN x14a fun b4 o5 => (ldL (HP.cellN hp b4 (o5 + Int.toNat x15 * 5) 5) fun l6 => (eqAgg Try.prog 75 l3 l6 fun q7 => (K (upd (upd (upd (upd (upd (upd (upd (upd (upd (upd (upd (upd e 15 (sI x15)) 14 (sS x14a x14n x14c)) 13 (sS x13a x13n x13c)) 94 (sS x13a x13n x13c)) 95 (sI x15)) 96 (sQ b1 (o2 + Int.toNat x15 * 5))) 97 (sA l3)) 98 (sS x14a x14n x14c)) 99 (sI x15)) 100 (sQ b4 (o5 + Int.toNat x15 * 5))) 101 (sA l6)) 102 (sB ((!q7)))) V0 hp)))))))) := by kernel_rfl
theorem F13_r17 : R13 [1, 1, 1, 1, 1, 1, 0, 1, 0, 0, 1, 0, 0, 1, 1, 1, 1, 1, 0, 0, 1, 0, 0, 1, 0, 0] 1 e V0 hp K =
    (K (upd e 8 (sB false)) V0 hp) := by kernel_rfl
theorem F13_r18 : R13 [1, 1, 1, 1, 1, 1, 0, 1, 0, 0, 1, 0, 0, 1, 1, 1, 1, 1, 0, 0, 1, 1] 3 (upd e 15 (sI x15)) V0 hp K =
    (K (upd (upd (upd (upd e 15 (sI x15)) 92 (sI x15)) 93 (sI ((wr (x15 + 1))))) 15 (sI ((wr (x15 + 1))))) V0 hp) := by kernel_rfl
def F13_l9 (x3a : Option Addr) (x3n : Nat) (x3c : Nat) (x9 : Option Addr) (x11 : Option Addr) (x12 : Int) (x13a : Option Addr) (x13n : Nat) (x13c : Nat) (x14a : Option Addr) (x14n : Nat) (x14c : Nat) (I5 : (Int) → HP → Prop) (K : Value → HP → Prop) (I9 : (Int) → HP → Prop) (x15 : Int) (hp : HP) : Prop :=
  (ite2 (decide (x15 < x13n)) ((0 ≤ x15) ∧ (x15 < x13n) ∧ (ptrN x13a fun b_30 o_31 => (ldL (HP.cellN hp b_30 (o_31 + Int.toNat x15 * 5) 5) fun l_32 => ((0 ≤ x15) ∧ (x15 < x14n) ∧ (ptrN x14a fun b_33 o_34 => (ldL (HP.cellN hp b_33 (o_34 + Int.toNat x15 * 5) 5) fun l_35 => (eqAgg Try.prog 75 l_32 l_35 fun q_36 => (ite2 (!q_36) (K (.bool false) hp) (I9 (IntKind.wrap .i64 (x15 + 1)) hp))))))))) (F13_j6 x3a x3n x3c x9 x11 x12 hp I5 K))
def F13_j8 (x3a : Option Addr) (x3n : Nat) (x3c : Nat) (x9 : Option Addr) (x11 : Option Addr) (x12 : Int) (x13a : Option Addr) (x13n : Nat) (x13c : Nat) (x14a : Option Addr) (x14n : Nat) (x14c : Nat) (x15 : Int) (hp : HP) (I5 : (Int) → HP → Prop) (K : Value → HP → Prop) : Prop :=
  (LoopP (σ := Int) (fun I s hp => F13_l9 x3a x3n x3c x9 x11 x12 x13a x13n x13c x14a x14n x14c I5 K I s hp) x15 hp)
theorem F13_r19 : R13 [1, 1, 1, 1, 1, 1, 0, 1, 0, 0, 1, 0, 0, 1, 1, 1, 1, 0] 1 e V0 hp K =
    (K (upd e 15 (sI 0)) V0 hp) := by kernel_rfl
def F13_j7 (x3a : Option Addr) (x3n : Nat) (x3c : Nat) (x9 : Option Addr) (x11 : Option Addr) (x12 : Int) (x78 : Bool) (hp : HP) (I5 : (Int) → HP → Prop) (K : Value → HP → Prop) : Prop :=
  (ite2 x78 (K (.bool false) hp) (CF Try.prog 45 [(.pointer x9)] hp fun u_20 h_21 => (slcV u_20 fun a_22 n_23 c_24 => (CF Try.prog 58 [(.pointer x11)] h_21 fun u_25 h_26 => (slcV u_25 fun a_27 n_28 c_29 => (ite2 (((n_23 : Nat) : Int) != n_28) (K (.bool false) h_26) (F13_j8 x3a x3n x3c x9 x11 x12 a_22 n_23 c_24 a_27 n_28 c_29 0 h_26 I5 K)))))))
theorem F13_r20 : R13 [1, 1, 1, 1, 1, 1, 0, 1, 0, 0, 1, 0, 0, 0, 0] 15 (upd (upd (upd (upd e 12 (sI x12)) 11 (sP x11)) 9 (sP x9)) 3 (sS x3a x3n x3c)) V0 hp K =
    ((0 ≤ x12) ∧ (x12 < x3n) ∧ (ptrN x3a fun b1 o2 => (ldL (HP.cellN hp b1 (o2 + Int.toNat x12 * 7) 7) fun l3 => (CF Try.prog 56 [(.pointer x9), (.pointer x11), (.agg ⟨l3⟩)] hp fun u4 h5 => (boolV u4 fun q6 => (ite2 (!q6) (K (upd (upd (upd (upd (upd (upd (upd (upd (upd (upd (upd (upd (upd (upd (upd (upd (upd (upd (upd e 12 (sI x12)) 11 (sP x11)) 9 (sP x9)) 3 (sS x3a x3n x3c)) 64 (sP x9)) 65 (sP x11)) 66 (sS x3a x3n x3c)) 67 (sI x12)) 68 (sQ b1 (o2 + Int.toNat x12 * 7))) 69 (sA l3)) 70 (sB q6)) 71 (sB ((!q6)))) 72 (sB true)) 73 sU) 74 sU) 75 sU) 76 sU) 77 sU) 78 (sB true)) V0 h5) (CF Try.prog 54 [(.pointer x9)] h5 fun u7 h8 => (intV u7 .i64 fun i9 => (CF Try.prog 57 [(.pointer x11)] h8 fun u10 h11 => (intV u10 .i64 fun i12 => (K (upd (upd (upd (upd (upd (upd (upd (upd (upd (upd (upd (upd (upd (upd (upd (upd (upd (upd (upd e 12 (sI x12)) 11 (sP x11)) 9 (sP x9)) 3 (sS x3a x3n x3c)) 64 (sP x9)) 65 (sP x11)) 66 (sS x3a x3n x3c)) 67 (sI x12)) 68 (sQ b1 (o2 + Int.toNat x12 * 7))) 69 (sA l3)) 70 (sB q6)) 71 (sB ((!q6)))) 72 (sB false)) 73 (sP x9)) 74 (sI i9)) 75 (sP x11)) 76 (sI i12)) 77 (sB ((i9 != i12)))) 78 (sB ((i9 != i12)))) V0 h11))))))))))) := by kernel_rfl
def F13_l5 (x3a : Option Addr) (x3n : Nat) (x3c : Nat) (x9 : Option Addr) (x11 : Option Addr) (K : Value → HP → Prop) (I5 : (Int) → HP → Prop) (x12 : Int) (hp : HP) : Prop :=
  (ite2 (decide (x12 < x3n)) ((0 ≤ x12) ∧ (x12 < x3n) ∧ (ptrN x3a fun b_37 o_38 => (ldL (HP.cellN hp b_37 (o_38 + Int.toNat x12 * 7) 7) fun l_39 => (CF Try.prog 56 [(.pointer x9), (.pointer x11), (.agg ⟨l_39⟩)] hp fun u_40 h_41 => (boolV u_40 fun q_42 => (ite2 (!q_42) (F13_j7 x3a x3n x3c x9 x11 x12 true h_41 I5 K) (CF Try.prog 54 [(.pointer x9)] h_41 fun u_43 h_44 => (intV u_43 .i64 fun i_45 => (CF Try.prog 57 [(.pointer x11)] h_44 fun u_46 h_47 => (intV u_46 .i64 fun i_48 => (F13_j7 x3a x3n x3c x9 x11 x12 (i_45 != i_48) h_47 I5 K))))))))))) (F13_j3  hp  K))
def F13_j4 (x3a : Option Addr) (x3n : Nat) (x3c : Nat) (x9 : Option Addr) (x11 : Option Addr) (x12 : Int) (hp : HP) (K : Value → HP → Prop) : Prop :=
  (LoopP (σ := Int) (fun I s hp => F13_l5 x3a x3n x3c x9 x11  K I s hp) x12 hp)
theorem F13_r21 : R13 [1, 1, 1, 1, 1, 1, 0, 0] 1 e V0 hp K =
    (K (upd e 12 (sI 0)) V0 hp) := by kernel_rfl
def F13_j2 (x0a : Option Addr) (x0n : Nat) (x0c : Nat) (x1 : Int) (x2 : Int) (x3a : Option Addr) (x3n : Nat) (x3c : Nat) (x9 : Option Addr) (x52 : Bool) (hp : HP) (K : Value → HP → Prop) : Prop :=
  (ite2 x52 (K (.bool false) hp) (∀ b_16 : Nat, hp b_16 = .none → (F13_j4 x3a x3n x3c x9 (some ⟨b_16, 0, none⟩) 0 (HP.set hp b_16 (.cells 93 [(.slice x0a x0n x0c), (.int .i64 x1), (.int .i64 x2), (.slice none 0 0)] 0))  K)))
theorem F13_r22 : R13 [1, 1, 1, 1, 0, 0] 6 (upd (upd e 10 (sI x10)) 9 (sP x9)) V0 hp K =
    (ite2 (x10 != 0) (K (upd (upd (upd (upd (upd (upd (upd (upd e 10 (sI x10)) 9 (sP x9)) 47 (sI x10)) 48 (sB ((x10 != 0)))) 49 (sB true)) 50 sU) 51 sU) 52 (sB true)) V0 hp) (K (upd (upd (upd (upd (upd (upd (upd (upd e 10 (sI x10)) 9 (sP x9)) 47 (sI x10)) 48 (sB ((x10 != 0)))) 49 (sB false)) 50 (sP x9)) 51 (sB ((Option.isNone x9)))) 52 (sB ((Option.isNone x9)))) V0 hp)) := by kernel_rfl
def F13_j1 (x0a : Option Addr) (x0n : Nat) (x0c : Nat) (x1 : Int) (x2 : Int) (x3a : Option Addr) (x3n : Nat) (x3c : Nat) (x24 : Bool) (hp : HP) (K : Value → HP → Prop) : Prop :=
  (ite2 x24 (CF Try.prog 21 [] hp fun u_1 h_2 => (boolV u_1 fun q_3 => (K (.bool q_3) h_2))) (CF Try.prog 44 [(.slice x0a x0n x0c), (.int .i64 x1), (.int .i64 x2)] hp fun u_4 h_5 => (tup2V u_4 fun u_6 u_7 => (ptrV u_6 fun p_8 => (intV u_7 .i64 fun i_9 => (CF Try.prog 55 [(.slice x0a x0n x0c), (.int .i64 x1), (.int .i64 x2)] h_5 fun u_10 h_11 => (boolV u_10 fun q_12 => (ite2 (!q_12) (ite2 (Option.isNone p_8) (ite2 (i_9 == 1) (CF Try.prog 21 [] h_11 fun u_13 h_14 => (boolV u_13 fun q_15 => (K (.bool q_15) h_14))) (K (.bool false) h_11)) (K (.bool false) h_11)) (ite2 (i_9 != 0) (F13_j2 x0a x0n x0c x1 x2 x3a x3n x3c p_8 true h_11  K) (F13_j2 x0a x0n x0c x1 x2 x3a x3n x3c p_8 (Option.isNone p_8) h_11  K))))))))))
theorem F13_r23 : R13 [1, 0, 0] 9 (upd (upd (upd (upd e 3 (sS x3a x3n x3c)) 2 (sI x2)) 1 (sI x1)) 0 (sS x0a x0n x0c)) V0 hp K =
    (CF Try.prog 43 [(.int .i64 x1), (.int .i64 x2), (.slice x3a x3n x3c)] hp fun u1 h2 => (boolV u1 fun q3 => (ite2 q3 (K (upd (upd (upd (upd (upd (upd (upd (upd (upd (upd (upd (upd (upd e 3 (sS x3a x3n x3c)) 2 (sI x2)) 1 (sI x1)) 0 (sS x0a x0n x0c)) 16 (sI x1)) 17 (sI x2)) 18 (sS x3a x3n x3c)) 19 (sB q3)) 20 (sB true)) 21 sU) 22 sU) 23 sU) 24 (sB true)) V0 h2) (K (upd (upd (upd (upd (upd (upd (upd (upd (upd (upd (upd (upd (upd e 3 (sS x3a x3n x3c)) 2 (sI x2)) 1 (sI x1)) 0 (sS x0a x0n x0c)) 16 (sI x1)) 17 (sI x2)) 18 (sS x3a x3n x3c)) 19 (sB q3)) 20 (sB false)) 21 (sS x0a x0n x0c)) 22 (sI ((x0n : Nat)))) 23 (sB ((decide (((x0n : Nat) : Int) > 10))))) 24 (sB ((decide (((x0n : Nat) : Int) > 10))))) V0 h2)))) := by kernel_rfl
def F13 (x0a : Option Addr) (x0n : Nat) (x0c : Nat) (x1 : Int) (x2 : Int) (x3a : Option Addr) (x3n : Nat) (x3c : Nat) (hp : HP) (K : Value → HP → Prop) : Prop :=
  (CF Try.prog 43 [(.int .i64 x1), (.int .i64 x2), (.slice x3a x3n x3c)] hp fun u_49 h_50 => (boolV u_49 fun q_51 => (ite2 q_51 (F13_j1 x0a x0n x0c x1 x2 x3a x3n x3c true h_50  K) (F13_j1 x0a x0n x0c x1 x2 x3a x3n x3c (decide (((x0n : Nat) : Int) > 10)) h_50  K))))
noncomputable def F13_code : Code := (.seq (.region 0 (opsAt Try.f13 [0]) false) (.seq (.seq (.region 1 (opsAt Try.f13 [1, 0, 0]) false) (.cond (.tmp 24) (.seq (.region 2 (opsAt Try.f13 [1, 0, 1, 0, 0]) false) .ret) .skip)) (.seq (.region 3 (opsAt Try.f13 [1, 1, 0]) false) (.seq (.seq (.region 4 (opsAt Try.f13 [1, 1, 1, 0, 0]) false) (.cond (.tmp 37) (.seq (.region 5 (opsAt Try.f13 [1, 1, 1, 0, 1, 0, 0]) false) .ret) .skip)) (.seq (.seq (.region 6 (opsAt Try.f13 [1, 1, 1, 1, 0, 0]) false) (.cond (.tmp 52) (.seq (.region 7 (opsAt Try.f13 [1, 1, 1, 1, 0, 1, 0, 0]) false) .ret) .skip)) (.seq (.region 8 (opsAt Try.f13 [1, 1, 1, 1, 1, 0]) false) (.seq (.seq (.region 9 (opsAt Try.f13 [1, 1, 1, 1, 1, 1, 0, 0]) false) (.block 0 (.loop (.seq (.seq (.region 10 (opsAt Try.f13 [1, 1, 1, 1, 1, 1, 0, 1, 0, 0, 0, 0]) false) (.cond (.tmp 61) .skip (.exit 0))) (.seq (.block 1 (.seq (.seq (.region 12 (opsAt Try.f13 [1, 1, 1, 1, 1, 1, 0, 1, 0, 0, 1, 0, 0, 0, 0]) false) (.cond (.tmp 78) (.seq (.region 13 (opsAt Try.f13 [1, 1, 1, 1, 1, 1, 0, 1, 0, 0, 1, 0, 0, 0, 1, 0, 0]) false) .ret) .skip)) (.seq (.region 14 (opsAt Try.f13 [1, 1, 1, 1, 1, 1, 0, 1, 0, 0, 1, 0, 0, 1, 0]) false) (.seq (.region 15 (opsAt Try.f13 [1, 1, 1, 1, 1, 1, 0, 1, 0, 0, 1, 0, 0, 1, 1, 0]) false) (.seq (.seq (.region 16 (opsAt Try.f13 [1, 1, 1, 1, 1, 1, 0, 1, 0, 0, 1, 0, 0, 1, 1, 1, 0, 0]) false) (.cond (.tmp 87) (.seq (.region 17 (opsAt Try.f13 [1, 1, 1, 1, 1, 1, 0, 1, 0, 0, 1, 0, 0, 1, 1, 1, 0, 1, 0, 0]) false) .ret) .skip)) (.seq (.region 18 (opsAt Try.f13 [1, 1, 1, 1, 1, 1, 0, 1, 0, 0, 1, 0, 0, 1, 1, 1, 1, 0]) false) (.block 2 (.loop (.seq (.seq (.region 19 (opsAt Try.f13 [1, 1, 1, 1, 1, 1, 0, 1, 0, 0, 1, 0, 0, 1, 1, 1, 1, 1, 0, 0, 0, 0]) false) (.cond (.tmp 91) .skip (.exit 2))) (.seq (.block 3 (.seq (.region 21 (opsAt Try.f13 [1, 1, 1, 1, 1, 1, 0, 1, 0, 0, 1, 0, 0, 1, 1, 1, 1, 1, 0, 0, 1, 0, 0, 0]) true) (.cond (.tmp 102) (.seq (.region 22 (opsAt Try.f13 [1, 1, 1, 1, 1, 1, 0, 1, 0, 0, 1, 0, 0, 1, 1, 1, 1, 1, 0, 0, 1, 0, 0, 1, 0, 0]) false) .ret) .skip))) (.region 20 (opsAt Try.f13 [1, 1, 1, 1, 1, 1, 0, 1, 0, 0, 1, 0, 0, 1, 1, 1, 1, 1, 0, 0, 1, 1]) false))))))))))) (.region 11 (opsAt Try.f13 [1, 1, 1, 1, 1, 1, 0, 1, 0, 0, 1, 1]) false)))))) (.seq (.region 23 (opsAt Try.f13 [1, 1, 1, 1, 1, 1, 1, 0]) false) .ret))))))))
theorem F13_body : Try.f13.body = some F13_code := by kernel_rfl
theorem F13_ok (x0a : Option Addr) (x0n : Nat) (x0c : Nat) (x1 : Int) (x2 : Int) (x3a : Option Addr) (x3n : Nat) (x3c : Nat) (hp : HP) (K : Value → HP → Prop) (h : F13 x0a x0n x0c x1 x2 x3a x3n x3c hp K) : CF Try.prog 13 [(.slice x0a x0n x0c), (.int .i64 x1), (.int .i64 x2), (.slice x3a x3n x3c)] hp K := by
 refine .inl ⟨by kernel_rfl, AC.intro (N := 104) Try.func13 F13_body rfl (Nat.le_of_ble_eq_true rfl) ?_⟩
 unfold F13 at h
 unfold F13_code
 refine AWP.seq' ?_
 refine AWP.rgn (F13_r0 (upd (upd (upd (upd E0 3 (sS x3a x3n x3c)) 2 (sI x2)) 1 (sI x1)) 0 (sS x0a x0n x0c))  hp _) ?_ (Ru 0 (Ru 1 (Ru 2 (Ru 3 Rn)))) (Sc rfl (Sc rfl (Sc rfl (Sc rfl Sn)))) Sn
 refine AWP.seq' ?_
 refine AWP.seq (fun env pv hp => ∃ (x0a : Option Addr) (x0n : Nat) (x0c : Nat) (x1 : Int) (x2 : Int) (x3a : Option Addr) (x3n : Nat) (x3c : Nat) (x24 : Bool), Sub (upd (upd (upd (upd (upd E0 24 (sB x24)) 3 (sS x3a x3n x3c)) 2 (sI x2)) 1 (sI x1)) 0 (sS x0a x0n x0c)) env ∧ Sub V0 pv ∧ (F13_j1 x0a x0n x0c x1 x2 x3a x3n x3c x24 hp  K)) ?_ ?_
 ·refine AWP.rgn (F13_r23 E0 x0a x0n x0c x1 x2 x3a x3n x3c hp _) ?_ (Ru 0 (Ru 1 (Ru 2 (Ru 3 Rn)))) (Sc rfl (Sc rfl (Sc rfl (Sc rfl Sn)))) Sn
  refine mC h fun u_49 h_50 h => mB h fun q_51 h => ?_
  refine mt h (fun h => ?_) (fun h => ?_)
  ·exact ⟨x0a, x0n, x0c, x1, x2, x3a, x3n, x3c, true, (Sc rfl (Sc rfl (Sc rfl (Sc rfl (Sc rfl Sn))))), Sn, h⟩
  ·exact ⟨x0a, x0n, x0c, x1, x2, x3a, x3n, x3c, (decide (((x0n : Nat) : Int) > 10)), (Sc rfl (Sc rfl (Sc rfl (Sc rfl (Sc rfl Sn))))), Sn, h⟩
 ·rintro env pv hp ⟨x0a, x0n, x0c, x1, x2, x3a, x3n, x3c, x24, he, hv, h⟩
  refine AWP.sub (env' := (upd (upd (upd (upd (upd E0 24 (sB x24)) 3 (sS x3a x3n x3c)) 2 (sI x2)) 1 (sI x1)) 0 (sS x0a x0n x0c))) (pv' := V0) ?_ (Ru 0 (Ru 1 (Ru 2 (Ru 3 (Ru 24 Rn))))) he hv (HSub.refl _)
  clear he hv
  unfold F13_j1 at h
  refine AWP.cond (t := x24) rfl (fun e => ?_) (fun e => ?_)
  ·replace h := ite2_t h e
   refine AWP.seq' ?_
   refine AWP.rgn (F13_r1 E0  hp _) ?_ Rn Sn Sn
   refine mC h fun u_1 h_2 h => mB h fun q_3 h => ?_
   refine AWP.ret ?_
   exact h
  ·replace h := ite2_f h e
   refine AWP.skip ?_
   refine AWP.seq' ?_
   refine AWP.rgn (F13_r2 (upd E0 3 (sS x3a x3n x3c)) x0a x0n x0c x1 x2 hp _) ?_ (Ru 0 (Ru 1 (Ru 2 (Ru 3 Rn)))) (Sc rfl (Sc rfl (Sc rfl (Sc rfl Sn)))) Sn
   refine mC h fun u_4 h_5 h => mT h fun u_6 u_7 h => mP h fun p_8 h => mI h fun i_9 h => ?_
   refine AWP.seq' ?_
   refine AWP.seq' ?_
   refine AWP.rgn (F13_r3 (upd (upd (upd E0 10 (sI i_9)) 9 (sP p_8)) 3 (sS x3a x3n x3c)) x0a x0n x0c x1 x2 h_5 _) ?_ (Ru 0 (Ru 1 (Ru 2 (Ru 3 (Ru 9 (Ru 10 Rn)))))) (Sc rfl (Sc rfl (Sc rfl (Sc rfl (Sc rfl (Sc rfl Sn)))))) Sn
   refine mC h fun u_10 h_11 h => mB h fun q_12 h => ?_
   refine AWP.cond (t := (!q_12)) rfl (fun e => ?_) (fun e => ?_)
   ·replace h := ite2_t h e
    refine AWP.seq' ?_
    refine AWP.rgn (F13_r4 E0 p_8 i_9 h_11 _) ?_ (Ru 9 (Ru 10 Rn)) (Sc rfl (Sc rfl Sn)) Sn
    refine mt h (fun h => ?_) (fun h => ?_)
    ·refine mt h (fun h => ?_) (fun h => ?_)
     ·refine mC h fun u_13 h_14 h => mB h fun q_15 h => ?_
      refine AWP.ret ?_
      exact h
     ·refine AWP.ret ?_
      exact h
    ·refine AWP.ret ?_
     exact h
   ·replace h := ite2_f h e
    refine AWP.skip ?_
    refine AWP.seq' ?_
    refine AWP.seq (fun env pv hp => ∃ (x0a : Option Addr) (x0n : Nat) (x0c : Nat) (x1 : Int) (x2 : Int) (x3a : Option Addr) (x3n : Nat) (x3c : Nat) (x9 : Option Addr) (x52 : Bool), Sub (upd (upd (upd (upd (upd (upd E0 52 (sB x52)) 9 (sP x9)) 3 (sS x3a x3n x3c)) 2 (sI x2)) 1 (sI x1)) 0 (sS x0a x0n x0c)) env ∧ Sub V0 pv ∧ (F13_j2 x0a x0n x0c x1 x2 x3a x3n x3c x9 x52 hp  K)) ?_ ?_
    ·refine AWP.rgn (F13_r22 (upd (upd (upd (upd E0 3 (sS x3a x3n x3c)) 2 (sI x2)) 1 (sI x1)) 0 (sS x0a x0n x0c)) p_8 i_9 h_11 _) ?_ (Ru 9 (Ru 10 (Ru 0 (Ru 1 (Ru 2 (Ru 3 Rn)))))) (Sc rfl (Sc rfl (Sc rfl (Sc rfl (Sc rfl (Sc rfl Sn)))))) Sn
     refine mt h (fun h => ?_) (fun h => ?_)
     ·exact ⟨x0a, x0n, x0c, x1, x2, x3a, x3n, x3c, p_8, true, (Sc rfl (Sc rfl (Sc rfl (Sc rfl (Sc rfl (Sc rfl Sn)))))), Sn, h⟩
     ·exact ⟨x0a, x0n, x0c, x1, x2, x3a, x3n, x3c, p_8, (Option.isNone p_8), (Sc rfl (Sc rfl (Sc rfl (Sc rfl (Sc rfl (Sc rfl Sn)))))), Sn, h⟩
    ·rintro env pv hp ⟨x0a, x0n, x0c, x1, x2, x3a, x3n, x3c, x9, x52, he, hv, h⟩
     refine AWP.sub (env' := (upd (upd (upd (upd (upd (upd E0 52 (sB x52)) 9 (sP x9)) 3 (sS x3a x3n x3c)) 2 (sI x2)) 1 (sI x1)) 0 (sS x0a x0n x0c))) (pv' := V0) ?_ (Ru 0 (Ru 1 (Ru 2 (Ru 3 (Ru 9 (Ru 52 Rn)))))) he hv (HSub.refl _)
     clear he hv
     unfold F13_j2 at h
     refine AWP.cond (t := x52) rfl (fun e => ?_) (fun e => ?_)
     ·replace h := ite2_t h e
      refine AWP.seq' ?_
      refine AWP.rgn (F13_r5 E0  hp _) ?_ Rn Sn Sn
      refine AWP.ret ?_
      exact h
     ·replace h := ite2_f h e
      refine AWP.skip ?_
      refine AWP.seq' ?_
      refine AWP.rgn (F13_r6 (upd (upd E0 9 (sP x9)) 3 (sS x3a x3n x3c)) x0a x0n x0c x1 x2 hp _) ?_ (Ru 0 (Ru 1 (Ru 2 (Ru 3 (Ru 9 Rn))))) (Sc rfl (Sc rfl (Sc rfl (Sc rfl (Sc rfl Sn))))) Sn
      refine fun b_16 hb_b_16 => ?_
      replace h := h b_16 hb_b_16
      refine AWP.seq (fun env pv hp => Sub E0 env ∧ Sub V0 pv ∧ (F13_j3  hp  K)) ?_ ?_
      ·refine AWP.seq (fun env pv hp => ∃ (x3a : Option Addr) (x3n : Nat) (x3c : Nat) (x9 : Option Addr) (x11 : Option Addr) (x12 : Int), Sub (upd (upd (upd (upd E0 12 (sI x12)) 11 (sP x11)) 9 (sP x9)) 3 (sS x3a x3n x3c)) env ∧ Sub V0 pv ∧ (F13_j4 x3a x3n x3c x9 x11 x12 hp  K)) ?_ ?_
       ·refine AWP.rgn (F13_r21 (upd (upd (upd E0 11 (sV (.pointer (some ⟨b_16, 0, none⟩)))) 9 (sP x9)) 3 (sS x3a x3n x3c))  (HP.set hp b_16 (.cells 93 [(.slice x0a x0n x0c), (.int .i64 x1), (.int .i64 x2), (.slice none 0 0)] 0)) _) ?_ (Ru 3 (Ru 9 (Ru 11 Rn))) (Sc rfl (Sc rfl (Sc rfl Sn))) Sn
        exact ⟨x3a, x3n, x3c, x9, (some ⟨b_16, 0, none⟩), 0, (Sc rfl (Sc rfl (Sc rfl (Sc rfl Sn)))), Sn, h⟩
       ·rintro env pv hp ⟨x3a, x3n, x3c, x9, x11, x12, he, hv, h⟩
        refine AWP.sub (env' := (upd (upd (upd (upd E0 12 (sI x12)) 11 (sP x11)) 9 (sP x9)) 3 (sS x3a x3n x3c))) (pv' := V0) ?_ (Ru 3 (Ru 9 (Ru 11 (Ru 12 Rn)))) he hv (HSub.refl _)
        clear he hv
        unfold F13_j4 at h
        refine AWP.block ?_
        refine AWP.loop (σ := Int) (fun I s hp => F13_l5 x3a x3n x3c x9 x11  K I s hp) (fun s => (upd (upd (upd (upd E0 12 (sI s)) 11 (sP x11)) 9 (sP x9)) 3 (sS x3a x3n x3c))) (fun s => V0) x12 h (fun s => (Ru 3 (Ru 9 (Ru 11 (Ru 12 Rn))))) (Sc rfl (Sc rfl (Sc rfl (Sc rfl Sn)))) Sn ?_
        intro I5 s hp h
        obtain ⟨x12, hs⟩ : ∃ x, x = s := ⟨s, rfl⟩
        subst hs
        replace h : F13_l5 x3a x3n x3c x9 x11  K I5 x12 hp := h
        unfold F13_l5 at h
        refine AWP.seq' ?_
        refine AWP.seq' ?_
        refine AWP.rgn (F13_r8 (upd (upd E0 11 (sP x11)) 9 (sP x9)) x3a x3n x3c x12 hp _) ?_ (Ru 3 (Ru 12 (Ru 9 (Ru 11 Rn)))) (Sc rfl (Sc rfl (Sc rfl (Sc rfl Sn)))) Sn
        refine AWP.cond (t := (decide (x12 < x3n))) rfl (fun e => ?_) (fun e => ?_)
        ·replace h := ite2_t h e
         refine AWP.skip ?_
         refine AWP.seq (fun env pv hp => ∃ (x12 : Int), Sub (upd (upd (upd (upd E0 12 (sI x12)) 11 (sP x11)) 9 (sP x9)) 3 (sS x3a x3n x3c)) env ∧ Sub V0 pv ∧ (F13_j6 x3a x3n x3c x9 x11 x12 hp I5 K)) ?_ ?_
         ·refine AWP.block ?_
          refine AWP.seq' ?_
          refine AWP.seq (fun env pv hp => ∃ (x12 : Int) (x78 : Bool), Sub (upd (upd (upd (upd (upd E0 78 (sB x78)) 12 (sI x12)) 11 (sP x11)) 9 (sP x9)) 3 (sS x3a x3n x3c)) env ∧ Sub V0 pv ∧ (F13_j7 x3a x3n x3c x9 x11 x12 x78 hp I5 K)) ?_ ?_
          ·refine AWP.rgn (F13_r20 E0 x3a x3n x3c x9 x11 x12 hp _) ?_ (Ru 3 (Ru 9 (Ru 11 (Ru 12 Rn)))) (Sc rfl (Sc rfl (Sc rfl (Sc rfl Sn)))) Sn
           refine ⟨h.1, h.2.1, mN h.2.2 fun b_37 o_38 h => mL h fun l_39 h => mC h fun u_40 h_41 h => mB h fun q_42 h => ?_⟩
           refine mt h (fun h => ?_) (fun h => ?_)
           ·exact ⟨x12, true, (Sc rfl (Sc rfl (Sc rfl (Sc rfl (Sc rfl Sn))))), Sn, h⟩
           ·refine mC h fun u_43 h_44 h => mI h fun i_45 h => mC h fun u_46 h_47 h => mI h fun i_48 h => ?_
            exact ⟨x12, (i_45 != i_48), (Sc rfl (Sc rfl (Sc rfl (Sc rfl (Sc rfl Sn))))), Sn, h⟩
          ·rintro env pv hp ⟨x12, x78, he, hv, h⟩
           refine AWP.sub (env' := (upd (upd (upd (upd (upd E0 78 (sB x78)) 12 (sI x12)) 11 (sP x11)) 9 (sP x9)) 3 (sS x3a x3n x3c))) (pv' := V0) ?_ (Ru 3 (Ru 9 (Ru 11 (Ru 12 (Ru 78 Rn))))) he hv (HSub.refl _)
           clear he hv
           unfold F13_j7 at h
           refine AWP.cond (t := x78) rfl (fun e => ?_) (fun e => ?_)
           ·replace h := ite2_t h e
            refine AWP.seq' ?_
            refine AWP.rgn (F13_r10 E0  hp _) ?_ Rn Sn Sn
            refine AWP.ret ?_
            exact h
           ·replace h := ite2_f h e
            refine AWP.skip ?_
            refine AWP.seq' ?_
            refine AWP.rgn (F13_r11 (upd (upd (upd E0 12 (sI x12)) 11 (sP x11)) 3 (sS x3a x3n x3c)) x9 hp _) ?_ (Ru 9 (Ru 3 (Ru 11 (Ru 12 Rn)))) (Sc rfl (Sc rfl (Sc rfl (Sc rfl Sn)))) Sn
            refine mC h fun u_20 h_21 h => mS h fun a_22 n_23 c_24 h => ?_
            refine AWP.seq' ?_
            refine AWP.rgn (F13_r12 (upd (upd (upd (upd E0 13 (sS a_22 n_23 c_24)) 12 (sI x12)) 9 (sP x9)) 3 (sS x3a x3n x3c)) x11 h_21 _) ?_ (Ru 11 (Ru 3 (Ru 9 (Ru 12 (Ru 13 Rn))))) (Sc rfl (Sc rfl (Sc rfl (Sc rfl (Sc rfl Sn))))) Sn
            refine mC h fun u_25 h_26 h => mS h fun a_27 n_28 c_29 h => ?_
            refine AWP.seq' ?_
            refine AWP.seq' ?_
            refine AWP.rgn (F13_r13 (upd (upd (upd (upd E0 12 (sI x12)) 11 (sP x11)) 9 (sP x9)) 3 (sS x3a x3n x3c)) a_22 n_23 c_24 a_27 n_28 c_29 h_26 _) ?_ (Ru 13 (Ru 14 (Ru 3 (Ru 9 (Ru 11 (Ru 12 Rn)))))) (Sc rfl (Sc rfl (Sc rfl (Sc rfl (Sc rfl (Sc rfl Sn)))))) Sn
            refine AWP.cond (t := (((n_23 : Nat) : Int) != n_28)) rfl (fun e => ?_) (fun e => ?_)
            ·replace h := ite2_t h e
             refine AWP.seq' ?_
             refine AWP.rgn (F13_r14 E0  h_26 _) ?_ Rn Sn Sn
             refine AWP.ret ?_
             exact h
            ·replace h := ite2_f h e
             refine AWP.skip ?_
             refine AWP.seq (fun env pv hp => ∃ (x12 : Int) (x13a : Option Addr) (x13n : Nat) (x13c : Nat) (x14a : Option Addr) (x14n : Nat) (x14c : Nat) (x15 : Int), Sub (upd (upd (upd (upd (upd (upd (upd E0 15 (sI x15)) 14 (sS x14a x14n x14c)) 13 (sS x13a x13n x13c)) 12 (sI x12)) 11 (sP x11)) 9 (sP x9)) 3 (sS x3a x3n x3c)) env ∧ Sub V0 pv ∧ (F13_j8 x3a x3n x3c x9 x11 x12 x13a x13n x13c x14a x14n x14c x15 hp I5 K)) ?_ ?_
             ·refine AWP.rgn (F13_r19 (upd (upd (upd (upd (upd (upd E0 14 (sS a_27 n_28 c_29)) 13 (sS a_22 n_23 c_24)) 12 (sI x12)) 11 (sP x11)) 9 (sP x9)) 3 (sS x3a x3n x3c))  h_26 _) ?_ (Ru 3 (Ru 9 (Ru 11 (Ru 12 (Ru 13 (Ru 14 Rn)))))) (Sc rfl (Sc rfl (Sc rfl (Sc rfl (Sc rfl (Sc rfl Sn)))))) Sn
              exact ⟨x12, a_22, n_23, c_24, a_27, n_28, c_29, 0, (Sc rfl (Sc rfl (Sc rfl (Sc rfl (Sc rfl (Sc rfl (Sc rfl Sn))))))), Sn, h⟩
             ·rintro env pv hp ⟨x12, x13a, x13n, x13c, x14a, x14n, x14c, x15, he, hv, h⟩
              refine AWP.sub (env' := (upd (upd (upd (upd (upd (upd (upd E0 15 (sI x15)) 14 (sS x14a x14n x14c)) 13 (sS x13a x13n x13c)) 12 (sI x12)) 11 (sP x11)) 9 (sP x9)) 3 (sS x3a x3n x3c))) (pv' := V0) ?_ (Ru 3 (Ru 9 (Ru 11 (Ru 12 (Ru 13 (Ru 14 (Ru 15 Rn))))))) he hv (HSub.refl _)
              clear he hv
              unfold F13_j8 at h
              refine AWP.block ?_
              refine AWP.loop (σ := Int) (fun I s hp => F13_l9 x3a x3n x3c x9 x11 x12 x13a x13n x13c x14a x14n x14c I5 K I s hp) (fun s => (upd (upd (upd (upd (upd (upd (upd E0 15 (sI s)) 14 (sS x14a x14n x14c)) 13 (sS x13a x13n x13c)) 12 (sI x12)) 11 (sP x11)) 9 (sP x9)) 3 (sS x3a x3n x3c))) (fun s => V0) x15 h (fun s => (Ru 3 (Ru 9 (Ru 11 (Ru 12 (Ru 13 (Ru 14 (Ru 15 Rn)))))))) (Sc rfl (Sc rfl (Sc rfl (Sc rfl (Sc rfl (Sc rfl (Sc rfl Sn))))))) Sn ?_
              intro I9 s hp h
              obtain ⟨x15, hs⟩ : ∃ x, x = s := ⟨s, rfl⟩
              subst hs
              replace h : F13_l9 x3a x3n x3c x9 x11 x12 x13a x13n x13c x14a x14n x14c I5 K I9 x15 hp := h
              unfold F13_l9 at h
              refine AWP.seq' ?_
              refine AWP.seq' ?_
              refine AWP.rgn (F13_r15 (upd (upd (upd (upd (upd E0 14 (sS x14a x14n x14c)) 12 (sI x12)) 11 (sP x11)) 9 (sP x9)) 3 (sS x3a x3n x3c)) x13a x13n x13c x15 hp _) ?_ (Ru 13 (Ru 15 (Ru 3 (Ru 9 (Ru 11 (Ru 12 (Ru 14 Rn))))))) (Sc rfl (Sc rfl (Sc rfl (Sc rfl (Sc rfl (Sc rfl (Sc rfl Sn))))))) Sn
              refine AWP.cond (t := (decide (x15 < x13n))) rfl (fun e => ?_) (fun e => ?_)
              ·replace h := ite2_t h e
               refine AWP.skip ?_
               refine AWP.seq' ?_
               refine AWP.block ?_
               refine AWP.seq' ?_
               refine AWP.rgnD (by kernel_rfl) (by kernel_rfl) (F13_r16 (upd (upd (upd (upd E0 12 (sI x12)) 11 (sP x11)) 9 (sP x9)) 3 (sS x3a x3n x3c)) x13a x13n x13c x14a x14n x14c x15 hp _) ?_ (Ru 13 (Ru 14 (Ru 15 (Ru 3 (Ru 9 (Ru 11 (Ru 12 Rn))))))) (Sc rfl (Sc rfl (Sc rfl (Sc rfl (Sc rfl (Sc rfl (Sc rfl Sn))))))) Sn
               refine ⟨h.1, h.2.1, mN h.2.2 (fun b_30 o_31 h => mL h (fun l_32 h => ⟨h.1, h.2.1, mN h.2.2 fun b_33 o_34 h => mL h fun l_35 h => mE h fun q_36 h => ?_⟩))⟩
               refine AWP.cond (t := (!q_36)) rfl (fun e => ?_) (fun e => ?_)
               ·replace h := ite2_t h e
                refine AWP.seq' ?_
                refine AWP.rgn (F13_r17 E0  hp _) ?_ Rn Sn Sn
                refine AWP.ret ?_
                exact h
               ·replace h := ite2_f h e
                refine AWP.skip ?_
                refine AWP.rgn (F13_r18 (upd (upd (upd (upd (upd (upd E0 14 (sS x14a x14n x14c)) 13 (sS x13a x13n x13c)) 12 (sI x12)) 11 (sP x11)) 9 (sP x9)) 3 (sS x3a x3n x3c)) x15 hp _) ?_ (Ru 15 (Ru 3 (Ru 9 (Ru 11 (Ru 12 (Ru 13 (Ru 14 Rn))))))) (Sc rfl (Sc rfl (Sc rfl (Sc rfl (Sc rfl (Sc rfl (Sc rfl Sn))))))) Sn
                exact ⟨(wr (x15 + 1)), (Sc rfl (Sc rfl (Sc rfl (Sc rfl (Sc rfl (Sc rfl (Sc rfl Sn))))))), Sn, h⟩
              ·replace h := ite2_f h e
               refine AWP.exit ?_
               exact ⟨x12, (Sc rfl (Sc rfl (Sc rfl (Sc rfl Sn)))), Sn, h⟩
         ·rintro env pv hp ⟨x12, he, hv, h⟩
          refine AWP.sub (env' := (upd (upd (upd (upd E0 12 (sI x12)) 11 (sP x11)) 9 (sP x9)) 3 (sS x3a x3n x3c))) (pv' := V0) ?_ (Ru 3 (Ru 9 (Ru 11 (Ru 12 Rn)))) he hv (HSub.refl _)
          clear he hv
          unfold F13_j6 at h
          refine AWP.rgn (F13_r9 (upd (upd (upd E0 11 (sP x11)) 9 (sP x9)) 3 (sS x3a x3n x3c)) x12 hp _) ?_ (Ru 12 (Ru 3 (Ru 9 (Ru 11 Rn)))) (Sc rfl (Sc rfl (Sc rfl (Sc rfl Sn)))) Sn
          exact ⟨(wr (x12 + 1)), (Sc rfl (Sc rfl (Sc rfl (Sc rfl Sn)))), Sn, h⟩
        ·replace h := ite2_f h e
         refine AWP.exit ?_
         exact ⟨Sn, Sn, h⟩
      ·rintro env pv hp ⟨he, hv, h⟩
       refine AWP.sub (env' := E0) (pv' := V0) ?_ Rn he hv (HSub.refl _)
       clear he hv
       unfold F13_j3 at h
       refine AWP.seq' ?_
       refine AWP.rgn (F13_r7 E0  hp _) ?_ Rn Sn Sn
       refine mC h fun u_17 h_18 h => mB h fun q_19 h => ?_
       refine AWP.ret ?_
       exact h
end
-- 56 interpreter/interpreterlaw18.both
section
variable (e : Env) (x0 x1 : Option Addr) (x2 : List Value) (x8a : Option Addr) (x8n x8c : Nat) (x9 x11 x13 : Int) (x14 x15 x16 x17 : Bool) (x44 : Int) (k5 k7 k10 k12 : List Value) (hp : HP) (K : Env → PV → HP → Prop)
abbrev R56 (p : List Nat) (n : Nat) := RW Try.prog 136 [5, 7, 10, 12, 18, 20, 28, 43, 49, 51, 53, 60, 62, 64, 127, 131] (opsAt Try.f56 p) (List.range n)
theorem F56_r0 : R56 [0] 2 (upd e 2 (sA x2)) V0 hp K =
    (K (upd (upd (upd e 2 (sA x2)) 5 (sR 5 0)) 6 (sB false)) (upd V0 5 (77, x2)) hp) := by kernel_rfl
theorem F56_r1 : R56 [1, 0] 4 (upd e 5 (sR 5 0)) (upd V0 5 (77, k5)) hp K =
    (ldL (cellsN k5 1 5) fun l1 => (if List.length l1 = 5 then (if List.all l1 one = true then (if 0 + List.length l1 ≤ List.length [(Value.int .u8 0), .int .u8 0, .int .u8 0, .int .u8 0, .int .i64 0] then (K (upd (upd (upd (upd e 5 (sR 5 0)) 18 (sR 5 1)) 19 (sA l1)) 7 (sR 7 0)) (upd (upd (upd V0 5 (77, k5)) 7 (75, [.int .u8 0, .int .u8 0, .int .u8 0, .int .u8 0, .int .i64 0])) 7 (75, (splice [.int .u8 0, .int .u8 0, .int .u8 0, .int .u8 0, .int .i64 0] 0 l1))) hp) else False) else False) else False)) := by kernel_rfl
theorem F56_r2 : R56 [1, 1, 1, 0, 0] 2 (upd e 5 (sR 5 0)) (upd (upd V0 7 (75, k7)) 5 (77, k5)) hp K =
    (ldV (k5)[0]? fun v1 => (intV v1 .u8 fun i2 => (K (upd (upd (upd e 5 (sR 5 0)) 43 (sR 5 0)) 44 (sV (.int .u8 i2))) (upd (upd V0 7 (75, k7)) 5 (77, k5)) hp))) := by kernel_rfl
theorem F56_r3 : R56 [1, 1, 1, 0, 1, 0, 0] 2 (upd e 44 (sV (.int .u8 x44))) (upd (upd V0 7 (75, k7)) 5 (77, k5)) hp K =
    (K (upd (upd (upd e 44 (sV (.int .u8 x44))) 46 (sB ((x44 == 0)))) 45 (sB ((x44 == 0)))) (upd (upd V0 7 (75, k7)) 5 (77, k5)) hp) := by kernel_rfl
theorem F56_r4 : R56 [1, 1, 1, 0, 1, 0, 1, 0, 0] 14 (upd (upd (upd e 7 (sR 7 0)) 5 (sR 5 0)) 0 (sP x0)) (upd (upd V0 7 (75, k7)) 5 (77, k5)) hp K =
    (ldL (cellsN k7 0 4) fun l1 => (ldV (k7)[4]? fun v2 => (intV v2 .i64 fun i3 => (ldV (k5)[6]? fun v4 => (boolV v4 fun q5 => (CF Try.prog 46 [(.pointer x0), (.agg ⟨l1⟩), (.int .i64 i3), (.bool q5)] hp fun u6 h7 => (tup2V u6 fun u8 u9 => (aggV u8 fun l10 => (intV u9 .i64 fun i11 => (if List.length l10 = 5 then (if List.all l10 one = true then (if 0 + List.length l10 ≤ List.length [(Value.int .u8 0), .int .u8 0, .int .u8 0, .int .u8 0, .int .i64 0] then (K (upd (upd (upd (upd (upd (upd (upd (upd (upd (upd (upd (upd (upd (upd (upd (upd e 7 (sR 7 0)) 5 (sR 5 0)) 0 (sP x0)) 48 (sP x0)) 49 (sR 7 0)) 50 (sA l1)) 51 (sR 7 4)) 52 (sI i3)) 53 (sR 5 6)) 54 (sB q5)) 55 (sV (.tuple ⟨[(.agg ⟨l10⟩), (.int .i64 i11)]⟩))) 47 (sV (.tuple ⟨[(.agg ⟨l10⟩), (.int .i64 i11)]⟩))) 56 (sA l10)) 57 (sI i11)) 10 (sR 10 0)) 11 (sI i11)) (upd (upd (upd (upd V0 7 (75, k7)) 5 (77, k5)) 10 (75, [.int .u8 0, .int .u8 0, .int .u8 0, .int .u8 0, .int .i64 0])) 10 (75, (splice [.int .u8 0, .int .u8 0, .int .u8 0, .int .u8 0, .int .i64 0] 0 l10))) h7) else False) else False) else False)))))))))) := by kernel_rfl
theorem F56_r5 : R56 [1, 1, 1, 0, 1, 0, 1, 0, 1, 0] 14 (upd (upd (upd e 7 (sR 7 0)) 5 (sR 5 0)) 1 (sP x1)) (upd (upd (upd V0 10 (75, k10)) 7 (75, k7)) 5 (77, k5)) hp K =
    (ldL (cellsN k7 0 4) fun l1 => (ldV (k7)[4]? fun v2 => (intV v2 .i64 fun i3 => (ldV (k5)[6]? fun v4 => (boolV v4 fun q5 => (CF Try.prog 101 [(.pointer x1), (.agg ⟨l1⟩), (.int .i64 i3), (.bool q5)] hp fun u6 h7 => (tup2V u6 fun u8 u9 => (aggV u8 fun l10 => (intV u9 .i64 fun i11 => (if List.length l10 = 5 then (if List.all l10 one = true then (if 0 + List.length l10 ≤ List.length [(Value.int .u8 0), .int .u8 0, .int .u8 0, .int .u8 0, .int .i64 0] then (K (upd (upd (upd (upd (upd (upd (upd (upd (upd (upd (upd (upd (upd (upd (upd (upd e 7 (sR 7 0)) 5 (sR 5 0)) 1 (sP x1)) 59 (sP x1)) 60 (sR 7 0)) 61 (sA l1)) 62 (sR 7 4)) 63 (sI i3)) 64 (sR 5 6)) 65 (sB q5)) 66 (sV (.tuple ⟨[(.agg ⟨l10⟩), (.int .i64 i11)]⟩))) 58 (sV (.tuple ⟨[(.agg ⟨l10⟩), (.int .i64 i11)]⟩))) 67 (sA l10)) 68 (sI i11)) 12 (sR 12 0)) 13 (sI i11)) (upd (upd (upd (upd (upd V0 10 (75, k10)) 7 (75, k7)) 5 (77, k5)) 12 (75, [.int .u8 0, .int .u8 0, .int .u8 0, .int .u8 0, .int .i64 0])) 12 (75, (splice [.int .u8 0, .int .u8 0, .int .u8 0, .int .u8 0, .int .i64 0] 0 l10))) h7) else False) else False) else False)))))))))) := by kernel_rfl
theorem F56_r6 : R56 [1, 1, 1, 0, 1, 0, 1, 0, 1, 1, 0] 9 (upd (upd (upd (upd e 13 (sI x13)) 12 (sR 12 0)) 11 (sI x11)) 10 (sR 10 0)) (upd (upd V0 12 (75, k12)) 10 (75, k10)) hp K =
    (ldL (cellsN k10 0 5) fun l1 => (ldL (cellsN k12 0 5) fun l2 => (eqAgg Try.prog 75 l1 l2 fun q3 => (ite2 q3 (K (upd (upd (upd (upd (upd (upd (upd (upd (upd (upd (upd (upd (upd e 13 (sI x13)) 12 (sR 12 0)) 11 (sI x11)) 10 (sR 10 0)) 69 (sA l1)) 70 (sA l2)) 71 (sB q3)) 72 (sB true)) 73 (sI x11)) 74 (sI x13)) 75 (sB ((x11 == x13)))) 76 (sB ((x11 == x13)))) 6 (sB ((x11 == x13)))) (upd (upd V0 12 (75, k12)) 10 (75, k10)) hp) (K (upd (upd (upd (upd (upd (upd (upd (upd (upd (upd (upd (upd (upd e 13 (sI x13)) 12 (sR 12 0)) 11 (sI x11)) 10 (sR 10 0)) 69 (sA l1)) 70 (sA l2)) 71 (sB q3)) 72 (sB false)) 73 sU) 74 sU) 75 sU) 76 (sB false)) 6 (sB false)) (upd (upd V0 12 (75, k12)) 10 (75, k10)) hp))))) := by kernel_rfl
theorem F56_r7 : R56 [1, 1, 1, 0, 1, 0, 1, 1, 1, 0, 0] 8 (upd (upd (upd e 7 (sR 7 0)) 1 (sP x1)) 0 (sP x0)) (upd V0 7 (75, k7)) hp K =
    (ldL (cellsN k7 0 5) fun l1 => (CF Try.prog 49 [(.pointer x0), (.agg ⟨l1⟩)] hp fun u2 h3 => (intV u2 .i64 fun i4 => (ldL (cellsN k7 0 5) fun l5 => (CF Try.prog 102 [(.pointer x1), (.agg ⟨l5⟩)] h3 fun u6 h7 => (intV u6 .i64 fun i8 => (K (upd (upd (upd (upd (upd (upd (upd (upd (upd (upd (upd e 7 (sR 7 0)) 1 (sP x1)) 0 (sP x0)) 80 (sP x0)) 81 (sA l1)) 82 (sI i4)) 83 (sP x1)) 84 (sA l5)) 85 (sI i8)) 86 (sB ((i4 == i8)))) 6 (sB ((i4 == i8)))) (upd V0 7 (75, k7)) h7))))))) := by kernel_rfl
theorem F56_r8 : R56 [1, 1, 1, 0, 1, 0, 1, 1, 1, 1, 0] 2 (upd e 44 (sV (.int .u8 x44))) (upd V0 7 (75, k7)) hp K =
    (K (upd (upd (upd e 44 (sV (.int .u8 x44))) 88 (sB ((x44 == 2)))) 87 (sB ((x44 == 2)))) (upd V0 7 (75, k7)) hp) := by kernel_rfl
theorem F56_r9 : R56 [1, 1, 1, 0, 1, 0, 1, 1, 1, 1, 1, 0, 0] 8 (upd (upd (upd e 7 (sR 7 0)) 1 (sP x1)) 0 (sP x0)) (upd V0 7 (75, k7)) hp K =
    (ldL (cellsN k7 0 5) fun l1 => (CF Try.prog 50 [(.pointer x0), (.agg ⟨l1⟩)] hp fun u2 h3 => (intV u2 .i64 fun i4 => (ldL (cellsN k7 0 5) fun l5 => (CF Try.prog 103 [(.pointer x1), (.agg ⟨l5⟩)] h3 fun u6 h7 => (intV u6 .i64 fun i8 => (K (upd (upd (upd (upd (upd (upd (upd (upd (upd (upd (upd e 7 (sR 7 0)) 1 (sP x1)) 0 (sP x0)) 89 (sP x0)) 90 (sA l1)) 91 (sI i4)) 92 (sP x1)) 93 (sA l5)) 94 (sI i8)) 95 (sB ((i4 == i8)))) 6 (sB ((i4 == i8)))) (upd V0 7 (75, k7)) h7))))))) := by kernel_rfl
theorem F56_r10 : R56 [1, 1, 1, 0, 1, 0, 1, 1, 1, 1, 1, 1, 0] 2 (upd e 44 (sV (.int .u8 x44))) (upd V0 7 (75, k7)) hp K =
    (K (upd (upd (upd e 44 (sV (.int .u8 x44))) 97 (sB ((x44 == 3)))) 96 (sB ((x44 == 3)))) (upd V0 7 (75, k7)) hp) := by kernel_rfl
theorem F56_r11 : R56 [1, 1, 1, 0, 1, 0, 1, 1, 1, 1, 1, 1, 1, 0, 0] 8 (upd (upd (upd e 7 (sR 7 0)) 1 (sP x1)) 0 (sP x0)) (upd V0 7 (75, k7)) hp K =
    (ldL (cellsN k7 0 5) fun l1 => (CF Try.prog 51 [(.pointer x0), (.agg ⟨l1⟩)] hp fun u2 h3 => (intV u2 .i64 fun i4 => (ldL (cellsN k7 0 5) fun l5 => (CF Try.prog 104 [(.pointer x1), (.agg ⟨l5⟩)] h3 fun u6 h7 => (intV u6 .i64 fun i8 => (K (upd (upd (upd (upd (upd (upd (upd (upd (upd (upd (upd e 7 (sR 7 0)) 1 (sP x1)) 0 (sP x0)) 98 (sP x0)) 99 (sA l1)) 100 (sI i4)) 101 (sP x1)) 102 (sA l5)) 103 (sI i8)) 104 (sB ((i4 == i8)))) 6 (sB ((i4 == i8)))) (upd V0 7 (75, k7)) h7))))))) := by kernel_rfl
theorem F56_r12 : R56 [1, 1, 1, 1, 0] 8 (upd (upd e 7 (sR 7 0)) 0 (sP x0)) (upd V0 7 (75, k7)) hp K =
    (ldL (cellsN k7 0 5) fun l1 => (CF Try.prog 47 [(.pointer x0), (.agg ⟨l1⟩)] hp fun u2 h3 => (tup2V u2 fun u4 u5 => (boolV u4 fun q6 => (boolV u5 fun q7 => (K (upd (upd (upd (upd (upd (upd (upd (upd (upd (upd e 7 (sR 7 0)) 0 (sP x0)) 106 (sP x0)) 107 (sA l1)) 108 (sV (.tuple ⟨[(.bool q6), (.bool q7)]⟩))) 105 (sV (.tuple ⟨[(.bool q6), (.bool q7)]⟩))) 109 (sB q6)) 110 (sB q7)) 14 (sB q6)) 15 (sB q7)) (upd V0 7 (75, k7)) h3)))))) := by kernel_rfl
theorem F56_r13 : R56 [1, 1, 1, 1, 1, 0] 8 (upd (upd e 7 (sR 7 0)) 1 (sP x1)) (upd V0 7 (75, k7)) hp K =
    (ldL (cellsN k7 0 5) fun l1 => (CF Try.prog 105 [(.pointer x1), (.agg ⟨l1⟩)] hp fun u2 h3 => (tup2V u2 fun u4 u5 => (boolV u4 fun q6 => (boolV u5 fun q7 => (K (upd (upd (upd (upd (upd (upd (upd (upd (upd (upd e 7 (sR 7 0)) 1 (sP x1)) 112 (sP x1)) 113 (sA l1)) 114 (sV (.tuple ⟨[(.bool q6), (.bool q7)]⟩))) 111 (sV (.tuple ⟨[(.bool q6), (.bool q7)]⟩))) 115 (sB q6)) 116 (sB q7)) 16 (sB q6)) 17 (sB q7)) (upd V0 7 (75, k7)) h3)))))) := by kernel_rfl
theorem F56_r14 : R56 [1, 1, 1, 1, 1, 1, 0] 20 (upd (upd (upd (upd (upd (upd (upd e 17 (sB x17)) 16 (sB x16)) 15 (sB x15)) 14 (sB x14)) 7 (sR 7 0)) 1 (sP x1)) 0 (sP x0)) (upd V0 7 (75, k7)) hp K =
    (ite2 (x14 == x16) (ite2 (x15 == x17) (ldL (cellsN k7 0 4) fun l1 => (CF Try.prog 48 [(.pointer x0), (.agg ⟨l1⟩)] hp fun u2 h3 => (boolV u2 fun q4 => (ldL (cellsN k7 0 4) fun l5 => (CF Try.prog 106 [(.pointer x1), (.agg ⟨l5⟩)] h3 fun u6 h7 => (boolV u6 fun q8 => (K (upd (upd (upd (upd (upd (upd (upd (upd (upd (upd (upd (upd (upd (upd (upd (upd (upd (upd (upd (upd (upd (upd (upd (upd (upd (upd (upd e 17 (sB x17)) 16 (sB x16)) 15 (sB x15)) 14 (sB x14)) 7 (sR 7 0)) 1 (sP x1)) 0 (sP x0)) 117 (sB x14)) 118 (sB x16)) 119 (sB ((x14 == x16)))) 120 (sB true)) 121 (sB x15)) 122 (sB x17)) 123 (sB ((x15 == x17)))) 124 (sB ((x15 == x17)))) 125 (sB true)) 126 (sP x0)) 127 (sR 7 0)) 128 (sA l1)) 129 (sB q4)) 130 (sP x1)) 131 (sR 7 0)) 132 (sA l5)) 133 (sB q8)) 134 (sB ((q4 == q8)))) 135 (sB ((q4 == q8)))) 6 (sB ((q4 == q8)))) (upd V0 7 (75, k7)) h7))))))) (K (upd (upd (upd (upd (upd (upd (upd (upd (upd (upd (upd (upd (upd (upd (upd (upd (upd (upd (upd (upd (upd (upd (upd (upd (upd (upd (upd e 17 (sB x17)) 16 (sB x16)) 15 (sB x15)) 14 (sB x14)) 7 (sR 7 0)) 1 (sP x1)) 0 (sP x0)) 117 (sB x14)) 118 (sB x16)) 119 (sB ((x14 == x16)))) 120 (sB true)) 121 (sB x15)) 122 (sB x17)) 123 (sB ((x15 == x17)))) 124 (sB ((x15 == x17)))) 125 (sB false)) 126 sU) 127 sU) 128 sU) 129 sU) 130 sU) 131 sU) 132 sU) 133 sU) 134 sU) 135 (sB false)) 6 (sB false)) (upd V0 7 (75, k7)) hp)) (K (upd (upd (upd (upd (upd (upd (upd (upd (upd (upd (upd (upd (upd (upd (upd (upd (upd (upd (upd (upd (upd (upd (upd (upd (upd (upd (upd e 17 (sB x17)) 16 (sB x16)) 15 (sB x15)) 14 (sB x14)) 7 (sR 7 0)) 1 (sP x1)) 0 (sP x0)) 117 (sB x14)) 118 (sB x16)) 119 (sB ((x14 == x16)))) 120 (sB false)) 121 sU) 122 sU) 123 sU) 124 (sB false)) 125 (sB false)) 126 sU) 127 sU) 128 sU) 129 sU) 130 sU) 131 sU) 132 sU) 133 sU) 134 sU) 135 (sB false)) 6 (sB false)) (upd V0 7 (75, k7)) hp)) := by kernel_rfl
def F56_j2 (x0 : Option Addr) (x1 : Option Addr) (x44 : Int) (x77 : Bool) (k7 : List Value) (hp : HP) (K : Value → HP → Prop) : Prop :=
  (ite2 x77 (ldL (cellsN k7 0 5) fun l_29 => (CF Try.prog 49 [(.pointer x0), (.agg ⟨l_29⟩)] hp fun u_30 h_31 => (intV u_30 .i64 fun i_32 => (ldL (cellsN k7 0 5) fun l_33 => (CF Try.prog 102 [(.pointer x1), (.agg ⟨l_33⟩)] h_31 fun u_34 h_35 => (intV u_34 .i64 fun i_36 => (K (.bool (i_32 == i_36)) h_35))))))) (ite2 (x44 == 2) (ldL (cellsN k7 0 5) fun l_37 => (CF Try.prog 50 [(.pointer x0), (.agg ⟨l_37⟩)] hp fun u_38 h_39 => (intV u_38 .i64 fun i_40 => (ldL (cellsN k7 0 5) fun l_41 => (CF Try.prog 103 [(.pointer x1), (.agg ⟨l_41⟩)] h_39 fun u_42 h_43 => (intV u_42 .i64 fun i_44 => (K (.bool (i_40 == i_44)) h_43))))))) (ite2 (x44 == 3) (ldL (cellsN k7 0 5) fun l_45 => (CF Try.prog 51 [(.pointer x0), (.agg ⟨l_45⟩)] hp fun u_46 h_47 => (intV u_46 .i64 fun i_48 => (ldL (cellsN k7 0 5) fun l_49 => (CF Try.prog 104 [(.pointer x1), (.agg ⟨l_49⟩)] h_47 fun u_50 h_51 => (intV u_50 .i64 fun i_52 => (K (.bool (i_48 == i_52)) h_51))))))) (ldL (cellsN k7 0 5) fun l_53 => (CF Try.prog 47 [(.pointer x0), (.agg ⟨l_53⟩)] hp fun u_54 h_55 => (tup2V u_54 fun u_56 u_57 => (boolV u_56 fun q_58 => (boolV u_57 fun q_59 => (ldL (cellsN k7 0 5) fun l_60 => (CF Try.prog 105 [(.pointer x1), (.agg ⟨l_60⟩)] h_55 fun u_61 h_62 => (tup2V u_61 fun u_63 u_64 => (boolV u_63 fun q_65 => (boolV u_64 fun q_66 => (ite2 (q_58 == q_65) (ite2 (q_59 == q_66) (ldL (cellsN k7 0 4) fun l_67 => (CF Try.prog 48 [(.pointer x0), (.agg ⟨l_67⟩)] h_62 fun u_68 h_69 => (boolV u_68 fun q_70 => (ldL (cellsN k7 0 4) fun l_71 => (CF Try.prog 106 [(.pointer x1), (.agg ⟨l_71⟩)] h_69 fun u_72 h_73 => (boolV u_72 fun q_74 => (K (.bool (q_70 == q_74)) h_73))))))) (K (.bool false) h_62)) (K (.bool false) h_62)))))))))))))))
theorem F56_r15 : R56 [1, 1, 1, 0, 1, 0, 1, 1, 0, 0] 2 (upd e 44 (sV (.int .u8 x44))) (upd V0 7 (75, k7)) hp K =
    (K (upd (upd (upd e 44 (sV (.int .u8 x44))) 78 (sB ((x44 == 1)))) 77 (sB ((x44 == 1)))) (upd V0 7 (75, k7)) hp) := by kernel_rfl
theorem F56_r16 : R56 [1, 1, 1, 0, 1, 0, 1, 1, 0, 1, 1] 2 (upd e 44 (sV (.int .u8 x44))) (upd V0 7 (75, k7)) hp K =
    (K (upd (upd (upd e 44 (sV (.int .u8 x44))) 79 (sB ((x44 == 4)))) 77 (sB ((x44 == 4)))) (upd V0 7 (75, k7)) hp) := by kernel_rfl
def F56_j1 (x0 : Option Addr) (x1 : Option Addr) (k5 : List Value) (k7 : List Value) (hp : HP) (K : Value → HP → Prop) : Prop :=
  (ldV (k5)[0]? fun v_2 => (intV v_2 .u8 fun i_3 => (ite2 (i_3 == 0) (ldL (cellsN k7 0 4) fun l_4 => (ldV (k7)[4]? fun v_5 => (intV v_5 .i64 fun i_6 => (ldV (k5)[6]? fun v_7 => (boolV v_7 fun q_8 => (CF Try.prog 46 [(.pointer x0), (.agg ⟨l_4⟩), (.int .i64 i_6), (.bool q_8)] hp fun u_9 h_10 => (tup2V u_9 fun u_11 u_12 => (aggV u_11 fun l_13 => (intV u_12 .i64 fun i_14 => (if List.length l_13 = 5 then (if List.all l_13 one = true then (if 0 + List.length l_13 ≤ List.length [(Value.int .u8 0), .int .u8 0, .int .u8 0, .int .u8 0, .int .i64 0] then (ldL (cellsN k7 0 4) fun l_15 => (ldV (k7)[4]? fun v_16 => (intV v_16 .i64 fun i_17 => (ldV (k5)[6]? fun v_18 => (boolV v_18 fun q_19 => (CF Try.prog 101 [(.pointer x1), (.agg ⟨l_15⟩), (.int .i64 i_17), (.bool q_19)] h_10 fun u_20 h_21 => (tup2V u_20 fun u_22 u_23 => (aggV u_22 fun l_24 => (intV u_23 .i64 fun i_25 => (if List.length l_24 = 5 then (if List.all l_24 one = true then (if 0 + List.length l_24 ≤ List.length [(Value.int .u8 0), .int .u8 0, .int .u8 0, .int .u8 0, .int .i64 0] then (ldL (cellsN (splice [.int .u8 0, .int .u8 0, .int .u8 0, .int .u8 0, .int .i64 0] 0 l_13) 0 5) fun l_26 => (ldL (cellsN (splice [.int .u8 0, .int .u8 0, .int .u8 0, .int .u8 0, .int .i64 0] 0 l_24) 0 5) fun l_27 => (eqAgg Try.prog 75 l_26 l_27 fun q_28 => (ite2 q_28 (K (.bool (i_14 == i_25)) h_21) (K (.bool false) h_21))))) else False) else False) else False)))))))))) else False) else False) else False)))))))))) (ite2 (i_3 == 1) (F56_j2 x0 x1 i_3 (i_3 == 1) k7 hp  K) (F56_j2 x0 x1 i_3 (i_3 == 4) k7 hp  K)))))
theorem F56_r17 : R56 [1, 1, 0, 0] 3 (upd e 5 (sR 5 0)) (upd (upd V0 7 (75, k7)) 5 (77, k5)) hp K =
    (ldV (k5)[0]? fun v1 => (intV v1 .u8 fun i2 => (K (upd (upd (upd (upd e 5 (sR 5 0)) 20 (sR 5 0)) 21 (sV (.int .u8 i2))) 22 (sB ((i2 == 4)))) (upd (upd V0 7 (75, k7)) 5 (77, k5)) hp))) := by kernel_rfl
theorem F56_r18 : R56 [1, 1, 0, 1, 0, 0] 3 (upd e 1 (sP x1)) (upd (upd V0 7 (75, k7)) 5 (77, k5)) hp K =
    (CF Try.prog 58 [(.pointer x1)] hp fun u1 h2 => (slcV u1 fun a3 n4 c5 => (K (upd (upd (upd (upd e 1 (sP x1)) 23 (sP x1)) 24 (sS a3 n4 c5)) 8 (sS a3 n4 c5)) (upd (upd V0 7 (75, k7)) 5 (77, k5)) h2))) := by kernel_rfl
theorem F56_r19 : R56 [1, 1, 0, 1, 0, 1, 0] 3 (upd e 8 (sS x8a x8n x8c)) (upd (upd V0 7 (75, k7)) 5 (77, k5)) hp K =
    (K (upd (upd (upd (upd e 8 (sS x8a x8n x8c)) 25 (sS x8a x8n x8c)) 26 (sI ((x8n : Nat)))) 27 (sB ((decide (((x8n : Nat) : Int) > 0))))) (upd (upd V0 7 (75, k7)) 5 (77, k5)) hp) := by kernel_rfl
theorem F56_r20 : R56 [1, 1, 0, 1, 0, 1, 1, 0, 0] 6 (upd (upd e 8 (sS x8a x8n x8c)) 7 (sR 7 0)) (upd (upd V0 7 (75, k7)) 5 (77, k5)) hp K =
    (ldV (k7)[4]? fun v1 => (intV v1 .i64 fun i2 => ((((x8n : Nat) : Int) ≠ 0) ∧ (K (upd (upd (upd (upd (upd (upd (upd (upd e 8 (sS x8a x8n x8c)) 7 (sR 7 0)) 28 (sR 7 4)) 29 (sI i2)) 30 (sS x8a x8n x8c)) 31 (sI ((x8n : Nat)))) 32 (sI ((Int.tmod i2 (x8n : Nat))))) 9 (sI ((Int.tmod i2 (x8n : Nat))))) (upd (upd V0 7 (75, k7)) 5 (77, k5)) hp)))) := by kernel_rfl
theorem F56_r21 : R56 [1, 1, 0, 1, 0, 1, 1, 0, 1, 1] 5 (upd (upd (upd e 9 (sI x9)) 8 (sS x8a x8n x8c)) 7 (sR 7 0)) (upd (upd V0 7 (75, k7)) 5 (77, k5)) hp K =
    ((0 ≤ x9) ∧ (x9 < x8n) ∧ (ptrN x8a fun b1 o2 => (ldL (HP.cellN hp b1 (o2 + Int.toNat x9 * 5) 5) fun l3 => (if List.length l3 = 5 then (if List.all l3 one = true then (if 0 + List.length l3 ≤ List.length k7 then (K (upd (upd (upd (upd (upd (upd (upd e 9 (sI x9)) 8 (sS x8a x8n x8c)) 7 (sR 7 0)) 39 (sS x8a x8n x8c)) 40 (sI x9)) 41 (sQ b1 (o2 + Int.toNat x9 * 5))) 42 (sA l3)) (upd (upd (upd V0 7 (75, k7)) 5 (77, k5)) 7 (75, (splice k7 0 l3))) hp) else False) else False) else False)))) := by kernel_rfl
def F56_j3 (x0 : Option Addr) (x1 : Option Addr) (x8a : Option Addr) (x8n : Nat) (x8c : Nat) (x9 : Int) (k5 : List Value) (k7 : List Value) (hp : HP) (K : Value → HP → Prop) : Prop :=
  ((0 ≤ x9) ∧ (x9 < x8n) ∧ (ptrN x8a fun b_84 o_85 => (ldL (HP.cellN hp b_84 (o_85 + Int.toNat x9 * 5) 5) fun l_86 => (if List.length l_86 = 5 then (if List.all l_86 one = true then (if 0 + List.length l_86 ≤ List.length k7 then (F56_j1 x0 x1 k5 (splice k7 0 l_86) hp  K) else False) else False) else False))))
theorem F56_r22 : R56 [1, 1, 0, 1, 0, 1, 1, 0, 1, 0, 0] 2 (upd e 9 (sI x9)) (upd (upd V0 7 (75, k7)) 5 (77, k5)) hp K =
    (K (upd (upd (upd e 9 (sI x9)) 33 (sI x9)) 34 (sB (decide (x9 < 0)))) (upd (upd V0 7 (75, k7)) 5 (77, k5)) hp) := by kernel_rfl
theorem F56_r23 : R56 [1, 1, 0, 1, 0, 1, 1, 0, 1, 0, 1, 0] 5 (upd (upd e 9 (sI x9)) 8 (sS x8a x8n x8c)) (upd (upd V0 7 (75, k7)) 5 (77, k5)) hp K =
    (K (upd (upd (upd (upd (upd (upd (upd e 9 (sI x9)) 8 (sS x8a x8n x8c)) 35 (sI x9)) 36 (sS x8a x8n x8c)) 37 (sI ((x8n : Nat)))) 38 (sI ((wr (x9 + (x8n : Nat)))))) 9 (sI ((wr (x9 + (x8n : Nat)))))) (upd (upd V0 7 (75, k7)) 5 (77, k5)) hp) := by kernel_rfl
def F56 (x0 : Option Addr) (x1 : Option Addr) (x2 : List Value) (hp : HP) (K : Value → HP → Prop) : Prop :=
  (ldL (cellsN x2 1 5) fun l_1 => (if List.length l_1 = 5 then (if List.all l_1 one = true then (if 0 + List.length l_1 ≤ List.length [(Value.int .u8 0), .int .u8 0, .int .u8 0, .int .u8 0, .int .i64 0] then (ldV (x2)[0]? fun v_75 => (intV v_75 .u8 fun i_76 => (ite2 (i_76 == 4) (CF Try.prog 58 [(.pointer x1)] hp fun u_77 h_78 => (slcV u_77 fun a_79 n_80 c_81 => (ite2 (decide (((n_80 : Nat) : Int) > 0)) (ldV ((splice [.int .u8 0, .int .u8 0, .int .u8 0, .int .u8 0, .int .i64 0] 0 l_1))[4]? fun v_82 => (intV v_82 .i64 fun i_83 => ((((n_80 : Nat) : Int) ≠ 0) ∧ (ite2 (decide (((Int.tmod i_83 (n_80 : Nat)) : Int) < 0)) (F56_j3 x0 x1 a_79 n_80 c_81 (IntKind.wrap .i64 ((Int.tmod i_83 (n_80 : Nat)) + (n_80 : Nat))) x2 (splice [.int .u8 0, .int .u8 0, .int .u8 0, .int .u8 0, .int .i64 0] 0 l_1) h_78  K) (F56_j3 x0 x1 a_79 n_80 c_81 (Int.tmod i_83 (n_80 : Nat)) x2 (splice [.int .u8 0, .int .u8 0, .int .u8 0, .int .u8 0, .int .i64 0] 0 l_1) h_78  K))))) (F56_j1 x0 x1 x2 (splice [.int .u8 0, .int .u8 0, .int .u8 0, .int .u8 0, .int .i64 0] 0 l_1) h_78  K)))) (F56_j1 x0 x1 x2 (splice [.int .u8 0, .int .u8 0, .int .u8 0, .int .u8 0, .int .i64 0] 0 l_1) hp  K)))) else False) else False) else False))
noncomputable def F56_code : Code := (.seq (.region 0 (opsAt Try.f56 [0]) false) (.seq (.region 1 (opsAt Try.f56 [1, 0]) false) (.seq (.seq (.region 2 (opsAt Try.f56 [1, 1, 0, 0]) false) (.cond (.tmp 22) (.seq (.region 3 (opsAt Try.f56 [1, 1, 0, 1, 0, 0]) false) (.seq (.region 4 (opsAt Try.f56 [1, 1, 0, 1, 0, 1, 0]) false) (.cond (.tmp 27) (.seq (.region 5 (opsAt Try.f56 [1, 1, 0, 1, 0, 1, 1, 0, 0]) false) (.seq (.seq (.region 6 (opsAt Try.f56 [1, 1, 0, 1, 0, 1, 1, 0, 1, 0, 0]) false) (.cond (.tmp 34) (.region 7 (opsAt Try.f56 [1, 1, 0, 1, 0, 1, 1, 0, 1, 0, 1, 0]) false) .skip)) (.region 8 (opsAt Try.f56 [1, 1, 0, 1, 0, 1, 1, 0, 1, 1]) false))) .skip))) .skip)) (.seq (.seq (.region 9 (opsAt Try.f56 [1, 1, 1, 0, 0]) false) (.block 0 (.seq (.region 10 (opsAt Try.f56 [1, 1, 1, 0, 1, 0, 0]) false) (.cond (.tmp 45) (.seq (.region 11 (opsAt Try.f56 [1, 1, 1, 0, 1, 0, 1, 0, 0]) false) (.seq (.region 12 (opsAt Try.f56 [1, 1, 1, 0, 1, 0, 1, 0, 1, 0]) false) (.seq (.region 13 (opsAt Try.f56 [1, 1, 1, 0, 1, 0, 1, 0, 1, 1, 0]) false) .ret))) (.seq (.seq (.region 14 (opsAt Try.f56 [1, 1, 1, 0, 1, 0, 1, 1, 0, 0]) false) (.cond (.tmp 77) .skip (.region 15 (opsAt Try.f56 [1, 1, 1, 0, 1, 0, 1, 1, 0, 1, 1]) false))) (.cond (.tmp 77) (.seq (.region 16 (opsAt Try.f56 [1, 1, 1, 0, 1, 0, 1, 1, 1, 0, 0]) true) .ret) (.seq (.region 17 (opsAt Try.f56 [1, 1, 1, 0, 1, 0, 1, 1, 1, 1, 0]) false) (.cond (.tmp 87) (.seq (.region 18 (opsAt Try.f56 [1, 1, 1, 0, 1, 0, 1, 1, 1, 1, 1, 0, 0]) true) .ret) (.seq (.region 19 (opsAt Try.f56 [1, 1, 1, 0, 1, 0, 1, 1, 1, 1, 1, 1, 0]) false) (.cond (.tmp 96) (.seq (.region 20 (opsAt Try.f56 [1, 1, 1, 0, 1, 0, 1, 1, 1, 1, 1, 1, 1, 0, 0]) true) .ret) .skip)))))))))) (.seq (.region 21 (opsAt Try.f56 [1, 1, 1, 1, 0]) false) (.seq (.region 22 (opsAt Try.f56 [1, 1, 1, 1, 1, 0]) false) (.seq (.region 23 (opsAt Try.f56 [1, 1, 1, 1, 1, 1, 0]) true) .ret)))))))
theorem F56_body : Try.f56.body = some F56_code := by kernel_rfl
theorem F56_ok (x0 : Option Addr) (x1 : Option Addr) (x2 : List Value) (hp : HP) (K : Value → HP → Prop) (h : F56 x0 x1 x2 hp K) : CF Try.prog 56 [(.pointer x0), (.pointer x1), (.agg ⟨x2⟩)] hp K := by
 refine .inl ⟨by kernel_rfl, AC.intro (N := 136) Try.func56 F56_body rfl (Nat.le_of_ble_eq_true rfl) ?_⟩
 unfold F56 at h
 unfold F56_code
 refine AWP.seq' ?_
 refine AWP.rgn (F56_r0 (upd (upd E0 1 (sP x1)) 0 (sP x0)) x2 hp _) ?_ (Ru 2 (Ru 0 (Ru 1 Rn))) (Sc rfl (Sc rfl (Sc rfl Sn))) Sn
 refine AWP.seq' ?_
 refine AWP.rgn (F56_r1 (upd (upd E0 1 (sP x1)) 0 (sP x0)) x2 hp _) ?_ (RefOk.p 5 5 0 (Ru 0 (Ru 1 Rn)) (fun e => by cases e)) (Sc rfl (Sc rfl (Sc rfl Sn))) (Sc rfl Sn)
 refine mL h fun l_1 h => mf h fun h => mf h fun h => mf h fun h => ?_
 refine AWP.seq (fun env pv hp => ∃ (x0 : Option Addr) (x1 : Option Addr) (k5 : List Value) (k7 : List Value), Sub (upd (upd (upd (upd E0 7 (sR 7 0)) 5 (sR 5 0)) 1 (sP x1)) 0 (sP x0)) env ∧ Sub (upd (upd V0 7 (75, k7)) 5 (77, k5)) pv ∧ (F56_j1 x0 x1 k5 k7 hp  K)) ?_ ?_
 ·refine AWP.seq' ?_
  refine AWP.rgn (F56_r17 (upd (upd (upd E0 7 (sR 7 0)) 1 (sP x1)) 0 (sP x0)) x2 (splice [.int .u8 0, .int .u8 0, .int .u8 0, .int .u8 0, .int .i64 0] 0 l_1) hp _) ?_ (RefOk.p 5 5 0 (Ru 0 (Ru 1 (RefOk.p 7 7 0 Rn (fun e => by cases e)))) (fun e => by cases e)) (Sc rfl (Sc rfl (Sc rfl (Sc rfl Sn)))) (Sc rfl (Sc rfl Sn))
  refine mV h fun v_75 h => mI h fun i_76 h => ?_
  refine AWP.cond (t := (i_76 == 4)) rfl (fun e => ?_) (fun e => ?_)
  ·replace h := ite2_t h e
   refine AWP.seq' ?_
   refine AWP.rgn (F56_r18 (upd (upd (upd E0 7 (sR 7 0)) 5 (sR 5 0)) 0 (sP x0)) x1 x2 (splice [.int .u8 0, .int .u8 0, .int .u8 0, .int .u8 0, .int .i64 0] 0 l_1) hp _) ?_ (Ru 1 (Ru 0 (RefOk.p 5 5 0 (RefOk.p 7 7 0 Rn (fun e => by cases e)) (fun e => by cases e)))) (Sc rfl (Sc rfl (Sc rfl (Sc rfl Sn)))) (Sc rfl (Sc rfl Sn))
   refine mC h fun u_77 h_78 h => mS h fun a_79 n_80 c_81 h => ?_
   refine AWP.seq' ?_
   refine AWP.rgn (F56_r19 (upd (upd (upd (upd E0 7 (sR 7 0)) 5 (sR 5 0)) 1 (sP x1)) 0 (sP x0)) a_79 n_80 c_81 x2 (splice [.int .u8 0, .int .u8 0, .int .u8 0, .int .u8 0, .int .i64 0] 0 l_1) h_78 _) ?_ (Ru 8 (Ru 0 (Ru 1 (RefOk.p 5 5 0 (RefOk.p 7 7 0 Rn (fun e => by cases e)) (fun e => by cases e))))) (Sc rfl (Sc rfl (Sc rfl (Sc rfl (Sc rfl Sn))))) (Sc rfl (Sc rfl Sn))
   refine AWP.cond (t := (decide (((n_80 : Nat) : Int) > 0))) rfl (fun e => ?_) (fun e => ?_)
   ·replace h := ite2_t h e
    refine AWP.seq' ?_
    refine AWP.rgn (F56_r20 (upd (upd (upd E0 5 (sR 5 0)) 1 (sP x1)) 0 (sP x0)) a_79 n_80 c_81 x2 (splice [.int .u8 0, .int .u8 0, .int .u8 0, .int .u8 0, .int .i64 0] 0 l_1) h_78 _) ?_ (RefOk.p 7 7 0 (Ru 8 (Ru 0 (Ru 1 (RefOk.p 5 5 0 Rn (fun e => by cases e))))) (fun e => by cases e)) (Sc rfl (Sc rfl (Sc rfl (Sc rfl (Sc rfl Sn))))) (Sc rfl (Sc rfl Sn))
    refine mV h (fun v_82 h => mI h (fun i_83 h => ⟨h.1, ?_⟩))
    replace h := h.2
    refine AWP.seq (fun env pv hp => ∃ (x0 : Option Addr) (x1 : Option Addr) (x8a : Option Addr) (x8n : Nat) (x8c : Nat) (x9 : Int) (k5 : List Value) (k7 : List Value), Sub (upd (upd (upd (upd (upd (upd E0 9 (sI x9)) 8 (sS x8a x8n x8c)) 7 (sR 7 0)) 5 (sR 5 0)) 1 (sP x1)) 0 (sP x0)) env ∧ Sub (upd (upd V0 7 (75, k7)) 5 (77, k5)) pv ∧ (F56_j3 x0 x1 x8a x8n x8c x9 k5 k7 hp  K)) ?_ ?_
    ·refine AWP.seq' ?_
     refine AWP.rgn (F56_r22 (upd (upd (upd (upd (upd E0 8 (sS a_79 n_80 c_81)) 7 (sR 7 0)) 5 (sR 5 0)) 1 (sP x1)) 0 (sP x0)) (Int.tmod i_83 (n_80 : Nat)) x2 (splice [.int .u8 0, .int .u8 0, .int .u8 0, .int .u8 0, .int .i64 0] 0 l_1) h_78 _) ?_ (Ru 9 (Ru 0 (Ru 1 (RefOk.p 5 5 0 (RefOk.p 7 7 0 (Ru 8 Rn) (fun e => by cases e)) (fun e => by cases e))))) (Sc rfl (Sc rfl (Sc rfl (Sc rfl (Sc rfl (Sc rfl Sn)))))) (Sc rfl (Sc rfl Sn))
     refine AWP.cond (t := (decide (((Int.tmod i_83 (n_80 : Nat)) : Int) < 0))) rfl (fun e => ?_) (fun e => ?_)
     ·replace h := ite2_t h e
      refine AWP.rgn (F56_r23 (upd (upd (upd (upd E0 7 (sR 7 0)) 5 (sR 5 0)) 1 (sP x1)) 0 (sP x0)) a_79 n_80 c_81 (Int.tmod i_83 (n_80 : Nat)) x2 (splice [.int .u8 0, .int .u8 0, .int .u8 0, .int .u8 0, .int .i64 0] 0 l_1) h_78 _) ?_ (Ru 8 (Ru 9 (Ru 0 (Ru 1 (RefOk.p 5 5 0 (RefOk.p 7 7 0 Rn (fun e => by cases e)) (fun e => by cases e)))))) (Sc rfl (Sc rfl (Sc rfl (Sc rfl (Sc rfl (Sc rfl Sn)))))) (Sc rfl (Sc rfl Sn))
      exact ⟨x0, x1, a_79, n_80, c_81, (wr ((Int.tmod i_83 (n_80 : Nat)) + (n_80 : Nat))), x2, (splice [.int .u8 0, .int .u8 0, .int .u8 0, .int .u8 0, .int .i64 0] 0 l_1), (Sc rfl (Sc rfl (Sc rfl (Sc rfl (Sc rfl (Sc rfl Sn)))))), (Sc rfl (Sc rfl Sn)), h⟩
     ·replace h := ite2_f h e
      refine AWP.skip ?_
      exact ⟨x0, x1, a_79, n_80, c_81, (Int.tmod i_83 (n_80 : Nat)), x2, (splice [.int .u8 0, .int .u8 0, .int .u8 0, .int .u8 0, .int .i64 0] 0 l_1), (Sc rfl (Sc rfl (Sc rfl (Sc rfl (Sc rfl (Sc rfl Sn)))))), (Sc rfl (Sc rfl Sn)), h⟩
    ·rintro env pv hp ⟨x0, x1, x8a, x8n, x8c, x9, k5, k7, he, hv, h⟩
     refine AWP.sub (env' := (upd (upd (upd (upd (upd (upd E0 9 (sI x9)) 8 (sS x8a x8n x8c)) 7 (sR 7 0)) 5 (sR 5 0)) 1 (sP x1)) 0 (sP x0))) (pv' := (upd (upd V0 7 (75, k7)) 5 (77, k5))) ?_ (Ru 0 (Ru 1 (RefOk.p 5 5 0 (RefOk.p 7 7 0 (Ru 8 (Ru 9 Rn)) (fun e => by cases e)) (fun e => by cases e)))) he hv (HSub.refl _)
     clear he hv
     unfold F56_j3 at h
     refine AWP.rgn (F56_r21 (upd (upd (upd E0 5 (sR 5 0)) 1 (sP x1)) 0 (sP x0)) x8a x8n x8c x9 k5 k7 hp _) ?_ (RefOk.p 7 7 0 (Ru 8 (Ru 9 (Ru 0 (Ru 1 (RefOk.p 5 5 0 Rn (fun e => by cases e)))))) (fun e => by cases e)) (Sc rfl (Sc rfl (Sc rfl (Sc rfl (Sc rfl (Sc rfl Sn)))))) (Sc rfl (Sc rfl Sn))
     refine ⟨h.1, h.2.1, mN h.2.2 fun b_84 o_85 h => mL h fun l_86 h => mf h fun h => mf h fun h => mf h fun h => ?_⟩
     exact ⟨x0, x1, k5, (splice k7 0 l_86), (Sc rfl (Sc rfl (Sc rfl (Sc rfl Sn)))), (Sc rfl (Sc rfl Sn)), h⟩
   ·replace h := ite2_f h e
    refine AWP.skip ?_
    exact ⟨x0, x1, x2, (splice [.int .u8 0, .int .u8 0, .int .u8 0, .int .u8 0, .int .i64 0] 0 l_1), (Sc rfl (Sc rfl (Sc rfl (Sc rfl Sn)))), (Sc rfl (Sc rfl Sn)), h⟩
  ·replace h := ite2_f h e
   refine AWP.skip ?_
   exact ⟨x0, x1, x2, (splice [.int .u8 0, .int .u8 0, .int .u8 0, .int .u8 0, .int .i64 0] 0 l_1), (Sc rfl (Sc rfl (Sc rfl (Sc rfl Sn)))), (Sc rfl (Sc rfl Sn)), h⟩
 ·rintro env pv hp ⟨x0, x1, k5, k7, he, hv, h⟩
  refine AWP.sub (env' := (upd (upd (upd (upd E0 7 (sR 7 0)) 5 (sR 5 0)) 1 (sP x1)) 0 (sP x0))) (pv' := (upd (upd V0 7 (75, k7)) 5 (77, k5))) ?_ (Ru 0 (Ru 1 (RefOk.p 5 5 0 (RefOk.p 7 7 0 Rn (fun e => by cases e)) (fun e => by cases e)))) he hv (HSub.refl _)
  clear he hv
  unfold F56_j1 at h
  refine AWP.seq' ?_
  refine AWP.seq' ?_
  refine AWP.rgn (F56_r2 (upd (upd (upd E0 7 (sR 7 0)) 1 (sP x1)) 0 (sP x0)) k5 k7 hp _) ?_ (RefOk.p 5 5 0 (Ru 0 (Ru 1 (RefOk.p 7 7 0 Rn (fun e => by cases e)))) (fun e => by cases e)) (Sc rfl (Sc rfl (Sc rfl (Sc rfl Sn)))) (Sc rfl (Sc rfl Sn))
  refine mV h fun v_2 h => mI h fun i_3 h => ?_
  refine AWP.block ?_
  refine AWP.seq' ?_
  refine AWP.rgn (F56_r3 (upd (upd (upd (upd E0 7 (sR 7 0)) 5 (sR 5 0)) 1 (sP x1)) 0 (sP x0)) i_3 k5 k7 hp _) ?_ (Ru 44 (Ru 0 (Ru 1 (RefOk.p 5 5 0 (RefOk.p 7 7 0 Rn (fun e => by cases e)) (fun e => by cases e))))) (Sc rfl (Sc rfl (Sc rfl (Sc rfl (Sc rfl Sn))))) (Sc rfl (Sc rfl Sn))
  refine AWP.cond (t := (i_3 == 0)) rfl (fun e => ?_) (fun e => ?_)
  ·replace h := ite2_t h e
   refine AWP.seq' ?_
   refine AWP.rgn (F56_r4 (upd E0 1 (sP x1)) x0 k5 k7 hp _) ?_ (Ru 0 (RefOk.p 5 5 0 (RefOk.p 7 7 0 (Ru 1 Rn) (fun e => by cases e)) (fun e => by cases e))) (Sc rfl (Sc rfl (Sc rfl (Sc rfl Sn)))) (Sc rfl (Sc rfl Sn))
   refine mL h fun l_4 h => mV h fun v_5 h => mI h fun i_6 h => mV h fun v_7 h => mB h fun q_8 h => mC h fun u_9 h_10 h => mT h fun u_11 u_12 h => mA h fun l_13 h => mI h fun i_14 h => mf h fun h => mf h fun h => mf h fun h => ?_
   refine AWP.seq' ?_
   refine AWP.rgn (F56_r5 (upd (upd E0 11 (sI i_14)) 10 (sR 10 0)) x1 k5 k7 (splice [.int .u8 0, .int .u8 0, .int .u8 0, .int .u8 0, .int .i64 0] 0 l_13) h_10 _) ?_ (Ru 1 (RefOk.p 5 5 0 (RefOk.p 7 7 0 (RefOk.p 10 10 0 (Ru 11 Rn) (fun e => by cases e)) (fun e => by cases e)) (fun e => by cases e))) (Sc rfl (Sc rfl (Sc rfl (Sc rfl (Sc rfl Sn))))) (Sc rfl (Sc rfl (Sc rfl Sn)))
   refine mL h fun l_15 h => mV h fun v_16 h => mI h fun i_17 h => mV h fun v_18 h => mB h fun q_19 h => mC h fun u_20 h_21 h => mT h fun u_22 u_23 h => mA h fun l_24 h => mI h fun i_25 h => mf h fun h => mf h fun h => mf h fun h => ?_
   refine AWP.seq' ?_
   refine AWP.rgn (F56_r6 E0 i_14 i_25 (splice [.int .u8 0, .int .u8 0, .int .u8 0, .int .u8 0, .int .i64 0] 0 l_13) (splice [.int .u8 0, .int .u8 0, .int .u8 0, .int .u8 0, .int .i64 0] 0 l_24) h_21 _) ?_ (RefOk.p 10 10 0 (Ru 11 (RefOk.p 12 12 0 (Ru 13 Rn) (fun e => by cases e))) (fun e => by cases e)) (Sc rfl (Sc rfl (Sc rfl (Sc rfl Sn)))) (Sc rfl (Sc rfl Sn))
   refine mL h fun l_26 h => mL h fun l_27 h => mE h fun q_28 h => ?_
   refine mt h (fun h => ?_) (fun h => ?_)
   ·refine AWP.ret ?_
    exact h
   ·refine AWP.ret ?_
    exact h
  ·replace h := ite2_f h e
   refine AWP.seq (fun env pv hp => ∃ (x0 : Option Addr) (x1 : Option Addr) (x44 : Int) (x77 : Bool) (k7 : List Value), Sub (upd (upd (upd (upd (upd E0 77 (sB x77)) 44 (sV (.int .u8 x44))) 7 (sR 7 0)) 1 (sP x1)) 0 (sP x0)) env ∧ Sub (upd V0 7 (75, k7)) pv ∧ (F56_j2 x0 x1 x44 x77 k7 hp  K)) ?_ ?_
   ·refine AWP.seq' ?_
    refine AWP.rgn (F56_r15 (upd (upd (upd E0 7 (sR 7 0)) 1 (sP x1)) 0 (sP x0)) i_3 k7 hp _) ?_ (Ru 44 (Ru 0 (Ru 1 (RefOk.p 7 7 0 Rn (fun e => by cases e))))) (Sc rfl (Sc rfl (Sc rfl (Sc rfl Sn)))) (Sc rfl Sn)
    refine AWP.cond (t := (i_3 == 1)) rfl (fun e => ?_) (fun e => ?_)
    ·replace h := ite2_t h e
     refine AWP.skip ?_
     exact ⟨x0, x1, i_3, (i_3 == 1), k7, (Sc rfl (Sc rfl (Sc rfl (Sc rfl (Sc rfl Sn))))), (Sc rfl Sn), h⟩
    ·replace h := ite2_f h e
     refine AWP.rgn (F56_r16 (upd (upd (upd E0 7 (sR 7 0)) 1 (sP x1)) 0 (sP x0)) i_3 k7 hp _) ?_ (Ru 44 (Ru 0 (Ru 1 (RefOk.p 7 7 0 Rn (fun e => by cases e))))) (Sc rfl (Sc rfl (Sc rfl (Sc rfl Sn)))) (Sc rfl Sn)
     exact ⟨x0, x1, i_3, (i_3 == 4), k7, (Sc rfl (Sc rfl (Sc rfl (Sc rfl (Sc rfl Sn))))), (Sc rfl Sn), h⟩
   ·rintro env pv hp ⟨x0, x1, x44, x77, k7, he, hv, h⟩
    refine AWP.sub (env' := (upd (upd (upd (upd (upd E0 77 (sB x77)) 44 (sV (.int .u8 x44))) 7 (sR 7 0)) 1 (sP x1)) 0 (sP x0))) (pv' := (upd V0 7 (75, k7))) ?_ (Ru 0 (Ru 1 (RefOk.p 7 7 0 (Ru 44 (Ru 77 Rn)) (fun e => by cases e)))) he hv (HSub.refl _)
    clear he hv
    unfold F56_j2 at h
    refine AWP.cond (t := x77) rfl (fun e => ?_) (fun e => ?_)
    ·replace h := ite2_t h e
     refine AWP.seq' ?_
     refine AWP.rgnD (by kernel_rfl) (by kernel_rfl) (F56_r7 E0 x0 x1 k7 hp _) ?_ (Ru 0 (Ru 1 (RefOk.p 7 7 0 Rn (fun e => by cases e)))) (Sc rfl (Sc rfl (Sc rfl Sn))) (Sc rfl Sn)
     refine mL h fun l_29 h => mC h fun u_30 h_31 h => mI h fun i_32 h => mL h fun l_33 h => mC h fun u_34 h_35 h => mI h fun i_36 h => ?_
     refine AWP.ret ?_
     exact h
    ·replace h := ite2_f h e
     refine AWP.seq' ?_
     refine AWP.rgn (F56_r8 (upd (upd (upd E0 7 (sR 7 0)) 1 (sP x1)) 0 (sP x0)) x44 k7 hp _) ?_ (Ru 44 (Ru 0 (Ru 1 (RefOk.p 7 7 0 Rn (fun e => by cases e))))) (Sc rfl (Sc rfl (Sc rfl (Sc rfl Sn)))) (Sc rfl Sn)
     refine AWP.cond (t := (x44 == 2)) rfl (fun e => ?_) (fun e => ?_)
     ·replace h := ite2_t h e
      refine AWP.seq' ?_
      refine AWP.rgnD (by kernel_rfl) (by kernel_rfl) (F56_r9 E0 x0 x1 k7 hp _) ?_ (Ru 0 (Ru 1 (RefOk.p 7 7 0 Rn (fun e => by cases e)))) (Sc rfl (Sc rfl (Sc rfl Sn))) (Sc rfl Sn)
      refine mL h fun l_37 h => mC h fun u_38 h_39 h => mI h fun i_40 h => mL h fun l_41 h => mC h fun u_42 h_43 h => mI h fun i_44 h => ?_
      refine AWP.ret ?_
      exact h
     ·replace h := ite2_f h e
      refine AWP.seq' ?_
      refine AWP.rgn (F56_r10 (upd (upd (upd E0 7 (sR 7 0)) 1 (sP x1)) 0 (sP x0)) x44 k7 hp _) ?_ (Ru 44 (Ru 0 (Ru 1 (RefOk.p 7 7 0 Rn (fun e => by cases e))))) (Sc rfl (Sc rfl (Sc rfl (Sc rfl Sn)))) (Sc rfl Sn)
      refine AWP.cond (t := (x44 == 3)) rfl (fun e => ?_) (fun e => ?_)
      ·replace h := ite2_t h e
       refine AWP.seq' ?_
       refine AWP.rgnD (by kernel_rfl) (by kernel_rfl) (F56_r11 E0 x0 x1 k7 hp _) ?_ (Ru 0 (Ru 1 (RefOk.p 7 7 0 Rn (fun e => by cases e)))) (Sc rfl (Sc rfl (Sc rfl Sn))) (Sc rfl Sn)
       refine mL h fun l_45 h => mC h fun u_46 h_47 h => mI h fun i_48 h => mL h fun l_49 h => mC h fun u_50 h_51 h => mI h fun i_52 h => ?_
       refine AWP.ret ?_
       exact h
      ·replace h := ite2_f h e
       refine AWP.skip ?_
       refine AWP.seq' ?_
       refine AWP.rgn (F56_r12 (upd E0 1 (sP x1)) x0 k7 hp _) ?_ (Ru 0 (RefOk.p 7 7 0 (Ru 1 Rn) (fun e => by cases e))) (Sc rfl (Sc rfl (Sc rfl Sn))) (Sc rfl Sn)
       refine mL h fun l_53 h => mC h fun u_54 h_55 h => mT h fun u_56 u_57 h => mB h fun q_58 h => mB h fun q_59 h => ?_
       refine AWP.seq' ?_
       refine AWP.rgn (F56_r13 (upd (upd (upd E0 15 (sB q_59)) 14 (sB q_58)) 0 (sP x0)) x1 k7 h_55 _) ?_ (Ru 1 (RefOk.p 7 7 0 (Ru 0 (Ru 14 (Ru 15 Rn))) (fun e => by cases e))) (Sc rfl (Sc rfl (Sc rfl (Sc rfl (Sc rfl Sn))))) (Sc rfl Sn)
       refine mL h fun l_60 h => mC h fun u_61 h_62 h => mT h fun u_63 u_64 h => mB h fun q_65 h => mB h fun q_66 h => ?_
       refine AWP.seq' ?_
       refine AWP.rgnD (by kernel_rfl) (by kernel_rfl) (F56_r14 E0 x0 x1 q_58 q_59 q_65 q_66 k7 h_62 _) ?_ (Ru 0 (Ru 1 (RefOk.p 7 7 0 (Ru 14 (Ru 15 (Ru 16 (Ru 17 Rn)))) (fun e => by cases e)))) (Sc rfl (Sc rfl (Sc rfl (Sc rfl (Sc rfl (Sc rfl (Sc rfl Sn))))))) (Sc rfl Sn)
       refine mt h (fun h => ?_) (fun h => ?_)
       ·refine mt h (fun h => ?_) (fun h => ?_)
        ·refine mL h fun l_67 h => mC h fun u_68 h_69 h => mB h fun q_70 h => mL h fun l_71 h => mC h fun u_72 h_73 h => mB h fun q_74 h => ?_
         refine AWP.ret ?_
         exact h
        ·refine AWP.ret ?_
         exact h
       ·refine AWP.ret ?_
        exact h
end
-- 57 (*interpreter/interpreterref18.Pool).Free
section
variable (e : Env) (x0 : Option Addr) (x3 x4 x5 : Int) (hp : HP) (K : Env → PV → HP → Prop)
abbrev R57 (p : List Nat) (n : Nat) := RW Try.prog 69 [] (opsAt Try.f57 p) (List.range n)
theorem F57_r0 : R57 [0] 1 e V0 hp K =
    (K (upd e 2 (sI 0)) V0 hp) := by kernel_rfl
theorem F57_r1 : R57 [1, 0] 1 e V0 hp K =
    (K (upd e 3 (sI 0)) V0 hp) := by kernel_rfl
theorem F57_r2 : R57 [1, 1, 1, 1, 0] 2 (upd e 3 (sI x3)) V0 hp K =
    (K (upd (upd (upd e 3 (sI x3)) 68 (sI x3)) 2 (sI x3)) V0 hp) := by kernel_rfl
def F57_j2 (x3 : Int) (hp : HP) (K : Value → HP → Prop) : Prop :=
  (K (.int .i64 x3) hp)
theorem F57_r3 : R57 [1, 1, 1, 0, 1, 0, 0, 0, 0] 7 (upd (upd e 5 (sI x5)) 0 (sP x0)) V0 hp K =
    (ptrN x0 fun b1 o2 => (ldV (HP.cell hp b1 (o2 + 3)) fun v3 => (slcV v3 fun a4 n5 c6 => (K (upd (upd (upd (upd (upd (upd (upd (upd (upd e 5 (sI x5)) 0 (sP x0)) 27 (sI x5)) 28 (sP x0)) 29 (sQ b1 o2)) 30 (sQ b1 (o2 + 3))) 31 (sS a4 n5 c6)) 32 (sI ((n5 : Nat)))) 33 (sB ((decide (x5 < n5))))) V0 hp)))) := by kernel_rfl
theorem F57_r4 : R57 [1, 1, 1, 0, 1, 0, 0, 1, 1] 3 (upd e 5 (sI x5)) V0 hp K =
    (K (upd (upd (upd (upd e 5 (sI x5)) 34 (sI x5)) 35 (sI ((wr (x5 + 1))))) 5 (sI ((wr (x5 + 1))))) V0 hp) := by kernel_rfl
def F57_j5 (x0 : Option Addr) (x3 : Int) (x5 : Int) (hp : HP) (I4 : (Int × Int) → HP → Prop) (K : Value → HP → Prop) : Prop :=
  (I4 (x3, (IntKind.wrap .i64 (x5 + 1))) hp)
theorem F57_r5 : R57 [1, 1, 1, 0, 1, 0, 0, 1, 0, 0, 1, 0] 3 (upd e 3 (sI x3)) V0 hp K =
    (K (upd (upd (upd (upd e 3 (sI x3)) 66 (sI x3)) 67 (sI ((wr (x3 - 1))))) 3 (sI ((wr (x3 - 1))))) V0 hp) := by kernel_rfl
def F57_j6 (x0 : Option Addr) (x3 : Int) (x5 : Int) (x65 : Bool) (hp : HP) (I4 : (Int × Int) → HP → Prop) (K : Value → HP → Prop) : Prop :=
  (ite2 x65 (F57_j5 x0 (IntKind.wrap .i64 (x3 - 1)) x5 hp I4 K) (F57_j5 x0 x3 x5 hp I4 K))
theorem F57_r6 : R57 [1, 1, 1, 0, 1, 0, 0, 1, 0, 0, 0] 30 (upd (upd e 5 (sI x5)) 0 (sP x0)) V0 hp K =
    (ptrN x0 fun b1 o2 => (ldV (HP.cell hp b1 (o2 + 3)) fun v3 => (slcV v3 fun a4 n5 c6 => ((0 ≤ x5) ∧ (x5 < n5) ∧ (ptrN a4 fun b7 o8 => (ldV (HP.cell hp b7 (((o8 + Int.toNat x5 * 6) + 0) + 4)) fun v9 => (intV v9 .i64 fun i10 => (ptrN x0 fun b11 o12 => (ldV (HP.cell hp b11 (o12 + 1)) fun v13 => (intV v13 .i64 fun i14 => (ite2 (decide (i10 ≥ i14)) (ptrN x0 fun b15 o16 => (ldV (HP.cell hp b15 (o16 + 3)) fun v17 => (slcV v17 fun a18 n19 c20 => ((0 ≤ x5) ∧ (x5 < n19) ∧ (ptrN a18 fun b21 o22 => (ldV (HP.cell hp b21 (((o22 + Int.toNat x5 * 6) + 0) + 4)) fun v23 => (intV v23 .i64 fun i24 => (ptrN x0 fun b25 o26 => (ldV (HP.cell hp b25 (o26 + 2)) fun v27 => (intV v27 .i64 fun i28 => (K (upd (upd (upd (upd (upd (upd (upd (upd (upd (upd (upd (upd (upd (upd (upd (upd (upd (upd (upd (upd (upd (upd (upd (upd (upd (upd (upd (upd (upd (upd (upd (upd e 5 (sI x5)) 0 (sP x0)) 36 (sP x0)) 37 (sQ b1 o2)) 38 (sQ b1 (o2 + 3))) 39 (sS a4 n5 c6)) 40 (sI x5)) 41 (sQ b7 (o8 + Int.toNat x5 * 6))) 42 (sQ b7 ((o8 + Int.toNat x5 * 6) + 0))) 43 (sV (ptr b7 (((o8 + Int.toNat x5 * 6) + 0) + 4)))) 44 (sI i10)) 45 (sP x0)) 46 (sQ b11 o12)) 47 (sQ b11 (o12 + 1))) 48 (sI i14)) 49 (sB (decide (i10 ≥ i14)))) 50 (sB true)) 51 (sP x0)) 52 (sQ b15 o16)) 53 (sQ b15 (o16 + 3))) 54 (sS a18 n19 c20)) 55 (sI x5)) 56 (sQ b21 (o22 + Int.toNat x5 * 6))) 57 (sQ b21 ((o22 + Int.toNat x5 * 6) + 0))) 58 (sV (ptr b21 (((o22 + Int.toNat x5 * 6) + 0) + 4)))) 59 (sI i24)) 60 (sP x0)) 61 (sQ b25 o26)) 62 (sQ b25 (o26 + 2))) 63 (sI i28)) 64 (sB (decide (i24 ≤ i28)))) 65 (sB (decide (i24 ≤ i28)))) V0 hp))))))))))) (K (upd (upd (upd (upd (upd (upd (upd (upd (upd (upd (upd (upd (upd (upd (upd (upd (upd (upd (upd (upd (upd (upd (upd (upd (upd (upd (upd (upd (upd (upd (upd (upd e 5 (sI x5)) 0 (sP x0)) 36 (sP x0)) 37 (sQ b1 o2)) 38 (sQ b1 (o2 + 3))) 39 (sS a4 n5 c6)) 40 (sI x5)) 41 (sQ b7 (o8 + Int.toNat x5 * 6))) 42 (sQ b7 ((o8 + Int.toNat x5 * 6) + 0))) 43 (sV (ptr b7 (((o8 + Int.toNat x5 * 6) + 0) + 4)))) 44 (sI i10)) 45 (sP x0)) 46 (sQ b11 o12)) 47 (sQ b11 (o12 + 1))) 48 (sI i14)) 49 (sB (decide (i10 ≥ i14)))) 50 (sB false)) 51 sU) 52 sU) 53 sU) 54 sU) 55 sU) 56 sU) 57 sU) 58 sU) 59 sU) 60 sU) 61 sU) 62 sU) 63 sU) 64 sU) 65 (sB false)) V0 hp)))))))))))) := by kernel_rfl
def F57_l4 (x0 : Option Addr) (K : Value → HP → Prop) (I4 : (Int × Int) → HP → Prop) (x3 : Int) (x5 : Int) (hp : HP) : Prop :=
  (ptrN x0 fun b_1 o_2 => (ldV (HP.cell hp b_1 (o_2 + 3)) fun v_3 => (slcV v_3 fun a_4 n_5 c_6 => (ite2 (decide (x5 < n_5)) (ptrN x0 fun b_7 o_8 => (ldV (HP.cell hp b_7 (o_8 + 3)) fun v_9 => (slcV v_9 fun a_10 n_11 c_12 => ((0 ≤ x5) ∧ (x5 < n_11) ∧ (ptrN a_10 fun b_13 o_14 => (ldV (HP.cell hp b_13 (((o_14 + Int.toNat x5 * 6) + 0) + 4)) fun v_15 => (intV v_15 .i64 fun i_16 => (ptrN x0 fun b_17 o_18 => (ldV (HP.cell hp b_17 (o_18 + 1)) fun v_19 => (intV v_19 .i64 fun i_20 => (ite2 (decide (i_16 ≥ i_20)) (ptrN x0 fun b_21 o_22 => (ldV (HP.cell hp b_21 (o_22 + 3)) fun v_23 => (slcV v_23 fun a_24 n_25 c_26 => ((0 ≤ x5) ∧ (x5 < n_25) ∧ (ptrN a_24 fun b_27 o_28 => (ldV (HP.cell hp b_27 (((o_28 + Int.toNat x5 * 6) + 0) + 4)) fun v_29 => (intV v_29 .i64 fun i_30 => (ptrN x0 fun b_31 o_32 => (ldV (HP.cell hp b_31 (o_32 + 2)) fun v_33 => (intV v_33 .i64 fun i_34 => (F57_j6 x0 x3 x5 (decide (i_30 ≤ i_34)) hp I4 K))))))))))) (F57_j6 x0 x3 x5 false hp I4 K)))))))))))) (F57_j2 x3 hp  K)))))
def F57_j3 (x0 : Option Addr) (x3 : Int) (x5 : Int) (hp : HP) (K : Value → HP → Prop) : Prop :=
  (LoopP (σ := Int × Int) (fun I s hp => F57_l4 x0  K I s.1 s.2 hp) (x3, x5) hp)
theorem F57_r7 : R57 [1, 1, 1, 0, 0] 1 e V0 hp K =
    (K (upd e 5 (sI 0)) V0 hp) := by kernel_rfl
def F57_j1 (x0 : Option Addr) (x3 : Int) (hp : HP) (K : Value → HP → Prop) : Prop :=
  (F57_j3 x0 x3 0 hp  K)
theorem F57_r8 : R57 [1, 1, 0, 1, 0, 0, 0, 0] 7 (upd (upd e 4 (sI x4)) 0 (sP x0)) V0 hp K =
    (ptrN x0 fun b1 o2 => (ldV (HP.cell hp b1 (o2 + 0)) fun v3 => (slcV v3 fun a4 n5 c6 => (K (upd (upd (upd (upd (upd (upd (upd (upd (upd e 4 (sI x4)) 0 (sP x0)) 6 (sI x4)) 7 (sP x0)) 8 (sQ b1 o2)) 9 (sQ b1 (o2 + 0))) 10 (sS a4 n5 c6)) 11 (sI ((n5 : Nat)))) 12 (sB ((decide (x4 < n5))))) V0 hp)))) := by kernel_rfl
theorem F57_r9 : R57 [1, 1, 0, 1, 0, 0, 1, 0, 0] 13 (upd (upd e 3 (sI x3)) 0 (sP x0)) V0 hp K =
    (ptrN x0 fun b1 o2 => (ldV (HP.cell hp b1 (o2 + 2)) fun v3 => (intV v3 .i64 fun i4 => (ptrN x0 fun b5 o6 => (ldV (HP.cell hp b5 (o6 + 1)) fun v7 => (intV v7 .i64 fun i8 => (K (upd (upd (upd (upd (upd (upd (upd (upd (upd (upd (upd (upd (upd (upd (upd e 3 (sI x3)) 0 (sP x0)) 15 (sI x3)) 16 (sP x0)) 17 (sQ b1 o2)) 18 (sQ b1 (o2 + 2))) 19 (sI i4)) 20 (sI ((wr (x3 + i4))))) 21 (sP x0)) 22 (sQ b5 o6)) 23 (sQ b5 (o6 + 1))) 24 (sI i8)) 25 (sI ((wr ((wr (x3 + i4)) - i8))))) 26 (sI ((wr ((wr ((wr (x3 + i4)) - i8)) + 1))))) 3 (sI ((wr ((wr ((wr (x3 + i4)) - i8)) + 1))))) V0 hp))))))) := by kernel_rfl
theorem F57_r10 : R57 [1, 1, 0, 1, 0, 0, 1, 1] 3 (upd e 4 (sI x4)) V0 hp K =
    (K (upd (upd (upd (upd e 4 (sI x4)) 13 (sI x4)) 14 (sI ((wr (x4 + 1))))) 4 (sI ((wr (x4 + 1))))) V0 hp) := by kernel_rfl
def F57_l8 (x0 : Option Addr) (K : Value → HP → Prop) (I8 : (Int × Int) → HP → Prop) (x3 : Int) (x4 : Int) (hp : HP) : Prop :=
  (ptrN x0 fun b_35 o_36 => (ldV (HP.cell hp b_35 (o_36 + 0)) fun v_37 => (slcV v_37 fun a_38 n_39 c_40 => (ite2 (decide (x4 < n_39)) (ptrN x0 fun b_41 o_42 => (ldV (HP.cell hp b_41 (o_42 + 2)) fun v_43 => (intV v_43 .i64 fun i_44 => (ptrN x0 fun b_45 o_46 => (ldV (HP.cell hp b_45 (o_46 + 1)) fun v_47 => (intV v_47 .i64 fun i_48 => (I8 ((IntKind.wrap .i64 ((IntKind.wrap .i64 ((IntKind.wrap .i64 (x3 + i_44)) - i_48)) + 1)), (IntKind.wrap .i64 (x4 + 1))) hp))))))) (F57_j1 x0 x3 hp  K)))))
def F57_j7 (x0 : Option Addr) (x3 : Int) (x4 : Int) (hp : HP) (K : Value → HP → Prop) : Prop :=
  (LoopP (σ := Int × Int) (fun I s hp => F57_l8 x0  K I s.1 s.2 hp) (x3, x4) hp)
theorem F57_r11 : R57 [1, 1, 0, 0] 1 e V0 hp K =
    (K (upd e 4 (sI 0)) V0 hp) := by kernel_rfl
def F57 (x0 : Option Addr) (hp : HP) (K : Value → HP → Prop) : Prop :=
  (F57_j7 x0 0 0 hp  K)
noncomputable def F57_code : Code := (.seq (.region 0 (opsAt Try.f57 [0]) false) (.seq (.region 1 (opsAt Try.f57 [1, 0]) false) (.seq (.seq (.region 2 (opsAt Try.f57 [1, 1, 0, 0]) false) (.block 0 (.loop (.seq (.seq (.region 3 (opsAt Try.f57 [1, 1, 0, 1, 0, 0, 0, 0]) false) (.cond (.tmp 12) .skip (.exit 0))) (.seq (.block 1 (.region 5 (opsAt Try.f57 [1, 1, 0, 1, 0, 0, 1, 0, 0]) true)) (.region 4 (opsAt Try.f57 [1, 1, 0, 1, 0, 0, 1, 1]) false)))))) (.seq (.seq (.region 6 (opsAt Try.f57 [1, 1, 1, 0, 0]) false) (.block 2 (.loop (.seq (.seq (.region 7 (opsAt Try.f57 [1, 1, 1, 0, 1, 0, 0, 0, 0]) false) (.cond (.tmp 33) .skip (.exit 2))) (.seq (.block 3 (.seq (.region 9 (opsAt Try.f57 [1, 1, 1, 0, 1, 0, 0, 1, 0, 0, 0]) true) (.cond (.tmp 65) (.region 10 (opsAt Try.f57 [1, 1, 1, 0, 1, 0, 0, 1, 0, 0, 1, 0]) false) .skip))) (.region 8 (opsAt Try.f57 [1, 1, 1, 0, 1, 0, 0, 1, 1]) false)))))) (.seq (.region 11 (opsAt Try.f57 [1, 1, 1, 1, 0]) false) .ret)))))
theorem F57_body : Try.f57.body = some F57_code := by kernel_rfl
theorem F57_ok (x0 : Option Addr) (hp : HP) (K : Value → HP → Prop) (h : F57 x0 hp K) : CF Try.prog 57 [(.pointer x0)] hp K := by
 refine .inl ⟨by kernel_rfl, AC.intro (N := 69) Try.func57 F57_body rfl (Nat.le_of_ble_eq_true rfl) ?_⟩
 unfold F57 at h
 unfold F57_code
 refine AWP.seq' ?_
 refine AWP.rgn (F57_r0 (upd E0 0 (sP x0))  hp _) ?_ (Ru 0 Rn) (Sc rfl Sn) Sn
 refine AWP.seq' ?_
 refine AWP.rgn (F57_r1 (upd E0 0 (sP x0))  hp _) ?_ (Ru 0 Rn) (Sc rfl Sn) Sn
 refine AWP.seq (fun env pv hp => ∃ (x0 : Option Addr) (x3 : Int), Sub (upd (upd E0 3 (sI x3)) 0 (sP x0)) env ∧ Sub V0 pv ∧ (F57_j1 x0 x3 hp  K)) ?_ ?_
 ·refine AWP.seq (fun env pv hp => ∃ (x0 : Option Addr) (x3 : Int) (x4 : Int), Sub (upd (upd (upd E0 4 (sI x4)) 3 (sI x3)) 0 (sP x0)) env ∧ Sub V0 pv ∧ (F57_j7 x0 x3 x4 hp  K)) ?_ ?_
  ·refine AWP.rgn (F57_r11 (upd (upd E0 3 (sI 0)) 0 (sP x0))  hp _) ?_ (Ru 0 (Ru 3 Rn)) (Sc rfl (Sc rfl Sn)) Sn
   exact ⟨x0, 0, 0, (Sc rfl (Sc rfl (Sc rfl Sn))), Sn, h⟩
  ·rintro env pv hp ⟨x0, x3, x4, he, hv, h⟩
   refine AWP.sub (env' := (upd (upd (upd E0 4 (sI x4)) 3 (sI x3)) 0 (sP x0))) (pv' := V0) ?_ (Ru 0 (Ru 3 (Ru 4 Rn))) he hv (HSub.refl _)
   clear he hv
   unfold F57_j7 at h
   refine AWP.block ?_
   refine AWP.loop (σ := Int × Int) (fun I s hp => F57_l8 x0  K I s.1 s.2 hp) (fun s => (upd (upd (upd E0 4 (sI (s.2))) 3 (sI (s.1))) 0 (sP x0))) (fun s => V0) (x3, x4) h (fun s => (Ru 0 (Ru 3 (Ru 4 Rn)))) (Sc rfl (Sc rfl (Sc rfl Sn))) Sn ?_
   intro I8 s hp h
   obtain ⟨x3, x4⟩ := s
   replace h : F57_l8 x0  K I8 x3 x4 hp := h
   unfold F57_l8 at h
   refine AWP.seq' ?_
   refine AWP.seq' ?_
   refine AWP.rgn (F57_r8 (upd E0 3 (sI x3)) x0 x4 hp _) ?_ (Ru 0 (Ru 4 (Ru 3 Rn))) (Sc rfl (Sc rfl (Sc rfl Sn))) Sn
   refine mN h fun b_35 o_36 h => mV h fun v_37 h => mS h fun a_38 n_39 c_40 h => ?_
   refine AWP.cond (t := (decide (x4 < n_39))) rfl (fun e => ?_) (fun e => ?_)
   ·replace h := ite2_t h e
    refine AWP.skip ?_
    refine AWP.seq' ?_
    refine AWP.block ?_
    refine AWP.rgnD (by kernel_rfl) (by kernel_rfl) (F57_r9 (upd E0 4 (sI x4)) x0 x3 hp _) ?_ (Ru 0 (Ru 3 (Ru 4 Rn))) (Sc rfl (Sc rfl (Sc rfl Sn))) Sn
    refine mN h fun b_41 o_42 h => mV h fun v_43 h => mI h fun i_44 h => mN h fun b_45 o_46 h => mV h fun v_47 h => mI h fun i_48 h => ?_
    refine AWP.rgn (F57_r10 (upd (upd E0 3 (sI ((wr ((wr ((wr (x3 + i_44)) - i_48)) + 1))))) 0 (sP x0)) x4 hp _) ?_ (Ru 4 (Ru 0 (Ru 3 Rn))) (Sc rfl (Sc rfl (Sc rfl Sn))) Sn
    exact ⟨((wr ((wr ((wr (x3 + i_44)) - i_48)) + 1)), (wr (x4 + 1))), (Sc rfl (Sc rfl (Sc rfl Sn))), Sn, h⟩
   ·replace h := ite2_f h e
    refine AWP.exit ?_
    exact ⟨x0, x3, (Sc rfl (Sc rfl Sn)), Sn, h⟩
 ·rintro env pv hp ⟨x0, x3, he, hv, h⟩
  refine AWP.sub (env' := (upd (upd E0 3 (sI x3)) 0 (sP x0))) (pv' := V0) ?_ (Ru 0 (Ru 3 Rn)) he hv (HSub.refl _)
  clear he hv
  unfold F57_j1 at h
  refine AWP.seq (fun env pv hp => ∃ (x3 : Int), Sub (upd E0 3 (sI x3)) env ∧ Sub V0 pv ∧ (F57_j2 x3 hp  K)) ?_ ?_
  ·refine AWP.seq (fun env pv hp => ∃ (x0 : Option Addr) (x3 : Int) (x5 : Int), Sub (upd (upd (upd E0 5 (sI x5)) 3 (sI x3)) 0 (sP x0)) env ∧ Sub V0 pv ∧ (F57_j3 x0 x3 x5 hp  K)) ?_ ?_
   ·refine AWP.rgn (F57_r7 (upd (upd E0 3 (sI x3)) 0 (sP x0))  hp _) ?_ (Ru 0 (Ru 3 Rn)) (Sc rfl (Sc rfl Sn)) Sn
    exact ⟨x0, x3, 0, (Sc rfl (Sc rfl (Sc rfl Sn))), Sn, h⟩
   ·rintro env pv hp ⟨x0, x3, x5, he, hv, h⟩
    refine AWP.sub (env' := (upd (upd (upd E0 5 (sI x5)) 3 (sI x3)) 0 (sP x0))) (pv' := V0) ?_ (Ru 0 (Ru 3 (Ru 5 Rn))) he hv (HSub.refl _)
    clear he hv
    unfold F57_j3 at h
    refine AWP.block ?_
    refine AWP.loop (σ := Int × Int) (fun I s hp => F57_l4 x0  K I s.1 s.2 hp) (fun s => (upd (upd (upd E0 5 (sI (s.2))) 3 (sI (s.1))) 0 (sP x0))) (fun s => V0) (x3, x5) h (fun s => (Ru 0 (Ru 3 (Ru 5 Rn)))) (Sc rfl (Sc rfl (Sc rfl Sn))) Sn ?_
    intro I4 s hp h
    obtain ⟨x3, x5⟩ := s
    replace h : F57_l4 x0  K I4 x3 x5 hp := h
    unfold F57_l4 at h
    refine AWP.seq' ?_
    refine AWP.seq' ?_
    refine AWP.rgn (F57_r3 (upd E0 3 (sI x3)) x0 x5 hp _) ?_ (Ru 0 (Ru 5 (Ru 3 Rn))) (Sc rfl (Sc rfl (Sc rfl Sn))) Sn
    refine mN h fun b_1 o_2 h => mV h fun v_3 h => mS h fun a_4 n_5 c_6 h => ?_
    refine AWP.cond (t := (decide (x5 < n_5))) rfl (fun e => ?_) (fun e => ?_)
    ·replace h := ite2_t h e
     refine AWP.skip ?_
     refine AWP.seq (fun env pv hp => ∃ (x3 : Int) (x5 : Int), Sub (upd (upd (upd E0 5 (sI x5)) 3 (sI x3)) 0 (sP x0)) env ∧ Sub V0 pv ∧ (F57_j5 x0 x3 x5 hp I4 K)) ?_ ?_
     ·refine AWP.block ?_
      refine AWP.seq (fun env pv hp => ∃ (x3 : Int) (x5 : Int) (x65 : Bool), Sub (upd (upd (upd (upd E0 65 (sB x65)) 5 (sI x5)) 3 (sI x3)) 0 (sP x0)) env ∧ Sub V0 pv ∧ (F57_j6 x0 x3 x5 x65 hp I4 K)) ?_ ?_
      ·refine AWP.rgnD (by kernel_rfl) (by kernel_rfl) (F57_r6 (upd E0 3 (sI x3)) x0 x5 hp _) ?_ (Ru 0 (Ru 5 (Ru 3 Rn))) (Sc rfl (Sc rfl (Sc rfl Sn))) Sn
       refine mN h (fun b_7 o_8 h => mV h (fun v_9 h => mS h (fun a_10 n_11 c_12 h => ⟨h.1, h.2.1, mN h.2.2 fun b_13 o_14 h => mV h fun v_15 h => mI h fun i_16 h => mN h fun b_17 o_18 h => mV h fun v_19 h => mI h fun i_20 h => ?_⟩)))
       refine mt h (fun h => ?_) (fun h => ?_)
       ·refine mN h (fun b_21 o_22 h => mV h (fun v_23 h => mS h (fun a_24 n_25 c_26 h => ⟨h.1, h.2.1, mN h.2.2 fun b_27 o_28 h => mV h fun v_29 h => mI h fun i_30 h => mN h fun b_31 o_32 h => mV h fun v_33 h => mI h fun i_34 h => ?_⟩)))
        exact ⟨x3, x5, (decide (i_30 ≤ i_34)), (Sc rfl (Sc rfl (Sc rfl (Sc rfl Sn)))), Sn, h⟩
       ·exact ⟨x3, x5, false, (Sc rfl (Sc rfl (Sc rfl (Sc rfl Sn)))), Sn, h⟩
      ·rintro env pv hp ⟨x3, x5, x65, he, hv, h⟩
       refine AWP.sub (env' := (upd (upd (upd (upd E0 65 (sB x65)) 5 (sI x5)) 3 (sI x3)) 0 (sP x0))) (pv' := V0) ?_ (Ru 0 (Ru 3 (Ru 5 (Ru 65 Rn)))) he hv (HSub.refl _)
       clear he hv
       unfold F57_j6 at h
       refine AWP.cond (t := x65) rfl (fun e => ?_) (fun e => ?_)
       ·replace h := ite2_t h e
        refine AWP.rgn (F57_r5 (upd (upd E0 5 (sI x5)) 0 (sP x0)) x3 hp _) ?_ (Ru 3 (Ru 0 (Ru 5 Rn))) (Sc rfl (Sc rfl (Sc rfl Sn))) Sn
        exact ⟨(wr (x3 - 1)), x5, (Sc rfl (Sc rfl (Sc rfl Sn))), Sn, h⟩
       ·replace h := ite2_f h e
        refine AWP.skip ?_
        exact ⟨x3, x5, (Sc rfl (Sc rfl (Sc rfl Sn))), Sn, h⟩
     ·rintro env pv hp ⟨x3, x5, he, hv, h⟩
      refine AWP.sub (env' := (upd (upd (upd E0 5 (sI x5)) 3 (sI x3)) 0 (sP x0))) (pv' := V0) ?_ (Ru 0 (Ru 3 (Ru 5 Rn))) he hv (HSub.refl _)
      clear he hv
      unfold F57_j5 at h
      refine AWP.rgn (F57_r4 (upd (upd E0 3 (sI x3)) 0 (sP x0)) x5 hp _) ?_ (Ru 5 (Ru 0 (Ru 3 Rn))) (Sc rfl (Sc rfl (Sc rfl Sn))) Sn
      exact ⟨(x3, (wr (x5 + 1))), (Sc rfl (Sc rfl (Sc rfl Sn))), Sn, h⟩
    ·replace h := ite2_f h e
     refine AWP.exit ?_
     exact ⟨x3, (Sc rfl Sn), Sn, h⟩
  ·rintro env pv hp ⟨x3, he, hv, h⟩
   refine AWP.sub (env' := (upd E0 3 (sI x3))) (pv' := V0) ?_ (Ru 3 Rn) he hv (HSub.refl _)
   clear he hv
   unfold F57_j2 at h
   refine AWP.seq' ?_
   refine AWP.rgn (F57_r2 E0 x3 hp _) ?_ (Ru 3 Rn) (Sc rfl Sn) Sn
   refine AWP.ret ?_
   exact h
end
-- 58 (*interpreter/interpreterref18.Pool).All
section
variable (e : Env) (x0 x3a : Option Addr) (x3n x3c : Nat) (x4 x5 x6 x7 : Int) (k8 : List Value) (hp : HP) (K : Env → PV → HP → Prop)
abbrev R58 (p : List Nat) (n : Nat) := RW Try.prog 75 [8, 35, 46, 52, 57] (opsAt Try.f58 p) (List.range n)
theorem F58_r0 : R58 [0] 1 e V0 hp K =
    (K (upd e 2 (sS none 0 0)) V0 hp) := by kernel_rfl
theorem F58_r1 : R58 [1, 0] 1 e V0 hp K =
    (K (upd e 3 (sS none 0 0)) V0 hp) := by kernel_rfl
theorem F58_r2 : R58 [1, 1, 1, 0] 2 (upd e 3 (sS x3a x3n x3c)) V0 hp K =
    (K (upd (upd (upd e 3 (sS x3a x3n x3c)) 74 (sS x3a x3n x3c)) 2 (sS x3a x3n x3c)) V0 hp) := by kernel_rfl
def F58_j1 (x3a : Option Addr) (x3n : Nat) (x3c : Nat) (hp : HP) (K : Value → HP → Prop) : Prop :=
  (K (.slice x3a x3n x3c) hp)
theorem F58_r3 : R58 [1, 1, 0, 1, 0, 0, 0, 0] 7 (upd (upd e 4 (sI x4)) 0 (sP x0)) V0 hp K =
    (ptrN x0 fun b1 o2 => (ldV (HP.cell hp b1 (o2 + 0)) fun v3 => (slcV v3 fun a4 n5 c6 => (K (upd (upd (upd (upd (upd (upd (upd (upd (upd e 4 (sI x4)) 0 (sP x0)) 9 (sI x4)) 10 (sP x0)) 11 (sQ b1 o2)) 12 (sQ b1 (o2 + 0))) 13 (sS a4 n5 c6)) 14 (sI ((n5 : Nat)))) 15 (sB ((decide (x4 < n5))))) V0 hp)))) := by kernel_rfl
theorem F58_r4 : R58 [1, 1, 0, 1, 0, 0, 1, 1] 3 (upd e 4 (sI x4)) V0 hp K =
    (K (upd (upd (upd (upd e 4 (sI x4)) 16 (sI x4)) 17 (sI ((wr (x4 + 1))))) 4 (sI ((wr (x4 + 1))))) V0 hp) := by kernel_rfl
def F58_j4 (x0 : Option Addr) (x3a : Option Addr) (x3n : Nat) (x3c : Nat) (x4 : Int) (hp : HP) (I3 : ((Option Addr) × Nat × Nat × Int) → HP → Prop) (K : Value → HP → Prop) : Prop :=
  (I3 (x3a, x3n, x3c, (IntKind.wrap .i64 (x4 + 1))) hp)
theorem F58_r5 : R58 [1, 1, 0, 1, 0, 0, 1, 0, 0, 1, 0, 0, 0, 0] 1 e V0 hp K =
    (K (upd e 6 (sI 1048576)) V0 hp) := by kernel_rfl
theorem F58_r6 : R58 [1, 1, 0, 1, 0, 0, 1, 0, 0, 1, 0, 0, 0, 1, 1, 0, 0] 2 (upd e 6 (sI x6)) V0 hp K =
    (K (upd (upd (upd e 6 (sI x6)) 59 (sI x6)) 60 (sB ((x6 == 1048576)))) V0 hp) := by kernel_rfl
theorem F58_r7 : R58 [1, 1, 0, 1, 0, 0, 1, 0, 0, 1, 0, 0, 0, 1, 1, 1, 0] 13 (upd (upd (upd (upd e 6 (sI x6)) 4 (sI x4)) 3 (sS x3a x3n x3c)) 0 (sP x0)) V0 hp K =
    (ptrN x0 fun b1 o2 => (ldV (HP.cell hp b1 (o2 + 0)) fun v3 => (slcV v3 fun a4 n5 c6 => ((0 ≤ x4) ∧ (x4 < n5) ∧ (ptrN a4 fun b7 o8 => (ldL (HP.cellN hp b7 (o8 + Int.toNat x4 * 4) 4) fun l9 => (if List.length l9 = 4 then (if List.length (List.set (splice [.int .u8 0, .int .u8 0, .int .u8 0, .int .u8 0, .int .i64 0] 0 l9) 4 (.int .i64 x6)) = 5 then (∀ b10 : Nat, hp b10 = .none → (opS Try.prog (Builtin.append_ #[79, 79] 79 ⟨[(.slice x3a x3n x3c), (.slice (some ⟨b10, 0, none⟩) 1 1)]⟩) (HP.set hp b10 (.cells 75 (splice [.int .u8 0, .int .u8 0, .int .u8 0, .int .u8 0, .int .i64 0] 0 (List.set (splice [.int .u8 0, .int .u8 0, .int .u8 0, .int .u8 0, .int .i64 0] 0 l9) 4 (.int .i64 x6))) 0)) fun u11 h12 => (slcV u11 fun a13 n14 c15 => (K (upd (upd (upd (upd (upd (upd (upd (upd (upd (upd (upd (upd (upd (upd (upd (upd (upd e 6 (sI x6)) 4 (sI x4)) 3 (sS x3a x3n x3c)) 0 (sP x0)) 61 (sS x3a x3n x3c)) 62 (sP x0)) 63 (sQ b1 o2)) 64 (sQ b1 (o2 + 0))) 65 (sS a4 n5 c6)) 66 (sI x4)) 67 (sQ b7 (o8 + Int.toNat x4 * 4))) 68 (sA l9)) 69 (sI x6)) 70 (sV (.agg ⟨(List.set (splice [.int .u8 0, .int .u8 0, .int .u8 0, .int .u8 0, .int .i64 0] 0 l9) 4 (.int .i64 x6))⟩))) 71 (sV (.slice (some ⟨b10, 0, none⟩) 1 1))) 72 (sS a13 n14 c15)) 3 (sS a13 n14 c15)) V0 h12)))) else False) else False))))))) := by kernel_rfl
theorem F58_r8 : R58 [1, 1, 0, 1, 0, 0, 1, 0, 0, 1, 0, 0, 0, 1, 1, 1, 1] 2 (upd e 6 (sI x6)) V0 hp K =
    (K (upd (upd (upd e 6 (sI x6)) 73 (sI x6)) 5 (sI x6)) V0 hp) := by kernel_rfl
def F58_j7 (x0 : Option Addr) (x3a : Option Addr) (x3n : Nat) (x3c : Nat) (x4 : Int) (x6 : Int) (hp : HP) (I3 : ((Option Addr) × Nat × Nat × Int) → HP → Prop) (I6 : ((Option Addr) × Nat × Nat × Int) → HP → Prop) (K : Value → HP → Prop) : Prop :=
  (ite2 (x6 == 1048576) (F58_j4 x0 x3a x3n x3c x4 hp I3 K) (ptrN x0 fun b_7 o_8 => (ldV (HP.cell hp b_7 (o_8 + 0)) fun v_9 => (slcV v_9 fun a_10 n_11 c_12 => ((0 ≤ x4) ∧ (x4 < n_11) ∧ (ptrN a_10 fun b_13 o_14 => (ldL (HP.cellN hp b_13 (o_14 + Int.toNat x4 * 4) 4) fun l_15 => (if List.length l_15 = 4 then (if List.length (List.set (splice [.int .u8 0, .int .u8 0, .int .u8 0, .int .u8 0, .int .i64 0] 0 l_15) 4 (.int .i64 x6)) = 5 then (∀ b_16 : Nat, hp b_16 = .none → (opS Try.prog (Builtin.append_ #[79, 79] 79 ⟨[(.slice x3a x3n x3c), (.slice (some ⟨b_16, 0, none⟩) 1 1)]⟩) (HP.set hp b_16 (.cells 75 (splice [.int .u8 0, .int .u8 0, .int .u8 0, .int .u8 0, .int .i64 0] 0 (List.set (splice [.int .u8 0, .int .u8 0, .int .u8 0, .int .u8 0, .int .i64 0] 0 l_15) 4 (.int .i64 x6))) 0)) fun u_17 h_18 => (slcV u_17 fun a_19 n_20 c_21 => (I6 (a_19, n_20, c_21, x6) h_18)))) else False) else False))))))))
theorem F58_r9 : R58 [1, 1, 0, 1, 0, 0, 1, 0, 0, 1, 0, 0, 0, 1, 0, 1, 0, 0, 0, 0] 7 (upd (upd e 7 (sI x7)) 0 (sP x0)) V0 hp K =
    (ptrN x0 fun b1 o2 => (ldV (HP.cell hp b1 (o2 + 3)) fun v3 => (slcV v3 fun a4 n5 c6 => (K (upd (upd (upd (upd (upd (upd (upd (upd (upd e 7 (sI x7)) 0 (sP x0)) 18 (sI x7)) 19 (sP x0)) 20 (sQ b1 o2)) 21 (sQ b1 (o2 + 3))) 22 (sS a4 n5 c6)) 23 (sI ((n5 : Nat)))) 24 (sB ((decide (x7 < n5))))) V0 hp)))) := by kernel_rfl
theorem F58_r10 : R58 [1, 1, 0, 1, 0, 0, 1, 0, 0, 1, 0, 0, 0, 1, 0, 1, 0, 0, 1, 1] 3 (upd e 7 (sI x7)) V0 hp K =
    (K (upd (upd (upd (upd e 7 (sI x7)) 25 (sI x7)) 26 (sI ((wr (x7 + 1))))) 7 (sI ((wr (x7 + 1))))) V0 hp) := by kernel_rfl
def F58_j10 (x0 : Option Addr) (x3a : Option Addr) (x3n : Nat) (x3c : Nat) (x4 : Int) (x5 : Int) (x6 : Int) (x7 : Int) (hp : HP) (I3 : ((Option Addr) × Nat × Nat × Int) → HP → Prop) (I6 : ((Option Addr) × Nat × Nat × Int) → HP → Prop) (I9 : (Int × Int) → HP → Prop) (K : Value → HP → Prop) : Prop :=
  (I9 (x6, (IntKind.wrap .i64 (x7 + 1))) hp)
theorem F58_r11 : R58 [1, 1, 0, 1, 0, 0, 1, 0, 0, 1, 0, 0, 0, 1, 0, 1, 0, 0, 1, 0, 0, 0] 10 (upd (upd e 7 (sI x7)) 0 (sP x0)) V0 hp K =
    (ptrN x0 fun b1 o2 => (ldV (HP.cell hp b1 (o2 + 3)) fun v3 => (slcV v3 fun a4 n5 c6 => ((0 ≤ x7) ∧ (x7 < n5) ∧ (ptrN a4 fun b7 o8 => (ldL (HP.cellN hp b7 ((o8 + Int.toNat x7 * 6) + 0) 5) fun l9 => (if List.length l9 = 5 then (if List.all l9 one = true then (if 0 + List.length l9 ≤ List.length [(Value.int .u8 0), .int .u8 0, .int .u8 0, .int .u8 0, .int .i64 0] then (K (upd (upd (upd (upd (upd (upd (upd (upd (upd (upd (upd e 7 (sI x7)) 0 (sP x0)) 27 (sP x0)) 28 (sQ b1 o2)) 29 (sQ b1 (o2 + 3))) 30 (sS a4 n5 c6)) 31 (sI x7)) 32 (sQ b7 (o8 + Int.toNat x7 * 6))) 33 (sQ b7 ((o8 + Int.toNat x7 * 6) + 0))) 34 (sA l9)) 8 (sR 8 0)) (upd (upd V0 8 (75, [.int .u8 0, .int .u8 0, .int .u8 0, .int .u8 0, .int .i64 0])) 8 (75, (splice [.int .u8 0, .int .u8 0, .int .u8 0, .int .u8 0, .int .i64 0] 0 l9))) hp) else False) else False) else False))))))) := by kernel_rfl
theorem F58_r12 : R58 [1, 1, 0, 1, 0, 0, 1, 0, 0, 1, 0, 0, 0, 1, 0, 1, 0, 0, 1, 0, 0, 1, 1, 0] 3 (upd e 8 (sR 8 0)) (upd V0 8 (75, k8)) hp K =
    (ldV (k8)[4]? fun v1 => (intV v1 .i64 fun i2 => (K (upd (upd (upd (upd e 8 (sR 8 0)) 57 (sR 8 4)) 58 (sI i2)) 6 (sI i2)) (upd V0 8 (75, k8)) hp))) := by kernel_rfl
def F58_j11 (x0 : Option Addr) (x3a : Option Addr) (x3n : Nat) (x3c : Nat) (x4 : Int) (x5 : Int) (x6 : Int) (x7 : Int) (x56 : Bool) (k8 : List Value) (hp : HP) (I3 : ((Option Addr) × Nat × Nat × Int) → HP → Prop) (I6 : ((Option Addr) × Nat × Nat × Int) → HP → Prop) (I9 : (Int × Int) → HP → Prop) (K : Value → HP → Prop) : Prop :=
  (ite2 x56 (ldV (k8)[4]? fun v_37 => (intV v_37 .i64 fun i_38 => (F58_j10 x0 x3a x3n x3c x4 x5 i_38 x7 hp I3 I6 I9 K))) (F58_j10 x0 x3a x3n x3c x4 x5 x6 x7 hp I3 I6 I9 K))
theorem F58_r13 : R58 [1, 1, 0, 1, 0, 0, 1, 0, 0, 1, 0, 0, 0, 1, 0, 1, 0, 0, 1, 0, 0, 1, 0] 22 (upd (upd (upd (upd (upd e 8 (sR 8 0)) 6 (sI x6)) 5 (sI x5)) 4 (sI x4)) 0 (sP x0)) (upd V0 8 (75, k8)) hp K =
    (ldL (cellsN k8 0 4) fun l1 => (ptrN x0 fun b2 o3 => (ldV (HP.cell hp b2 (o3 + 0)) fun v4 => (slcV v4 fun a5 n6 c7 => ((0 ≤ x4) ∧ (x4 < n6) ∧ (ptrN a5 fun b8 o9 => (ldL (HP.cellN hp b8 (o9 + Int.toNat x4 * 4) 4) fun l10 => (eqAgg Try.prog 73 l1 l10 fun q11 => (ite2 q11 (ldV (k8)[4]? fun v12 => (intV v12 .i64 fun i13 => (ite2 (decide (i13 > x5)) (ldV (k8)[4]? fun v14 => (intV v14 .i64 fun i15 => (K (upd (upd (upd (upd (upd (upd (upd (upd (upd (upd (upd (upd (upd (upd (upd (upd (upd (upd (upd (upd (upd (upd (upd (upd (upd (upd (upd e 8 (sR 8 0)) 6 (sI x6)) 5 (sI x5)) 4 (sI x4)) 0 (sP x0)) 35 (sR 8 0)) 36 (sA l1)) 37 (sP x0)) 38 (sQ b2 o3)) 39 (sQ b2 (o3 + 0))) 40 (sS a5 n6 c7)) 41 (sI x4)) 42 (sQ b8 (o9 + Int.toNat x4 * 4))) 43 (sA l10)) 44 (sB q11)) 45 (sB true)) 46 (sR 8 4)) 47 (sI i13)) 48 (sI x5)) 49 (sB (decide (i13 > x5)))) 50 (sB (decide (i13 > x5)))) 51 (sB true)) 52 (sR 8 4)) 53 (sI i15)) 54 (sI x6)) 55 (sB (decide (i15 < x6)))) 56 (sB (decide (i15 < x6)))) (upd V0 8 (75, k8)) hp))) (K (upd (upd (upd (upd (upd (upd (upd (upd (upd (upd (upd (upd (upd (upd (upd (upd (upd (upd (upd (upd (upd (upd (upd (upd (upd (upd (upd e 8 (sR 8 0)) 6 (sI x6)) 5 (sI x5)) 4 (sI x4)) 0 (sP x0)) 35 (sR 8 0)) 36 (sA l1)) 37 (sP x0)) 38 (sQ b2 o3)) 39 (sQ b2 (o3 + 0))) 40 (sS a5 n6 c7)) 41 (sI x4)) 42 (sQ b8 (o9 + Int.toNat x4 * 4))) 43 (sA l10)) 44 (sB q11)) 45 (sB true)) 46 (sR 8 4)) 47 (sI i13)) 48 (sI x5)) 49 (sB (decide (i13 > x5)))) 50 (sB (decide (i13 > x5)))) 51 (sB false)) 52 sU) 53 sU) 54 sU) 55 sU) 56 (sB false)) (upd V0 8 (75, k8)) hp)))) (K (upd (upd (upd (upd (upd (upd (upd (upd (upd (upd (upd (upd (upd (upd (upd (upd (upd (upd (upd (upd (upd (upd (upd (upd (upd (upd (upd e 8 (sR 8 0)) 6 (sI x6)) 5 (sI x5)) 4 (sI x4)) 0 (sP x0)) 35 (sR 8 0)) 36 (sA l1)) 37 (sP x0)) 38 (sQ b2 o3)) 39 (sQ b2 (o3 + 0))) 40 (sS a5 n6 c7)) 41 (sI x4)) 42 (sQ b8 (o9 + Int.toNat x4 * 4))) 43 (sA l10)) 44 (sB q11)) 45 (sB false)) 46 sU) 47 sU) 48 sU) 49 sU) 50 (sB false)) 51 (sB false)) 52 sU) 53 sU) 54 sU) 55 sU) 56 (sB false)) (upd V0 8 (75, k8)) hp)))))))))) := by kernel_rfl
def F58_l9 (x0 : Option Addr) (x3a : Option Addr) (x3n : Nat) (x3c : Nat) (x4 : Int) (x5 : Int) (I3 : ((Option Addr) × Nat × Nat × Int) → HP → Prop) (I6 : ((Option Addr) × Nat × Nat × Int) → HP → Prop) (K : Value → HP → Prop) (I9 : (Int × Int) → HP → Prop) (x6 : Int) (x7 : Int) (hp : HP) : Prop :=
  (ptrN x0 fun b_22 o_23 => (ldV (HP.cell hp b_22 (o_23 + 3)) fun v_24 => (slcV v_24 fun a_25 n_26 c_27 => (ite2 (decide (x7 < n_26)) (ptrN x0 fun b_28 o_29 => (ldV (HP.cell hp b_28 (o_29 + 3)) fun v_30 => (slcV v_30 fun a_31 n_32 c_33 => ((0 ≤ x7) ∧ (x7 < n_32) ∧ (ptrN a_31 fun b_34 o_35 => (ldL (HP.cellN hp b_34 ((o_35 + Int.toNat x7 * 6) + 0) 5) fun l_36 => (if List.length l_36 = 5 then (if List.all l_36 one = true then (if 0 + List.length l_36 ≤ List.length [(Value.int .u8 0), .int .u8 0, .int .u8 0, .int .u8 0, .int .i64 0] then (ldL (cellsN (splice [.int .u8 0, .int .u8 0, .int .u8 0, .int .u8 0, .int .i64 0] 0 l_36) 0 4) fun l_39 => (ptrN x0 fun b_40 o_41 => (ldV (HP.cell hp b_40 (o_41 + 0)) fun v_42 => (slcV v_42 fun a_43 n_44 c_45 => ((0 ≤ x4) ∧ (x4 < n_44) ∧ (ptrN a_43 fun b_46 o_47 => (ldL (HP.cellN hp b_46 (o_47 + Int.toNat x4 * 4) 4) fun l_48 => (eqAgg Try.prog 73 l_39 l_48 fun q_49 => (ite2 q_49 (ldV ((splice [.int .u8 0, .int .u8 0, .int .u8 0, .int .u8 0, .int .i64 0] 0 l_36))[4]? fun v_50 => (intV v_50 .i64 fun i_51 => (ite2 (decide (i_51 > x5)) (ldV ((splice [.int .u8 0, .int .u8 0, .int .u8 0, .int .u8 0, .int .i64 0] 0 l_36))[4]? fun v_52 => (intV v_52 .i64 fun i_53 => (F58_j11 x0 x3a x3n x3c x4 x5 x6 x7 (decide (i_53 < x6)) (splice [.int .u8 0, .int .u8 0, .int .u8 0, .int .u8 0, .int .i64 0] 0 l_36) hp I3 I6 I9 K))) (F58_j11 x0 x3a x3n x3c x4 x5 x6 x7 false (splice [.int .u8 0, .int .u8 0, .int .u8 0, .int .u8 0, .int .i64 0] 0 l_36) hp I3 I6 I9 K)))) (F58_j11 x0 x3a x3n x3c x4 x5 x6 x7 false (splice [.int .u8 0, .int .u8 0, .int .u8 0, .int .u8 0, .int .i64 0] 0 l_36) hp I3 I6 I9 K)))))))))) else False) else False) else False))))))) (F58_j7 x0 x3a x3n x3c x4 x6 hp I3 I6 K)))))
def F58_j8 (x0 : Option Addr) (x3a : Option Addr) (x3n : Nat) (x3c : Nat) (x4 : Int) (x5 : Int) (x6 : Int) (x7 : Int) (hp : HP) (I3 : ((Option Addr) × Nat × Nat × Int) → HP → Prop) (I6 : ((Option Addr) × Nat × Nat × Int) → HP → Prop) (K : Value → HP → Prop) : Prop :=
  (LoopP (σ := Int × Int) (fun I s hp => F58_l9 x0 x3a x3n x3c x4 x5 I3 I6 K I s.1 s.2 hp) (x6, x7) hp)
theorem F58_r14 : R58 [1, 1, 0, 1, 0, 0, 1, 0, 0, 1, 0, 0, 0, 1, 0, 0] 1 e V0 hp K =
    (K (upd e 7 (sI 0)) V0 hp) := by kernel_rfl
def F58_l6 (x0 : Option Addr) (x4 : Int) (I3 : ((Option Addr) × Nat × Nat × Int) → HP → Prop) (K : Value → HP → Prop) (I6 : ((Option Addr) × Nat × Nat × Int) → HP → Prop) (x3a : Option Addr) (x3n : Nat) (x3c : Nat) (x5 : Int) (hp : HP) : Prop :=
  (F58_j8 x0 x3a x3n x3c x4 x5 1048576 0 hp I3 I6 K)
def F58_j5 (x0 : Option Addr) (x3a : Option Addr) (x3n : Nat) (x3c : Nat) (x4 : Int) (x5 : Int) (hp : HP) (I3 : ((Option Addr) × Nat × Nat × Int) → HP → Prop) (K : Value → HP → Prop) : Prop :=
  (LoopP (σ := (Option Addr) × Nat × Nat × Int) (fun I s hp => F58_l6 x0 x4 I3 K I s.1 s.2.1 s.2.2.1 s.2.2.2 hp) (x3a, x3n, x3c, x5) hp)
theorem F58_r15 : R58 [1, 1, 0, 1, 0, 0, 1, 0, 0, 0] 1 e V0 hp K =
    (K (upd e 5 (sI ((-1)))) V0 hp) := by kernel_rfl
def F58_l3 (x0 : Option Addr) (K : Value → HP → Prop) (I3 : ((Option Addr) × Nat × Nat × Int) → HP → Prop) (x3a : Option Addr) (x3n : Nat) (x3c : Nat) (x4 : Int) (hp : HP) : Prop :=
  (ptrN x0 fun b_1 o_2 => (ldV (HP.cell hp b_1 (o_2 + 0)) fun v_3 => (slcV v_3 fun a_4 n_5 c_6 => (ite2 (decide (x4 < n_5)) (F58_j5 x0 x3a x3n x3c x4 (-1) hp I3 K) (F58_j1 x3a x3n x3c hp  K)))))
def F58_j2 (x0 : Option Addr) (x3a : Option Addr) (x3n : Nat) (x3c : Nat) (x4 : Int) (hp : HP) (K : Value → HP → Prop) : Prop :=
  (LoopP (σ := (Option Addr) × Nat × Nat × Int) (fun I s hp => F58_l3 x0  K I s.1 s.2.1 s.2.2.1 s.2.2.2 hp) (x3a, x3n, x3c, x4) hp)
theorem F58_r16 : R58 [1, 1, 0, 0] 1 e V0 hp K =
    (K (upd e 4 (sI 0)) V0 hp) := by kernel_rfl
def F58 (x0 : Option Addr) (hp : HP) (K : Value → HP → Prop) : Prop :=
  (F58_j2 x0 none 0 0 0 hp  K)
noncomputable def F58_code : Code := (.seq (.region 0 (opsAt Try.f58 [0]) false) (.seq (.region 1 (opsAt Try.f58 [1, 0]) false) (.seq (.seq (.region 2 (opsAt Try.f58 [1, 1, 0, 0]) false) (.block 0 (.loop (.seq (.seq (.region 3 (opsAt Try.f58 [1, 1, 0, 1, 0, 0, 0, 0]) false) (.cond (.tmp 15) .skip (.exit 0))) (.seq (.block 1 (.seq (.region 5 (opsAt Try.f58 [1, 1, 0, 1, 0, 0, 1, 0, 0, 0]) false) (.block 2 (.loop (.block 3 (.seq (.region 6 (opsAt Try.f58 [1, 1, 0, 1, 0, 0, 1, 0, 0, 1, 0, 0, 0, 0]) false) (.seq (.seq (.region 7 (opsAt Try.f58 [1, 1, 0, 1, 0, 0, 1, 0, 0, 1, 0, 0, 0, 1, 0, 0]) false) (.block 4 (.loop (.seq (.seq (.region 8 (opsAt Try.f58 [1, 1, 0, 1, 0, 0, 1, 0, 0, 1, 0, 0, 0, 1, 0, 1, 0, 0, 0, 0]) false) (.cond (.tmp 24) .skip (.exit 4))) (.seq (.block 5 (.seq (.region 10 (opsAt Try.f58 [1, 1, 0, 1, 0, 0, 1, 0, 0, 1, 0, 0, 0, 1, 0, 1, 0, 0, 1, 0, 0, 0]) false) (.seq (.region 11 (opsAt Try.f58 [1, 1, 0, 1, 0, 0, 1, 0, 0, 1, 0, 0, 0, 1, 0, 1, 0, 0, 1, 0, 0, 1, 0]) true) (.cond (.tmp 56) (.region 12 (opsAt Try.f58 [1, 1, 0, 1, 0, 0, 1, 0, 0, 1, 0, 0, 0, 1, 0, 1, 0, 0, 1, 0, 0, 1, 1, 0]) false) .skip)))) (.region 9 (opsAt Try.f58 [1, 1, 0, 1, 0, 0, 1, 0, 0, 1, 0, 0, 0, 1, 0, 1, 0, 0, 1, 1]) false)))))) (.seq (.seq (.region 13 (opsAt Try.f58 [1, 1, 0, 1, 0, 0, 1, 0, 0, 1, 0, 0, 0, 1, 1, 0, 0]) false) (.cond (.tmp 60) (.exit 2) .skip)) (.seq (.region 14 (opsAt Try.f58 [1, 1, 0, 1, 0, 0, 1, 0, 0, 1, 0, 0, 0, 1, 1, 1, 0]) false) (.region 15 (opsAt Try.f58 [1, 1, 0, 1, 0, 0, 1, 0, 0, 1, 0, 0, 0, 1, 1, 1, 1]) false)))))))))) (.region 4 (opsAt Try.f58 [1, 1, 0, 1, 0, 0, 1, 1]) false)))))) (.seq (.region 16 (opsAt Try.f58 [1, 1, 1, 0]) false) .ret))))
theorem F58_body : Try.f58.body = some F58_code := by kernel_rfl
theorem F58_ok (x0 : Option Addr) (hp : HP) (K : Value → HP → Prop) (h : F58 x0 hp K) : CF Try.prog 58 [(.pointer x0)] hp K := by
 refine .inl ⟨by kernel_rfl, AC.intro (N := 75) Try.func58 F58_body rfl (Nat.le_of_ble_eq_true rfl) ?_⟩
 unfold F58 at h
 unfold F58_code
 refine AWP.seq' ?_
 refine AWP.rgn (F58_r0 (upd E0 0 (sP x0))  hp _) ?_ (Ru 0 Rn) (Sc rfl Sn) Sn
 refine AWP.seq' ?_
 refine AWP.rgn (F58_r1 (upd E0 0 (sP x0))  hp _) ?_ (Ru 0 Rn) (Sc rfl Sn) Sn
 refine AWP.seq (fun env pv hp => ∃ (x3a : Option Addr) (x3n : Nat) (x3c : Nat), Sub (upd E0 3 (sS x3a x3n x3c)) env ∧ Sub V0 pv ∧ (F58_j1 x3a x3n x3c hp  K)) ?_ ?_
 ·refine AWP.seq (fun env pv hp => ∃ (x0 : Option Addr) (x3a : Option Addr) (x3n : Nat) (x3c : Nat) (x4 : Int), Sub (upd (upd (upd E0 4 (sI x4)) 3 (sS x3a x3n x3c)) 0 (sP x0)) env ∧ Sub V0 pv ∧ (F58_j2 x0 x3a x3n x3c x4 hp  K)) ?_ ?_
  ·refine AWP.rgn (F58_r16 (upd (upd E0 3 (sS none 0 0)) 0 (sP x0))  hp _) ?_ (Ru 0 (Ru 3 Rn)) (Sc rfl (Sc rfl Sn)) Sn
   exact ⟨x0, none, 0, 0, 0, (Sc rfl (Sc rfl (Sc rfl Sn))), Sn, h⟩
  ·rintro env pv hp ⟨x0, x3a, x3n, x3c, x4, he, hv, h⟩
   refine AWP.sub (env' := (upd (upd (upd E0 4 (sI x4)) 3 (sS x3a x3n x3c)) 0 (sP x0))) (pv' := V0) ?_ (Ru 0 (Ru 3 (Ru 4 Rn))) he hv (HSub.refl _)
   clear he hv
   unfold F58_j2 at h
   refine AWP.block ?_
   refine AWP.loop (σ := (Option Addr) × Nat × Nat × Int) (fun I s hp => F58_l3 x0  K I s.1 s.2.1 s.2.2.1 s.2.2.2 hp) (fun s => (upd (upd (upd E0 4 (sI (s.2.2.2))) 3 (sV (.slice s.1 s.2.1 s.2.2.1))) 0 (sP x0))) (fun s => V0) (x3a, x3n, x3c, x4) h (fun s => (Ru 0 (Ru 3 (Ru 4 Rn)))) (Sc rfl (Sc rfl (Sc rfl Sn))) Sn ?_
   intro I3 s hp h
   obtain ⟨x3a, x3n, x3c, x4⟩ := s
   replace h : F58_l3 x0  K I3 x3a x3n x3c x4 hp := h
   unfold F58_l3 at h
   refine AWP.seq' ?_
   refine AWP.seq' ?_
   refine AWP.rgn (F58_r3 (upd E0 3 (sS x3a x3n x3c)) x0 x4 hp _) ?_ (Ru 0 (Ru 4 (Ru 3 Rn))) (Sc rfl (Sc rfl (Sc rfl Sn))) Sn
   refine mN h fun b_1 o_2 h => mV h fun v_3 h => mS h fun a_4 n_5 c_6 h => ?_
   refine AWP.cond (t := (decide (x4 < n_5))) rfl (fun e => ?_) (fun e => ?_)
   ·replace h := ite2_t h e
    refine AWP.skip ?_
    refine AWP.seq (fun env pv hp => ∃ (x3a : Option Addr) (x3n : Nat) (x3c : Nat) (x4 : Int), Sub (upd (upd (upd E0 4 (sI x4)) 3 (sS x3a x3n x3c)) 0 (sP x0)) env ∧ Sub V0 pv ∧ (F58_j4 x0 x3a x3n x3c x4 hp I3 K)) ?_ ?_
    ·refine AWP.block ?_
     refine AWP.seq (fun env pv hp => ∃ (x3a : Option Addr) (x3n : Nat) (x3c : Nat) (x4 : Int) (x5 : Int), Sub (upd (upd (upd (upd E0 5 (sI x5)) 4 (sI x4)) 3 (sS x3a x3n x3c)) 0 (sP x0)) env ∧ Sub V0 pv ∧ (F58_j5 x0 x3a x3n x3c x4 x5 hp I3 K)) ?_ ?_
     ·refine AWP.rgn (F58_r15 (upd (upd (upd E0 4 (sI x4)) 3 (sS x3a x3n x3c)) 0 (sP x0))  hp _) ?_ (Ru 0 (Ru 3 (Ru 4 Rn))) (Sc rfl (Sc rfl (Sc rfl Sn))) Sn
      exact ⟨x3a, x3n, x3c, x4, (-1), (Sc rfl (Sc rfl (Sc rfl (Sc rfl Sn)))), Sn, h⟩
     ·rintro env pv hp ⟨x3a, x3n, x3c, x4, x5, he, hv, h⟩
      refine AWP.sub (env' := (upd (upd (upd (upd E0 5 (sI x5)) 4 (sI x4)) 3 (sS x3a x3n x3c)) 0 (sP x0))) (pv' := V0) ?_ (Ru 0 (Ru 3 (Ru 4 (Ru 5 Rn)))) he hv (HSub.refl _)
      clear he hv
      unfold F58_j5 at h
      refine AWP.block ?_
      refine AWP.loop (σ := (Option Addr) × Nat × Nat × Int) (fun I s hp => F58_l6 x0 x4 I3 K I s.1 s.2.1 s.2.2.1 s.2.2.2 hp) (fun s => (upd (upd (upd (upd E0 5 (sI (s.2.2.2))) 4 (sI x4)) 3 (sV (.slice s.1 s.2.1 s.2.2.1))) 0 (sP x0))) (fun s => V0) (x3a, x3n, x3c, x5) h (fun s => (Ru 0 (Ru 3 (Ru 4 (Ru 5 Rn))))) (Sc rfl (Sc rfl (Sc rfl (Sc rfl Sn)))) Sn ?_
      intro I6 s hp h
      obtain ⟨x3a, x3n, x3c, x5⟩ := s
      replace h : F58_l6 x0 x4 I3 K I6 x3a x3n x3c x5 hp := h
      unfold F58_l6 at h
      refine AWP.block ?_
      refine AWP.seq' ?_
      refine AWP.rgn (F58_r5 (upd (upd (upd (upd E0 5 (sI x5)) 4 (sI x4)) 3 (sS x3a x3n x3c)) 0 (sP x0))  hp _) ?_ (Ru 0 (Ru 3 (Ru 4 (Ru 5 Rn)))) (Sc rfl (Sc rfl (Sc rfl (Sc rfl Sn)))) Sn
      refine AWP.seq (fun env pv hp => ∃ (x3a : Option Addr) (x3n : Nat) (x3c : Nat) (x6 : Int), Sub (upd (upd (upd (upd E0 6 (sI x6)) 4 (sI x4)) 3 (sS x3a x3n x3c)) 0 (sP x0)) env ∧ Sub V0 pv ∧ (F58_j7 x0 x3a x3n x3c x4 x6 hp I3 I6 K)) ?_ ?_
      ·refine AWP.seq (fun env pv hp => ∃ (x3a : Option Addr) (x3n : Nat) (x3c : Nat) (x5 : Int) (x6 : Int) (x7 : Int), Sub (upd (upd (upd (upd (upd (upd E0 7 (sI x7)) 6 (sI x6)) 5 (sI x5)) 4 (sI x4)) 3 (sS x3a x3n x3c)) 0 (sP x0)) env ∧ Sub V0 pv ∧ (F58_j8 x0 x3a x3n x3c x4 x5 x6 x7 hp I3 I6 K)) ?_ ?_
       ·refine AWP.rgn (F58_r14 (upd (upd (upd (upd (upd E0 6 (sI 1048576)) 5 (sI x5)) 4 (sI x4)) 3 (sS x3a x3n x3c)) 0 (sP x0))  hp _) ?_ (Ru 0 (Ru 3 (Ru 4 (Ru 5 (Ru 6 Rn))))) (Sc rfl (Sc rfl (Sc rfl (Sc rfl (Sc rfl Sn))))) Sn
        exact ⟨x3a, x3n, x3c, x5, 1048576, 0, (Sc rfl (Sc rfl (Sc rfl (Sc rfl (Sc rfl (Sc rfl Sn)))))), Sn, h⟩
       ·rintro env pv hp ⟨x3a, x3n, x3c, x5, x6, x7, he, hv, h⟩
        refine AWP.sub (env' := (upd (upd (upd (upd (upd (upd E0 7 (sI x7)) 6 (sI x6)) 5 (sI x5)) 4 (sI x4)) 3 (sS x3a x3n x3c)) 0 (sP x0))) (pv' := V0) ?_ (Ru 0 (Ru 3 (Ru 4 (Ru 5 (Ru 6 (Ru 7 Rn)))))) he hv (HSub.refl _)
        clear he hv
        unfold F58_j8 at h
        refine AWP.block ?_
        refine AWP.loop (σ := Int × Int) (fun I s hp => F58_l9 x0 x3a x3n x3c x4 x5 I3 I6 K I s.1 s.2 hp) (fun s => (upd (upd (upd (upd (upd (upd E0 7 (sI (s.2))) 6 (sI (s.1))) 5 (sI x5)) 4 (sI x4)) 3 (sS x3a x3n x3c)) 0 (sP x0))) (fun s => V0) (x6, x7) h (fun s => (Ru 0 (Ru 3 (Ru 4 (Ru 5 (Ru 6 (Ru 7 Rn))))))) (Sc rfl (Sc rfl (Sc rfl (Sc rfl (Sc rfl (Sc rfl Sn)))))) Sn ?_
        intro I9 s hp h
        obtain ⟨x6, x7⟩ := s
        replace h : F58_l9 x0 x3a x3n x3c x4 x5 I3 I6 K I9 x6 x7 hp := h
        unfold F58_l9 at h
        refine AWP.seq' ?_
        refine AWP.seq' ?_
        refine AWP.rgn (F58_r9 (upd (upd (upd (upd E0 6 (sI x6)) 5 (sI x5)) 4 (sI x4)) 3 (sS x3a x3n x3c)) x0 x7 hp _) ?_ (Ru 0 (Ru 7 (Ru 3 (Ru 4 (Ru 5 (Ru 6 Rn)))))) (Sc rfl (Sc rfl (Sc rfl (Sc rfl (Sc rfl (Sc rfl Sn)))))) Sn
        refine mN h fun b_22 o_23 h => mV h fun v_24 h => mS h fun a_25 n_26 c_27 h => ?_
        refine AWP.cond (t := (decide (x7 < n_26))) rfl (fun e => ?_) (fun e => ?_)
        ·replace h := ite2_t h e
         refine AWP.skip ?_
         refine AWP.seq (fun env pv hp => ∃ (x6 : Int) (x7 : Int), Sub (upd (upd (upd (upd (upd (upd E0 7 (sI x7)) 6 (sI x6)) 5 (sI x5)) 4 (sI x4)) 3 (sS x3a x3n x3c)) 0 (sP x0)) env ∧ Sub V0 pv ∧ (F58_j10 x0 x3a x3n x3c x4 x5 x6 x7 hp I3 I6 I9 K)) ?_ ?_
         ·refine AWP.block ?_
          refine AWP.seq' ?_
          refine AWP.rgn (F58_r11 (upd (upd (upd (upd E0 6 (sI x6)) 5 (sI x5)) 4 (sI x4)) 3 (sS x3a x3n x3c)) x0 x7 hp _) ?_ (Ru 0 (Ru 7 (Ru 3 (Ru 4 (Ru 5 (Ru 6 Rn)))))) (Sc rfl (Sc rfl (Sc rfl (Sc rfl (Sc rfl (Sc rfl Sn)))))) Sn
          refine mN h (fun b_28 o_29 h => mV h (fun v_30 h => mS h (fun a_31 n_32 c_33 h => ⟨h.1, h.2.1, mN h.2.2 fun b_34 o_35 h => mL h fun l_36 h => mf h fun h => mf h fun h => mf h fun h => ?_⟩)))
          refine AWP.seq (fun env pv hp => ∃ (x6 : Int) (x7 : Int) (x56 : Bool) (k8 : List Value), Sub (upd (upd (upd (upd (upd (upd (upd (upd E0 56 (sB x56)) 8 (sR 8 0)) 7 (sI x7)) 6 (sI x6)) 5 (sI x5)) 4 (sI x4)) 3 (sS x3a x3n x3c)) 0 (sP x0)) env ∧ Sub (upd V0 8 (75, k8)) pv ∧ (F58_j11 x0 x3a x3n x3c x4 x5 x6 x7 x56 k8 hp I3 I6 I9 K)) ?_ ?_
          ·refine AWP.rgnD (by kernel_rfl) (by kernel_rfl) (F58_r13 (upd (upd E0 7 (sI x7)) 3 (sS x3a x3n x3c)) x0 x4 x5 x6 (splice [.int .u8 0, .int .u8 0, .int .u8 0, .int .u8 0, .int .i64 0] 0 l_36) hp _) ?_ (Ru 0 (Ru 4 (Ru 5 (Ru 6 (RefOk.p 8 8 0 (Ru 3 (Ru 7 Rn)) (fun e => by cases e)))))) (Sc rfl (Sc rfl (Sc rfl (Sc rfl (Sc rfl (Sc rfl (Sc rfl Sn))))))) (Sc rfl Sn)
           refine mL h (fun l_39 h => mN h (fun b_40 o_41 h => mV h (fun v_42 h => mS h (fun a_43 n_44 c_45 h => ⟨h.1, h.2.1, mN h.2.2 fun b_46 o_47 h => mL h fun l_48 h => mE h fun q_49 h => ?_⟩))))
           refine mt h (fun h => ?_) (fun h => ?_)
           ·refine mV h fun v_50 h => mI h fun i_51 h => ?_
            refine mt h (fun h => ?_) (fun h => ?_)
            ·refine mV h fun v_52 h => mI h fun i_53 h => ?_
             exact ⟨x6, x7, (decide (i_53 < x6)), (splice [.int .u8 0, .int .u8 0, .int .u8 0, .int .u8 0, .int .i64 0] 0 l_36), (Sc rfl (Sc rfl (Sc rfl (Sc rfl (Sc rfl (Sc rfl (Sc rfl (Sc rfl Sn)))))))), (Sc rfl Sn), h⟩
            ·exact ⟨x6, x7, false, (splice [.int .u8 0, .int .u8 0, .int .u8 0, .int .u8 0, .int .i64 0] 0 l_36), (Sc rfl (Sc rfl (Sc rfl (Sc rfl (Sc rfl (Sc rfl (Sc rfl (Sc rfl Sn)))))))), (Sc rfl Sn), h⟩
           ·exact ⟨x6, x7, false, (splice [.int .u8 0, .int .u8 0, .int .u8 0, .int .u8 0, .int .i64 0] 0 l_36), (Sc rfl (Sc rfl (Sc rfl (Sc rfl (Sc rfl (Sc rfl (Sc rfl (Sc rfl Sn)))))))), (Sc rfl Sn), h⟩
          ·rintro env pv hp ⟨x6, x7, x56, k8, he, hv, h⟩
           refine AWP.sub (env' := (upd (upd (upd (upd (upd (upd (upd (upd E0 56 (sB x56)) 8 (sR 8 0)) 7 (sI x7)) 6 (sI x6)) 5 (sI x5)) 4 (sI x4)) 3 (sS x3a x3n x3c)) 0 (sP x0))) (pv' := (upd V0 8 (75, k8))) ?_ (Ru 0 (Ru 3 (Ru 4 (Ru 5 (Ru 6 (Ru 7 (RefOk.p 8 8 0 (Ru 56 Rn) (fun e => by cases e)))))))) he hv (HSub.refl _)
           clear he hv
           unfold F58_j11 at h
           refine AWP.cond (t := x56) rfl (fun e => ?_) (fun e => ?_)
           ·replace h := ite2_t h e
            refine AWP.rgn (F58_r12 (upd (upd (upd (upd (upd E0 7 (sI x7)) 5 (sI x5)) 4 (sI x4)) 3 (sS x3a x3n x3c)) 0 (sP x0)) k8 hp _) ?_ (RefOk.p 8 8 0 (Ru 0 (Ru 3 (Ru 4 (Ru 5 (Ru 7 Rn))))) (fun e => by cases e)) (Sc rfl (Sc rfl (Sc rfl (Sc rfl (Sc rfl (Sc rfl Sn)))))) (Sc rfl Sn)
            refine mV h fun v_37 h => mI h fun i_38 h => ?_
            exact ⟨i_38, x7, (Sc rfl (Sc rfl (Sc rfl (Sc rfl (Sc rfl (Sc rfl Sn)))))), Sn, h⟩
           ·replace h := ite2_f h e
            refine AWP.skip ?_
            exact ⟨x6, x7, (Sc rfl (Sc rfl (Sc rfl (Sc rfl (Sc rfl (Sc rfl Sn)))))), Sn, h⟩
         ·rintro env pv hp ⟨x6, x7, he, hv, h⟩
          refine AWP.sub (env' := (upd (upd (upd (upd (upd (upd E0 7 (sI x7)) 6 (sI x6)) 5 (sI x5)) 4 (sI x4)) 3 (sS x3a x3n x3c)) 0 (sP x0))) (pv' := V0) ?_ (Ru 0 (Ru 3 (Ru 4 (Ru 5 (Ru 6 (Ru 7 Rn)))))) he hv (HSub.refl _)
          clear he hv
          unfold F58_j10 at h
          refine AWP.rgn (F58_r10 (upd (upd (upd (upd (upd E0 6 (sI x6)) 5 (sI x5)) 4 (sI x4)) 3 (sS x3a x3n x3c)) 0 (sP x0)) x7 hp _) ?_ (Ru 7 (Ru 0 (Ru 3 (Ru 4 (Ru 5 (Ru 6 Rn)))))) (Sc rfl (Sc rfl (Sc rfl (Sc rfl (Sc rfl (Sc rfl Sn)))))) Sn
          exact ⟨(x6, (wr (x7 + 1))), (Sc rfl (Sc rfl (Sc rfl (Sc rfl (Sc rfl (Sc rfl Sn)))))), Sn, h⟩
        ·replace h := ite2_f h e
         refine AWP.exit ?_
         exact ⟨x3a, x3n, x3c, x6, (Sc rfl (Sc rfl (Sc rfl (Sc rfl Sn)))), Sn, h⟩
      ·rintro env pv hp ⟨x3a, x3n, x3c, x6, he, hv, h⟩
       refine AWP.sub (env' := (upd (upd (upd (upd E0 6 (sI x6)) 4 (sI x4)) 3 (sS x3a x3n x3c)) 0 (sP x0))) (pv' := V0) ?_ (Ru 0 (Ru 3 (Ru 4 (Ru 6 Rn)))) he hv (HSub.refl _)
       clear he hv
       unfold F58_j7 at h
       refine AWP.seq' ?_
       refine AWP.seq' ?_
       refine AWP.rgn (F58_r6 (upd (upd (upd E0 4 (sI x4)) 3 (sS x3a x3n x3c)) 0 (sP x0)) x6 hp _) ?_ (Ru 6 (Ru 0 (Ru 3 (Ru 4 Rn)))) (Sc rfl (Sc rfl (Sc rfl (Sc rfl Sn)))) Sn
       refine AWP.cond (t := (x6 == 1048576)) rfl (fun e => ?_) (fun e => ?_)
       ·replace h := ite2_t h e
        refine AWP.exit ?_
        exact ⟨x3a, x3n, x3c, x4, (Sc rfl (Sc rfl (Sc rfl Sn))), Sn, h⟩
       ·replace h := ite2_f h e
        refine AWP.skip ?_
        refine AWP.seq' ?_
        refine AWP.rgn (F58_r7 E0 x0 x3a x3n x3c x4 x6 hp _) ?_ (Ru 0 (Ru 3 (Ru 4 (Ru 6 Rn)))) (Sc rfl (Sc rfl (Sc rfl (Sc rfl Sn)))) Sn
        refine mN h (fun b_7 o_8 h => mV h (fun v_9 h => mS h (fun a_10 n_11 c_12 h => ⟨h.1, h.2.1, mN h.2.2 fun b_13 o_14 h => mL h fun l_15 h => mf h fun h => mf h fun h => ?_⟩)))
        refine fun b_16 hb_b_16 => ?_
        replace h := h b_16 hb_b_16
        refine mO h fun u_17 h_18 h => mS h fun a_19 n_20 c_21 h => ?_
        refine AWP.rgn (F58_r8 (upd (upd (upd E0 4 (sI x4)) 3 (sS a_19 n_20 c_21)) 0 (sP x0)) x6 h_18 _) ?_ (Ru 6 (Ru 0 (Ru 3 (Ru 4 Rn)))) (Sc rfl (Sc rfl (Sc rfl (Sc rfl Sn)))) Sn
        exact ⟨(a_19, n_20, c_21, x6), (Sc rfl (Sc rfl (Sc rfl (Sc rfl Sn)))), Sn, h⟩
    ·rintro env pv hp ⟨x3a, x3n, x3c, x4, he, hv, h⟩
     refine AWP.sub (env' := (upd (upd (upd E0 4 (sI x4)) 3 (sS x3a x3n x3c)) 0 (sP x0))) (pv' := V0) ?_ (Ru 0 (Ru 3 (Ru 4 Rn))) he hv (HSub.refl _)
     clear he hv
     unfold F58_j4 at h
     refine AWP.rgn (F58_r4 (upd (upd E0 3 (sS x3a x3n x3c)) 0 (sP x0)) x4 hp _) ?_ (Ru 4 (Ru 0 (Ru 3 Rn))) (Sc rfl (Sc rfl (Sc rfl Sn))) Sn
     exact ⟨(x3a, x3n, x3c, (wr (x4 + 1))), (Sc rfl (Sc rfl (Sc rfl Sn))), Sn, h⟩
   ·replace h := ite2_f h e
    refine AWP.exit ?_
    exact ⟨x3a, x3n, x3c, (Sc rfl Sn), Sn, h⟩
 ·rintro env pv hp ⟨x3a, x3n, x3c, he, hv, h⟩
  refine AWP.sub (env' := (upd E0 3 (sS x3a x3n x3c))) (pv' := V0) ?_ (Ru 3 Rn) he hv (HSub.refl _)
  clear he hv
  unfold F58_j1 at h
  refine AWP.seq' ?_
  refine AWP.rgn (F58_r2 E0 x3a x3n x3c hp _) ?_ (Ru 3 Rn) (Sc rfl Sn) Sn
  refine AWP.ret ?_
  exact h
end
-- 101 (*interpreter/interpreterref18.Pool).Take
section
variable (e : Env) (x0 : Option Addr) (x1 : List Value) (x2 : Int) (x3 : Bool) (x10a : Option Addr) (x10n x10c : Nat) (x11 x12 x13 : Int) (k5 k8 k14 : List Value) (hp : HP) (K : Env → PV → HP → Prop)
abbrev R101 (p : List Nat) (n : Nat) := RW Try.prog 109 [5, 8, 14] (opsAt Try.f101 p) (List.range n)
theorem F101_r0 : R101 [0] 3 (upd e 1 (sA x1)) V0 hp K =
    (K (upd (upd (upd (upd e 1 (sA x1)) 5 (sR 5 0)) 8 (sR 8 0)) 9 (sI 0)) (upd (upd V0 5 (73, x1)) 8 (75, [.int .u8 0, .int .u8 0, .int .u8 0, .int .u8 0, .int .i64 0])) hp) := by kernel_rfl
theorem F101_r1 : R101 [1, 0, 1, 0, 0] 3 (upd e 8 (sR 8 0)) (upd V0 8 (75, k8)) hp K =
    (if List.length [(Value.int .u8 0), .int .u8 0, .int .u8 0, .int .u8 0, .int .i64 0] = 5 then (if List.all [(Value.int .u8 0), .int .u8 0, .int .u8 0, .int .u8 0, .int .i64 0] one = true then (if 0 + List.length [(Value.int .u8 0), .int .u8 0, .int .u8 0, .int .u8 0, .int .i64 0] ≤ List.length k8 then (K (upd (upd (upd e 8 (sR 8 0)) 21 (sV (.agg ⟨[.int .u8 0, .int .u8 0, .int .u8 0, .int .u8 0, .int .i64 0]⟩))) 9 (sI 1)) (upd (upd V0 8 (75, k8)) 8 (75, (splice k8 0 [.int .u8 0, .int .u8 0, .int .u8 0, .int .u8 0, .int .i64 0]))) hp) else False) else False) else False) := by kernel_rfl
theorem F101_r2 : R101 [1, 1, 0] 2 e (upd (upd V0 8 (75, k8)) 5 (73, k5)) hp K =
    (∀ b1 : Nat, hp b1 = .none → (K (upd (upd e 22 (sV (.slice (some ⟨b1, 0, none⟩) 0 0))) 10 (sV (.slice (some ⟨b1, 0, none⟩) 0 0))) (upd (upd V0 8 (75, k8)) 5 (73, k5)) (HP.set hp b1 (.cells 73 [] 0)))) := by kernel_rfl
theorem F101_r3 : R101 [1, 1, 1, 1, 1, 1, 0] 3 (upd e 8 (sR 8 0)) (upd V0 8 (75, k8)) hp K =
    (if List.length [(Value.int .u8 0), .int .u8 0, .int .u8 0, .int .u8 0, .int .i64 0] = 5 then (if List.all [(Value.int .u8 0), .int .u8 0, .int .u8 0, .int .u8 0, .int .i64 0] one = true then (if 0 + List.length [(Value.int .u8 0), .int .u8 0, .int .u8 0, .int .u8 0, .int .i64 0] ≤ List.length k8 then (K (upd (upd (upd e 8 (sR 8 0)) 108 (sV (.agg ⟨[.int .u8 0, .int .u8 0, .int .u8 0, .int .u8 0, .int .i64 0]⟩))) 9 (sI 6)) (upd (upd V0 8 (75, k8)) 8 (75, (splice k8 0 [.int .u8 0, .int .u8 0, .int .u8 0, .int .u8 0, .int .i64 0]))) hp) else False) else False) else False) := by kernel_rfl
def F101_j4 (k8 : List Value) (hp : HP) (K : Value → HP → Prop) : Prop :=
  (if List.length [(Value.int .u8 0), .int .u8 0, .int .u8 0, .int .u8 0, .int .i64 0] = 5 then (if List.all [(Value.int .u8 0), .int .u8 0, .int .u8 0, .int .u8 0, .int .i64 0] one = true then (if 0 + List.length [(Value.int .u8 0), .int .u8 0, .int .u8 0, .int .u8 0, .int .i64 0] ≤ List.length k8 then (ldL (cellsN (splice k8 0 [.int .u8 0, .int .u8 0, .int .u8 0, .int .u8 0, .int .i64 0]) 0 5) fun l_3 => (K (.tuple ⟨[(.agg ⟨l_3⟩), (.int .i64 6)]⟩) hp)) else False) else False) else False)
theorem F101_r4 : R101 [1, 1, 1, 1, 1, 0, 1, 0, 0, 0, 0] 4 (upd (upd e 12 (sI x12)) 10 (sS x10a x10n x10c)) (upd V0 8 (75, k8)) hp K =
    (K (upd (upd (upd (upd (upd (upd e 12 (sI x12)) 10 (sS x10a x10n x10c)) 58 (sI x12)) 59 (sS x10a x10n x10c)) 60 (sI ((x10n : Nat)))) 61 (sB ((decide (x12 < x10n))))) (upd V0 8 (75, k8)) hp) := by kernel_rfl
theorem F101_r5 : R101 [1, 1, 1, 1, 1, 0, 1, 0, 0, 1, 1] 3 (upd e 12 (sI x12)) (upd V0 8 (75, k8)) hp K =
    (K (upd (upd (upd (upd e 12 (sI x12)) 62 (sI x12)) 63 (sI ((wr (x12 + 1))))) 12 (sI ((wr (x12 + 1))))) (upd V0 8 (75, k8)) hp) := by kernel_rfl
def F101_j7 (x0 : Option Addr) (x2 : Int) (x3 : Bool) (x10a : Option Addr) (x10n : Nat) (x10c : Nat) (x12 : Int) (k8 : List Value) (hp : HP) (I6 : (Int × (List Value)) → HP → Prop) (K : Value → HP → Prop) : Prop :=
  (I6 ((IntKind.wrap .i64 (x12 + 1)), k8) hp)
theorem F101_r6 : R101 [1, 1, 1, 1, 1, 0, 1, 0, 0, 1, 0, 0, 1, 0, 0, 0, 0] 6 (upd (upd e 13 (sI x13)) 0 (sP x0)) (upd V0 8 (75, k8)) hp K =
    (ptrN x0 fun b1 o2 => (ldV (HP.cell hp b1 (o2 + 2)) fun v3 => (intV v3 .i64 fun i4 => (K (upd (upd (upd (upd (upd (upd (upd (upd e 13 (sI x13)) 0 (sP x0)) 68 (sI x13)) 69 (sP x0)) 70 (sQ b1 o2)) 71 (sQ b1 (o2 + 2))) 72 (sI i4)) 73 (sB (decide (x13 ≤ i4)))) (upd V0 8 (75, k8)) hp)))) := by kernel_rfl
theorem F101_r7 : R101 [1, 1, 1, 1, 1, 0, 1, 0, 0, 1, 0, 0, 1, 0, 0, 1, 0, 0, 0] 8 (upd (upd (upd e 13 (sI x13)) 12 (sI x12)) 10 (sS x10a x10n x10c)) (upd V0 8 (75, k8)) hp K =
    ((0 ≤ x12) ∧ (x12 < x10n) ∧ (ptrN x10a fun b1 o2 => (ldL (HP.cellN hp b1 (o2 + Int.toNat x12 * 4) 4) fun l3 => (if List.length l3 = 4 then (if List.length (List.set (splice [.int .u8 0, .int .u8 0, .int .u8 0, .int .u8 0, .int .i64 0] 0 l3) 4 (.int .i64 x13)) = 5 then (if List.all (List.set (splice [.int .u8 0, .int .u8 0, .int .u8 0, .int .u8 0, .int .i64 0] 0 l3) 4 (.int .i64 x13)) one = true then (if 0 + List.length (List.set (splice [.int .u8 0, .int .u8 0, .int .u8 0, .int .u8 0, .int .i64 0] 0 l3) 4 (.int .i64 x13)) ≤ List.length [(Value.int .u8 0), .int .u8 0, .int .u8 0, .int .u8 0, .int .i64 0] then (K (upd (upd (upd (upd (upd (upd (upd (upd (upd (upd e 13 (sI x13)) 12 (sI x12)) 10 (sS x10a x10n x10c)) 76 (sS x10a x10n x10c)) 77 (sI x12)) 78 (sQ b1 (o2 + Int.toNat x12 * 4))) 79 (sA l3)) 80 (sI x13)) 81 (sV (.agg ⟨(List.set (splice [.int .u8 0, .int .u8 0, .int .u8 0, .int .u8 0, .int .i64 0] 0 l3) 4 (.int .i64 x13))⟩))) 14 (sR 14 0)) (upd (upd (upd V0 8 (75, k8)) 14 (75, [.int .u8 0, .int .u8 0, .int .u8 0, .int .u8 0, .int .i64 0])) 14 (75, (splice [.int .u8 0, .int .u8 0, .int .u8 0, .int .u8 0, .int .i64 0] 0 (List.set (splice [.int .u8 0, .int .u8 0, .int .u8 0, .int .u8 0, .int .i64 0] 0 l3) 4 (.int .i64 x13))))) hp) else False) else False) else False) else False)))) := by kernel_rfl
theorem F101_r8 : R101 [1, 1, 1, 1, 1, 0, 1, 0, 0, 1, 0, 0, 1, 0, 0, 1, 0, 0, 1, 1, 0, 1, 0] 3 (upd (upd e 14 (sR 14 0)) 8 (sR 8 0)) (upd (upd V0 14 (75, k14)) 8 (75, k8)) hp K =
    (ldL (cellsN k14 0 5) fun l1 => (if List.length l1 = 5 then (if List.all l1 one = true then (if 0 + List.length l1 ≤ List.length k8 then (K (upd (upd (upd (upd e 14 (sR 14 0)) 8 (sR 8 0)) 107 (sA l1)) 9 (sI 0)) (upd (upd (upd V0 14 (75, k14)) 8 (75, k8)) 8 (75, (splice k8 0 l1))) hp) else False) else False) else False)) := by kernel_rfl
def F101_j11 (k8 : List Value) (k14 : List Value) (hp : HP) (I6 : (Int × (List Value)) → HP → Prop) (I9 : (Int × (List Value)) → HP → Prop) (K : Value → HP → Prop) : Prop :=
  (ldL (cellsN k14 0 5) fun l_11 => (if List.length l_11 = 5 then (if List.all l_11 one = true then (if 0 + List.length l_11 ≤ List.length k8 then (ldL (cellsN (splice k8 0 l_11) 0 5) fun l_12 => (K (.tuple ⟨[(.agg ⟨l_12⟩), .int .i64 0]⟩) hp)) else False) else False) else False))
theorem F101_r9 (e : Env) (x0 : Option Addr) (k8 : List Value) (k14 : List Value) (hp : HP) (K : Env → PV → HP → Prop) : RW Try.prog 109 [5, 8, 14] (opsAt Try.f101 [1, 1, 1, 1, 1, 0, 1, 0, 0, 1, 0, 0, 1, 0, 0, 1, 0, 0, 1, 1, 0, 0]) [0, 1, 2, 3, 4, 5, 6, 7, 8, 9, 10, 11, 12, 13] (upd (upd e 14 (sR 14 0)) 0 (sP x0)) (upd (upd V0 14 (75, k14)) 8 (75, k8)) hp K =
    (∀ b1 : Nat, hp b1 = .none → (ptrN x0 fun b2 o3 => (ldV (HP.cell (HP.set hp b1 (.cells 167 [] 0)) b2 (o3 + 3)) fun v4 => (slcV v4 fun a5 n6 c7 => (opS Try.prog (Builtin.append_ #[91, 91] 91 ⟨[(.slice (some ⟨b1, 0, none⟩) 0 0), (.slice a5 n6 c7)]⟩) (HP.set hp b1 (.cells 167 [] 0)) fun u8 h9 => (slcV u8 fun a10 n11 c12 => (ldL (cellsN k14 0 5) fun l13 => (if List.length l13 = 5 then (if List.length (List.set (splice [.int .u8 0, .int .u8 0, .int .u8 0, .int .u8 0, .int .i64 0, .bool false] 0 l13) 5 (.bool false)) = 6 then (∀ b14 : Nat, h9 b14 = .none → (opS Try.prog (Builtin.append_ #[91, 91] 91 ⟨[(.slice a10 n11 c12), (.slice (some ⟨b14, 0, none⟩) 1 1)]⟩) (HP.set h9 b14 (.cells 167 (splice [.int .u8 0, .int .u8 0, .int .u8 0, .int .u8 0, .int .i64 0, .bool false] 0 (List.set (splice [.int .u8 0, .int .u8 0, .int .u8 0, .int .u8 0, .int .i64 0, .bool false] 0 l13) 5 (.bool false))) 0)) fun u15 h16 => (slcV u15 fun a17 n18 c19 => (ptrN x0 fun b20 o21 => (HP.st h16 b20 (o21 + 3) (.slice a17 n18 c19) fun h22 => (K (upd (upd (upd (upd (upd (upd (upd (upd (upd (upd (upd (upd (upd (upd (upd e 14 (sR 14 0)) 0 (sP x0)) 94 (sP x0)) 95 (sV (.slice (some ⟨b1, 0, none⟩) 0 0))) 96 (sP x0)) 97 (sQ b2 o3)) 98 (sQ b2 (o3 + 3))) 99 (sS a5 n6 c7)) 100 (sS a10 n11 c12)) 101 (sA l13)) 102 (sV (.agg ⟨(List.set (splice [.int .u8 0, .int .u8 0, .int .u8 0, .int .u8 0, .int .i64 0, .bool false] 0 l13) 5 (.bool false))⟩))) 103 (sV (.slice (some ⟨b14, 0, none⟩) 1 1))) 104 (sS a17 n18 c19)) 105 (sQ b20 o21)) 106 (sQ b20 (o21 + 3))) (upd (upd V0 14 (75, k14)) 8 (75, k8)) h22)))))) else False) else False)))))))) := by kernel_rfl
theorem F101_r10 (e : Env) (x0 : Option Addr) (k8 : List Value) (k14 : List Value) (hp : HP) (K : Env → PV → HP → Prop) : RW Try.prog 109 [5, 8, 14] (opsAt Try.f101 [1, 1, 1, 1, 1, 0, 1, 0, 0, 1, 0, 0, 1, 0, 0, 1, 0, 0, 1, 1, 0, 0]) [0, 1, 2, 3, 4, 5, 7, 8, 9, 6, 10, 11, 12, 13] (upd (upd e 14 (sR 14 0)) 0 (sP x0)) (upd (upd V0 14 (75, k14)) 8 (75, k8)) hp K =
    (∀ b1 : Nat, hp b1 = .none → (ptrN x0 fun b2 o3 => (ldV (HP.cell (HP.set hp b1 (.cells 167 [] 0)) b2 (o3 + 3)) fun v4 => (slcV v4 fun a5 n6 c7 => (ldL (cellsN k14 0 5) fun l8 => (if List.length l8 = 5 then (if List.length (List.set (splice [.int .u8 0, .int .u8 0, .int .u8 0, .int .u8 0, .int .i64 0, .bool false] 0 l8) 5 (.bool false)) = 6 then (∀ b9 : Nat, (HP.set hp b1 (.cells 167 [] 0)) b9 = .none → (opS Try.prog (Builtin.append_ #[91, 91] 91 ⟨[(.slice (some ⟨b1, 0, none⟩) 0 0), (.slice a5 n6 c7)]⟩) (HP.set (HP.set hp b1 (.cells 167 [] 0)) b9 (.cells 167 (splice [.int .u8 0, .int .u8 0, .int .u8 0, .int .u8 0, .int .i64 0, .bool false] 0 (List.set (splice [.int .u8 0, .int .u8 0, .int .u8 0, .int .u8 0, .int .i64 0, .bool false] 0 l8) 5 (.bool false))) 0)) fun u10 h11 => (slcV u10 fun a12 n13 c14 => (opS Try.prog (Builtin.append_ #[91, 91] 91 ⟨[(.slice a12 n13 c14), (.slice (some ⟨b9, 0, none⟩) 1 1)]⟩) h11 fun u15 h16 => (slcV u15 fun a17 n18 c19 => (ptrN x0 fun b20 o21 => (HP.st h16 b20 (o21 + 3) (.slice a17 n18 c19) fun h22 => (K (upd (upd (upd (upd (upd (upd (upd (upd (upd (upd (upd (upd (upd (upd (upd e 14 (sR 14 0)) 0 (sP x0)) 94 (sP x0)) 95 (sV (.slice (some ⟨b1, 0, none⟩) 0 0))) 96 (sP x0)) 97 (sQ b2 o3)) 98 (sQ b2 (o3 + 3))) 99 (sS a5 n6 c7)) 101 (sA l8)) 102 (sV (.agg ⟨(List.set (splice [.int .u8 0, .int .u8 0, .int .u8 0, .int .u8 0, .int .i64 0, .bool false] 0 l8) 5 (.bool false))⟩))) 103 (sV (.slice (some ⟨b9, 0, none⟩) 1 1))) 100 (sS a12 n13 c14)) 104 (sS a17 n18 c19)) 105 (sQ b20 o21)) 106 (sQ b20 (o21 + 3))) (upd (upd V0 14 (75, k14)) 8 (75, k8)) h22)))))))) else False) else False)))))) := by kernel_rfl
theorem F101_r11 (e : Env) (x0 : Option Addr) (k8 : List Value) (k14 : List Value) (hp : HP) (K : Env → PV → HP → Prop) : RW Try.prog 109 [5, 8, 14] (opsAt Try.f101 [1, 1, 1, 1, 1, 0, 1, 0, 0, 1, 0, 0, 1, 0, 0, 1, 0, 0, 1, 1, 0, 0]) [0, 1, 2, 3, 4, 7, 8, 9, 5, 6, 10, 11, 12, 13] (upd (upd e 14 (sR 14 0)) 0 (sP x0)) (upd (upd V0 14 (75, k14)) 8 (75, k8)) hp K =
    (∀ b1 : Nat, hp b1 = .none → (ptrN x0 fun b2 o3 => (ldL (cellsN k14 0 5) fun l4 => (if List.length l4 = 5 then (if List.length (List.set (splice [.int .u8 0, .int .u8 0, .int .u8 0, .int .u8 0, .int .i64 0, .bool false] 0 l4) 5 (.bool false)) = 6 then (∀ b5 : Nat, (HP.set hp b1 (.cells 167 [] 0)) b5 = .none → (ldV (HP.cell (HP.set (HP.set hp b1 (.cells 167 [] 0)) b5 (.cells 167 (splice [.int .u8 0, .int .u8 0, .int .u8 0, .int .u8 0, .int .i64 0, .bool false] 0 (List.set (splice [.int .u8 0, .int .u8 0, .int .u8 0, .int .u8 0, .int .i64 0, .bool false] 0 l4) 5 (.bool false))) 0)) b2 (o3 + 3)) fun v6 => (slcV v6 fun a7 n8 c9 => (opS Try.prog (Builtin.append_ #[91, 91] 91 ⟨[(.slice (some ⟨b1, 0, none⟩) 0 0), (.slice a7 n8 c9)]⟩) (HP.set (HP.set hp b1 (.cells 167 [] 0)) b5 (.cells 167 (splice [.int .u8 0, .int .u8 0, .int .u8 0, .int .u8 0, .int .i64 0, .bool false] 0 (List.set (splice [.int .u8 0, .int .u8 0, .int .u8 0, .int .u8 0, .int .i64 0, .bool false] 0 l4) 5 (.bool false))) 0)) fun u10 h11 => (slcV u10 fun a12 n13 c14 => (opS Try.prog (Builtin.append_ #[91, 91] 91 ⟨[(.slice a12 n13 c14), (.slice (some ⟨b5, 0, none⟩) 1 1)]⟩) h11 fun u15 h16 => (slcV u15 fun a17 n18 c19 => (ptrN x0 fun b20 o21 => (HP.st h16 b20 (o21 + 3) (.slice a17 n18 c19) fun h22 => (K (upd (upd (upd (upd (upd (upd (upd (upd (upd (upd (upd (upd (upd (upd (upd e 14 (sR 14 0)) 0 (sP x0)) 94 (sP x0)) 95 (sV (.slice (some ⟨b1, 0, none⟩) 0 0))) 96 (sP x0)) 97 (sQ b2 o3)) 98 (sQ b2 (o3 + 3))) 101 (sA l4)) 102 (sV (.agg ⟨(List.set (splice [.int .u8 0, .int .u8 0, .int .u8 0, .int .u8 0, .int .i64 0, .bool false] 0 l4) 5 (.bool false))⟩))) 103 (sV (.slice (some ⟨b5, 0, none⟩) 1 1))) 99 (sS a7 n8 c9)) 100 (sS a12 n13 c14)) 104 (sS a17 n18 c19)) 105 (sQ b20 o21)) 106 (sQ b20 (o21 + 3))) (upd (upd V0 14 (75, k14)) 8 (75, k8)) h22)))))))))) else False) else False)))) := by kernel_rfl
theorem F101_r12 (e : Env) (x0 : Option Addr) (k8 : List Value) (k14 : List Value) (hp : HP) (K : Env → PV → HP → Prop) : RW Try.prog 109 [5, 8, 14] (opsAt Try.f101 [1, 1, 1, 1, 1, 0, 1, 0, 0, 1, 0, 0, 1, 0, 0, 1, 0, 0, 1, 1, 0, 0]) [0, 2, 3, 4, 7, 8, 9, 1, 5, 6, 10, 11, 12, 13] (upd (upd e 14 (sR 14 0)) 0 (sP x0)) (upd (upd V0 14 (75, k14)) 8 (75, k8)) hp K =
    (ptrN x0 fun b1 o2 => (ldL (cellsN k14 0 5) fun l3 => (if List.length l3 = 5 then (if List.length (List.set (splice [.int .u8 0, .int .u8 0, .int .u8 0, .int .u8 0, .int .i64 0, .bool false] 0 l3) 5 (.bool false)) = 6 then (∀ b4 : Nat, hp b4 = .none → (∀ b5 : Nat, (HP.set hp b4 (.cells 167 (splice [.int .u8 0, .int .u8 0, .int .u8 0, .int .u8 0, .int .i64 0, .bool false] 0 (List.set (splice [.int .u8 0, .int .u8 0, .int .u8 0, .int .u8 0, .int .i64 0, .bool false] 0 l3) 5 (.bool false))) 0)) b5 = .none → (ldV (HP.cell (HP.set (HP.set hp b4 (.cells 167 (splice [.int .u8 0, .int .u8 0, .int .u8 0, .int .u8 0, .int .i64 0, .bool false] 0 (List.set (splice [.int .u8 0, .int .u8 0, .int .u8 0, .int .u8 0, .int .i64 0, .bool false] 0 l3) 5 (.bool false))) 0)) b5 (.cells 167 [] 0)) b1 (o2 + 3)) fun v6 => (slcV v6 fun a7 n8 c9 => (opS Try.prog (Builtin.append_ #[91, 91] 91 ⟨[(.slice (some ⟨b5, 0, none⟩) 0 0), (.slice a7 n8 c9)]⟩) (HP.set (HP.set hp b4 (.cells 167 (splice [.int .u8 0, .int .u8 0, .int .u8 0, .int .u8 0, .int .i64 0, .bool false] 0 (List.set (splice [.int .u8 0, .int .u8 0, .int .u8 0, .int .u8 0, .int .i64 0, .bool false] 0 l3) 5 (.bool false))) 0)) b5 (.cells 167 [] 0)) fun u10 h11 => (slcV u10 fun a12 n13 c14 => (opS Try.prog (Builtin.append_ #[91, 91] 91 ⟨[(.slice a12 n13 c14), (.slice (some ⟨b4, 0, none⟩) 1 1)]⟩) h11 fun u15 h16 => (slcV u15 fun a17 n18 c19 => (ptrN x0 fun b20 o21 => (HP.st h16 b20 (o21 + 3) (.slice a17 n18 c19) fun h22 => (K (upd (upd (upd (upd (upd (upd (upd (upd (upd (upd (upd (upd (upd (upd (upd e 14 (sR 14 0)) 0 (sP x0)) 94 (sP x0)) 96 (sP x0)) 97 (sQ b1 o2)) 98 (sQ b1 (o2 + 3))) 101 (sA l3)) 102 (sV (.agg ⟨(List.set (splice [.int .u8 0, .int .u8 0, .int .u8 0, .int .u8 0, .int .i64 0, .bool false] 0 l3) 5 (.bool false))⟩))) 103 (sV (.slice (some ⟨b4, 0, none⟩) 1 1))) 95 (sV (.slice (some ⟨b5, 0, none⟩) 0 0))) 99 (sS a7 n8 c9)) 100 (sS a12 n13 c14)) 104 (sS a17 n18 c19)) 105 (sQ b20 o21)) 106 (sQ b20 (o21 + 3))) (upd (upd V0 14 (75, k14)) 8 (75, k8)) h22))))))))))) else False) else False))) := by kernel_rfl
theorem F101_r13 (e : Env) (x0 : Option Addr) (k8 : List Value) (k14 : List Value) (hp : HP) (K : Env → PV → HP → Prop) : RW Try.prog 109 [5, 8, 14] (opsAt Try.f101 [1, 1, 1, 1, 1, 0, 1, 0, 0, 1, 0, 0, 1, 0, 0, 1, 0, 0, 1, 1, 0, 0]) [0, 2, 3, 4, 5, 1, 6, 7, 8, 9, 10, 11, 12, 13] (upd (upd e 14 (sR 14 0)) 0 (sP x0)) (upd (upd V0 14 (75, k14)) 8 (75, k8)) hp K =
    (ptrN x0 fun b1 o2 => (ldV (HP.cell hp b1 (o2 + 3)) fun v3 => (slcV v3 fun a4 n5 c6 => (∀ b7 : Nat, hp b7 = .none → (opS Try.prog (Builtin.append_ #[91, 91] 91 ⟨[(.slice (some ⟨b7, 0, none⟩) 0 0), (.slice a4 n5 c6)]⟩) (HP.set hp b7 (.cells 167 [] 0)) fun u8 h9 => (slcV u8 fun a10 n11 c12 => (ldL (cellsN k14 0 5) fun l13 => (if List.length l13 = 5 then (if List.length (List.set (splice [.int .u8 0, .int .u8 0, .int .u8 0, .int .u8 0, .int .i64 0, .bool false] 0 l13) 5 (.bool false)) = 6 then (∀ b14 : Nat, h9 b14 = .none → (opS Try.prog (Builtin.append_ #[91, 91] 91 ⟨[(.slice a10 n11 c12), (.slice (some ⟨b14, 0, none⟩) 1 1)]⟩) (HP.set h9 b14 (.cells 167 (splice [.int .u8 0, .int .u8 0, .int .u8 0, .int .u8 0, .int .i64 0, .bool false] 0 (List.set (splice [.int .u8 0, .int .u8 0, .int .u8 0, .int .u8 0, .int .i64 0, .bool false] 0 l13) 5 (.bool false))) 0)) fun u15 h16 => (slcV u15 fun a17 n18 c19 => (ptrN x0 fun b20 o21 => (HP.st h16 b20 (o21 + 3) (.slice a17 n18 c19) fun h22 => (K (upd (upd (upd (upd (upd (upd (upd (upd (upd (upd (upd (upd (upd (upd (upd e 14 (sR 14 0)) 0 (sP x0)) 94 (sP x0)) 96 (sP x0)) 97 (sQ b1 o2)) 98 (sQ b1 (o2 + 3))) 99 (sS a4 n5 c6)) 95 (sV (.slice (some ⟨b7, 0, none⟩) 0 0))) 100 (sS a10 n11 c12)) 101 (sA l13)) 102 (sV (.agg ⟨(List.set (splice [.int .u8 0, .int .u8 0, .int .u8 0, .int .u8 0, .int .i64 0, .bool false] 0 l13) 5 (.bool false))⟩))) 103 (sV (.slice (some ⟨b14, 0, none⟩) 1 1))) 104 (sS a17 n18 c19)) 105 (sQ b20 o21)) 106 (sQ b20 (o21 + 3))) (upd (upd V0 14 (75, k14)) 8 (75, k8)) h22)))))) else False) else False)))))))) := by kernel_rfl
theorem F101_r14 (e : Env) (x0 : Option Addr) (k8 : List Value) (k14 : List Value) (hp : HP) (K : Env → PV → HP → Prop) : RW Try.prog 109 [5, 8, 14] (opsAt Try.f101 [1, 1, 1, 1, 1, 0, 1, 0, 0, 1, 0, 0, 1, 0, 0, 1, 0, 0, 1, 1, 0, 0]) [0, 2, 3, 4, 5, 1, 7, 8, 9, 6, 10, 11, 12, 13] (upd (upd e 14 (sR 14 0)) 0 (sP x0)) (upd (upd V0 14 (75, k14)) 8 (75, k8)) hp K =
    (ptrN x0 fun b1 o2 => (ldV (HP.cell hp b1 (o2 + 3)) fun v3 => (slcV v3 fun a4 n5 c6 => (∀ b7 : Nat, hp b7 = .none → (ldL (cellsN k14 0 5) fun l8 => (if List.length l8 = 5 then (if List.length (List.set (splice [.int .u8 0, .int .u8 0, .int .u8 0, .int .u8 0, .int .i64 0, .bool false] 0 l8) 5 (.bool false)) = 6 then (∀ b9 : Nat, (HP.set hp b7 (.cells 167 [] 0)) b9 = .none → (opS Try.prog (Builtin.append_ #[91, 91] 91 ⟨[(.slice (some ⟨b7, 0, none⟩) 0 0), (.slice a4 n5 c6)]⟩) (HP.set (HP.set hp b7 (.cells 167 [] 0)) b9 (.cells 167 (splice [.int .u8 0, .int .u8 0, .int .u8 0, .int .u8 0, .int .i64 0, .bool false] 0 (List.set (splice [.int .u8 0, .int .u8 0, .int .u8 0, .int .u8 0, .int .i64 0, .bool false] 0 l8) 5 (.bool false))) 0)) fun u10 h11 => (slcV u10 fun a12 n13 c14 => (opS Try.prog (Builtin.append_ #[91, 91] 91 ⟨[(.slice a12 n13 c14), (.slice (some ⟨b9, 0, none⟩) 1 1)]⟩) h11 fun u15 h16 => (slcV u15 fun a17 n18 c19 => (ptrN x0 fun b20 o21 => (HP.st h16 b20 (o21 + 3) (.slice a17 n18 c19) fun h22 => (K (upd (upd (upd (upd (upd (upd (upd (upd (upd (upd (upd (upd (upd (upd (upd e 14 (sR 14 0)) 0 (sP x0)) 94 (sP x0)) 96 (sP x0)) 97 (sQ b1 o2)) 98 (sQ b1 (o2 + 3))) 99 (sS a4 n5 c6)) 95 (sV (.slice (some ⟨b7, 0, none⟩) 0 0))) 101 (sA l8)) 102 (sV (.agg ⟨(List.set (splice [.int .u8 0, .int .u8 0, .int .u8 0, .int .u8 0, .int .i64 0, .bool false] 0 l8) 5 (.bool false))⟩))) 103 (sV (.slice (some ⟨b9, 0, none⟩) 1 1))) 100 (sS a12 n13 c14)) 104 (sS a17 n18 c19)) 105 (sQ b20 o21)) 106 (sQ b20 (o21 + 3))) (upd (upd V0 14 (75, k14)) 8 (75, k8)) h22)))))))) else False) else False)))))) := by kernel_rfl
theorem F101_r15 (e : Env) (x0 : Option Addr) (k8 : List Value) (k14 : List Value) (hp : HP) (K : Env → PV → HP → Prop) : RW Try.prog 109 [5, 8, 14] (opsAt Try.f101 [1, 1, 1, 1, 1, 0, 1, 0, 0, 1, 0, 0, 1, 0, 0, 1, 0, 0, 1, 1, 0, 0]) [0, 2, 3, 4, 5, 7, 8, 9, 1, 6, 10, 11, 12, 13] (upd (upd e 14 (sR 14 0)) 0 (sP x0)) (upd (upd V0 14 (75, k14)) 8 (75, k8)) hp K =
    (ptrN x0 fun b1 o2 => (ldV (HP.cell hp b1 (o2 + 3)) fun v3 => (slcV v3 fun a4 n5 c6 => (ldL (cellsN k14 0 5) fun l7 => (if List.length l7 = 5 then (if List.length (List.set (splice [.int .u8 0, .int .u8 0, .int .u8 0, .int .u8 0, .int .i64 0, .bool false] 0 l7) 5 (.bool false)) = 6 then (∀ b8 : Nat, hp b8 = .none → (∀ b9 : Nat, (HP.set hp b8 (.cells 167 (splice [.int .u8 0, .int .u8 0, .int .u8 0, .int .u8 0, .int .i64 0, .bool false] 0 (List.set (splice [.int .u8 0, .int .u8 0, .int .u8 0, .int .u8 0, .int .i64 0, .bool false] 0 l7) 5 (.bool false))) 0)) b9 = .none → (opS Try.prog (Builtin.append_ #[91, 91] 91 ⟨[(.slice (some ⟨b9, 0, none⟩) 0 0), (.slice a4 n5 c6)]⟩) (HP.set (HP.set hp b8 (.cells 167 (splice [.int .u8 0, .int .u8 0, .int .u8 0, .int .u8 0, .int .i64 0, .bool false] 0 (List.set (splice [.int .u8 0, .int .u8 0, .int .u8 0, .int .u8 0, .int .i64 0, .bool false] 0 l7) 5 (.bool false))) 0)) b9 (.cells 167 [] 0)) fun u10 h11 => (slcV u10 fun a12 n13 c14 => (opS Try.prog (Builtin.append_ #[91, 91] 91 ⟨[(.slice a12 n13 c14), (.slice (some ⟨b8, 0, none⟩) 1 1)]⟩) h11 fun u15 h16 => (slcV u15 fun a17 n18 c19 => (ptrN x0 fun b20 o21 => (HP.st h16 b20 (o21 + 3) (.slice a17 n18 c19) fun h22 => (K (upd (upd (upd (upd (upd (upd (upd (upd (upd (upd (upd (upd (upd (upd (upd e 14 (sR 14 0)) 0 (sP x0)) 94 (sP x0)) 96 (sP x0)) 97 (sQ b1 o2)) 98 (sQ b1 (o2 + 3))) 99 (sS a4 n5 c6)) 101 (sA l7)) 102 (sV (.agg ⟨(List.set (splice [.int .u8 0, .int .u8 0, .int .u8 0, .int .u8 0, .int .i64 0, .bool false] 0 l7) 5 (.bool false))⟩))) 103 (sV (.slice (some ⟨b8, 0, none⟩) 1 1))) 95 (sV (.slice (some ⟨b9, 0, none⟩) 0 0))) 100 (sS a12 n13 c14)) 104 (sS a17 n18 c19)) 105 (sQ b20 o21)) 106 (sQ b20 (o21 + 3))) (upd (upd V0 14 (75, k14)) 8 (75, k8)) h22))))))))) else False) else False))))) := by kernel_rfl
theorem F101_r16 (e : Env) (x0 : Option Addr) (k8 : List Value) (k14 : List Value) (hp : HP) (K : Env → PV → HP → Prop) : RW Try.prog 109 [5, 8, 14] (opsAt Try.f101 [1, 1, 1, 1, 1, 0, 1, 0, 0, 1, 0, 0, 1, 0, 0, 1, 0, 0, 1, 1, 0, 0]) [0, 2, 3, 4, 7, 8, 9, 5, 1, 6, 10, 11, 12, 13] (upd (upd e 14 (sR 14 0)) 0 (sP x0)) (upd (upd V0 14 (75, k14)) 8 (75, k8)) hp K =
    (ptrN x0 fun b1 o2 => (ldL (cellsN k14 0 5) fun l3 => (if List.length l3 = 5 then (if List.length (List.set (splice [.int .u8 0, .int .u8 0, .int .u8 0, .int .u8 0, .int .i64 0, .bool false] 0 l3) 5 (.bool false)) = 6 then (∀ b4 : Nat, hp b4 = .none → (ldV (HP.cell (HP.set hp b4 (.cells 167 (splice [.int .u8 0, .int .u8 0, .int .u8 0, .int .u8 0, .int .i64 0, .bool false] 0 (List.set (splice [.int .u8 0, .int .u8 0, .int .u8 0, .int .u8 0, .int .i64 0, .bool false] 0 l3) 5 (.bool false))) 0)) b1 (o2 + 3)) fun v5 => (slcV v5 fun a6 n7 c8 => (∀ b9 : Nat, (HP.set hp b4 (.cells 167 (splice [.int .u8 0, .int .u8 0, .int .u8 0, .int .u8 0, .int .i64 0, .bool false] 0 (List.set (splice [.int .u8 0, .int .u8 0, .int .u8 0, .int .u8 0, .int .i64 0, .bool false] 0 l3) 5 (.bool false))) 0)) b9 = .none → (opS Try.prog (Builtin.append_ #[91, 91] 91 ⟨[(.slice (some ⟨b9, 0, none⟩) 0 0), (.slice a6 n7 c8)]⟩) (HP.set (HP.set hp b4 (.cells 167 (splice [.int .u8 0, .int .u8 0, .int .u8 0, .int .u8 0, .int .i64 0, .bool false] 0 (List.set (splice [.int .u8 0, .int .u8 0, .int .u8 0, .int .u8 0, .int .i64 0, .bool false] 0 l3) 5 (.bool false))) 0)) b9 (.cells 167 [] 0)) fun u10 h11 => (slcV u10 fun a12 n13 c14 => (opS Try.prog (Builtin.append_ #[91, 91] 91 ⟨[(.slice a12 n13 c14), (.slice (some ⟨b4, 0, none⟩) 1 1)]⟩) h11 fun u15 h16 => (slcV u15 fun a17 n18 c19 => (ptrN x0 fun b20 o21 => (HP.st h16 b20 (o21 + 3) (.slice a17 n18 c19) fun h22 => (K (upd (upd (upd (upd (upd (upd (upd (upd (upd (upd (upd (upd (upd (upd (upd e 14 (sR 14 0)) 0 (sP x0)) 94 (sP x0)) 96 (sP x0)) 97 (sQ b1 o2)) 98 (sQ b1 (o2 + 3))) 101 (sA l3)) 102 (sV (.agg ⟨(List.set (splice [.int .u8 0, .int .u8 0, .int .u8 0, .int .u8 0, .int .i64 0, .bool false] 0 l3) 5 (.bool false))⟩))) 103 (sV (.slice (some ⟨b4, 0, none⟩) 1 1))) 99 (sS a6 n7 c8)) 95 (sV (.slice (some ⟨b9, 0, none⟩) 0 0))) 100 (sS a12 n13 c14)) 104 (sS a17 n18 c19)) 105 (sQ b20 o21)) 106 (sQ b20 (o21 + 3))) (upd (upd V0 14 (75, k14)) 8 (75, k8)) h22))))))))))) else False) else False))) := by kernel_rfl
theorem F101_r17 : R101 [1, 1, 1, 1, 1, 0, 1, 0, 0, 1, 0, 0, 1, 0, 0, 1, 1] 3 (upd e 13 (sI x13)) (upd V0 8 (75, k8)) hp K =
    (K (upd (upd (upd (upd e 13 (sI x13)) 74 (sI x13)) 75 (sI ((wr (x13 + 1))))) 13 (sI ((wr (x13 + 1))))) (upd V0 8 (75, k8)) hp) := by kernel_rfl
def F101_j10 (x0 : Option Addr) (x2 : Int) (x3 : Bool) (x10a : Option Addr) (x10n : Nat) (x10c : Nat) (x12 : Int) (x13 : Int) (x93 : Bool) (k8 : List Value) (k14 : List Value) (hp : HP) (I6 : (Int × (List Value)) → HP → Prop) (I9 : (Int × (List Value)) → HP → Prop) (K : Value → HP → Prop) : Prop :=
  (ite2 x93 ((∀ b_13 : Nat, hp b_13 = .none → (ptrN x0 fun b_14 o_15 => (ldV (HP.cell (HP.set hp b_13 (.cells 167 [] 0)) b_14 (o_15 + 3)) fun v_16 => (slcV v_16 fun a_17 n_18 c_19 => (opS Try.prog (Builtin.append_ #[91, 91] 91 ⟨[(.slice (some ⟨b_13, 0, none⟩) 0 0), (.slice a_17 n_18 c_19)]⟩) (HP.set hp b_13 (.cells 167 [] 0)) fun u_20 h_21 => (slcV u_20 fun a_22 n_23 c_24 => (ldL (cellsN k14 0 5) fun l_25 => (if List.length l_25 = 5 then (if List.length (List.set (splice [.int .u8 0, .int .u8 0, .int .u8 0, .int .u8 0, .int .i64 0, .bool false] 0 l_25) 5 (.bool false)) = 6 then (∀ b_26 : Nat, h_21 b_26 = .none → (opS Try.prog (Builtin.append_ #[91, 91] 91 ⟨[(.slice a_22 n_23 c_24), (.slice (some ⟨b_26, 0, none⟩) 1 1)]⟩) (HP.set h_21 b_26 (.cells 167 (splice [.int .u8 0, .int .u8 0, .int .u8 0, .int .u8 0, .int .i64 0, .bool false] 0 (List.set (splice [.int .u8 0, .int .u8 0, .int .u8 0, .int .u8 0, .int .i64 0, .bool false] 0 l_25) 5 (.bool false))) 0)) fun u_27 h_28 => (slcV u_27 fun a_29 n_30 c_31 => (ptrN x0 fun b_32 o_33 => (HP.st h_28 b_32 (o_33 + 3) (.slice a_29 n_30 c_31) fun h_34 => (F101_j11 k8 k14 h_34 I6 I9 K)))))) else False) else False)))))))) ∧ (∀ b_35 : Nat, hp b_35 = .none → (ptrN x0 fun b_36 o_37 => (ldV (HP.cell (HP.set hp b_35 (.cells 167 [] 0)) b_36 (o_37 + 3)) fun v_38 => (slcV v_38 fun a_39 n_40 c_41 => (ldL (cellsN k14 0 5) fun l_42 => (if List.length l_42 = 5 then (if List.length (List.set (splice [.int .u8 0, .int .u8 0, .int .u8 0, .int .u8 0, .int .i64 0, .bool false] 0 l_42) 5 (.bool false)) = 6 then (∀ b_43 : Nat, (HP.set hp b_35 (.cells 167 [] 0)) b_43 = .none → (opS Try.prog (Builtin.append_ #[91, 91] 91 ⟨[(.slice (some ⟨b_35, 0, none⟩) 0 0), (.slice a_39 n_40 c_41)]⟩) (HP.set (HP.set hp b_35 (.cells 167 [] 0)) b_43 (.cells 167 (splice [.int .u8 0, .int .u8 0, .int .u8 0, .int .u8 0, .int .i64 0, .bool false] 0 (List.set (splice [.int .u8 0, .int .u8 0, .int .u8 0, .int .u8 0, .int .i64 0, .bool false] 0 l_42) 5 (.bool false))) 0)) fun u_44 h_45 => (slcV u_44 fun a_46 n_47 c_48 => (opS Try.prog (Builtin.append_ #[91, 91] 91 ⟨[(.slice a_46 n_47 c_48), (.slice (some ⟨b_43, 0, none⟩) 1 1)]⟩) h_45 fun u_49 h_50 => (slcV u_49 fun a_51 n_52 c_53 => (ptrN x0 fun b_54 o_55 => (HP.st h_50 b_54 (o_55 + 3) (.slice a_51 n_52 c_53) fun h_56 => (F101_j11 k8 k14 h_56 I6 I9 K)))))))) else False) else False)))))) ∧ (∀ b_57 : Nat, hp b_57 = .none → (ptrN x0 fun b_58 o_59 => (ldL (cellsN k14 0 5) fun l_60 => (if List.length l_60 = 5 then (if List.length (List.set (splice [.int .u8 0, .int .u8 0, .int .u8 0, .int .u8 0, .int .i64 0, .bool false] 0 l_60) 5 (.bool false)) = 6 then (∀ b_61 : Nat, (HP.set hp b_57 (.cells 167 [] 0)) b_61 = .none → (ldV (HP.cell (HP.set (HP.set hp b_57 (.cells 167 [] 0)) b_61 (.cells 167 (splice [.int .u8 0, .int .u8 0, .int .u8 0, .int .u8 0, .int .i64 0, .bool false] 0 (List.set (splice [.int .u8 0, .int .u8 0, .int .u8 0, .int .u8 0, .int .i64 0, .bool false] 0 l_60) 5 (.bool false))) 0)) b_58 (o_59 + 3)) fun v_62 => (slcV v_62 fun a_63 n_64 c_65 => (opS Try.prog (Builtin.append_ #[91, 91] 91 ⟨[(.slice (some ⟨b_57, 0, none⟩) 0 0), (.slice a_63 n_64 c_65)]⟩) (HP.set (HP.set hp b_57 (.cells 167 [] 0)) b_61 (.cells 167 (splice [.int .u8 0, .int .u8 0, .int .u8 0, .int .u8 0, .int .i64 0, .bool false] 0 (List.set (splice [.int .u8 0, .int .u8 0, .int .u8 0, .int .u8 0, .int .i64 0, .bool false] 0 l_60) 5 (.bool false))) 0)) fun u_66 h_67 => (slcV u_66 fun a_68 n_69 c_70 => (opS Try.prog (Builtin.append_ #[91, 91] 91 ⟨[(.slice a_68 n_69 c_70), (.slice (some ⟨b_61, 0, none⟩) 1 1)]⟩) h_67 fun u_71 h_72 => (slcV u_71 fun a_73 n_74 c_75 => (ptrN x0 fun b_76 o_77 => (HP.st h_72 b_76 (o_77 + 3) (.slice a_73 n_74 c_75) fun h_78 => (F101_j11 k8 k14 h_78 I6 I9 K)))))))))) else False) else False)))) ∧ (ptrN x0 fun b_79 o_80 => (ldL (cellsN k14 0 5) fun l_81 => (if List.length l_81 = 5 then (if List.length (List.set (splice [.int .u8 0, .int .u8 0, .int .u8 0, .int .u8 0, .int .i64 0, .bool false] 0 l_81) 5 (.bool false)) = 6 then (∀ b_82 : Nat, hp b_82 = .none → (∀ b_83 : Nat, (HP.set hp b_82 (.cells 167 (splice [.int .u8 0, .int .u8 0, .int .u8 0, .int .u8 0, .int .i64 0, .bool false] 0 (List.set (splice [.int .u8 0, .int .u8 0, .int .u8 0, .int .u8 0, .int .i64 0, .bool false] 0 l_81) 5 (.bool false))) 0)) b_83 = .none → (ldV (HP.cell (HP.set (HP.set hp b_82 (.cells 167 (splice [.int .u8 0, .int .u8 0, .int .u8 0, .int .u8 0, .int .i64 0, .bool false] 0 (List.set (splice [.int .u8 0, .int .u8 0, .int .u8 0, .int .u8 0, .int .i64 0, .bool false] 0 l_81) 5 (.bool false))) 0)) b_83 (.cells 167 [] 0)) b_79 (o_80 + 3)) fun v_84 => (slcV v_84 fun a_85 n_86 c_87 => (opS Try.prog (Builtin.append_ #[91, 91] 91 ⟨[(.slice (some ⟨b_83, 0, none⟩) 0 0), (.slice a_85 n_86 c_87)]⟩) (HP.set (HP.set hp b_82 (.cells 167 (splice [.int .u8 0, .int .u8 0, .int .u8 0, .int .u8 0, .int .i64 0, .bool false] 0 (List.set (splice [.int .u8 0, .int .u8 0, .int .u8 0, .int .u8 0, .int .i64 0, .bool false] 0 l_81) 5 (.bool false))) 0)) b_83 (.cells 167 [] 0)) fun u_88 h_89 => (slcV u_88 fun a_90 n_91 c_92 => (opS Try.prog (Builtin.append_ #[91, 91] 91 ⟨[(.slice a_90 n_91 c_92), (.slice (some ⟨b_82, 0, none⟩) 1 1)]⟩) h_89 fun u_93 h_94 => (slcV u_93 fun a_95 n_96 c_97 => (ptrN x0 fun b_98 o_99 => (HP.st h_94 b_98 (o_99 + 3) (.slice a_95 n_96 c_97) fun h_100 => (F101_j11 k8 k14 h_100 I6 I9 K))))))))))) else False) else False))) ∧ (ptrN x0 fun b_101 o_102 => (ldV (HP.cell hp b_101 (o_102 + 3)) fun v_103 => (slcV v_103 fun a_104 n_105 c_106 => (∀ b_107 : Nat, hp b_107 = .none → (opS Try.prog (Builtin.append_ #[91, 91] 91 ⟨[(.slice (some ⟨b_107, 0, none⟩) 0 0), (.slice a_104 n_105 c_106)]⟩) (HP.set hp b_107 (.cells 167 [] 0)) fun u_108 h_109 => (slcV u_108 fun a_110 n_111 c_112 => (ldL (cellsN k14 0 5) fun l_113 => (if List.length l_113 = 5 then (if List.length (List.set (splice [.int .u8 0, .int .u8 0, .int .u8 0, .int .u8 0, .int .i64 0, .bool false] 0 l_113) 5 (.bool false)) = 6 then (∀ b_114 : Nat, h_109 b_114 = .none → (opS Try.prog (Builtin.append_ #[91, 91] 91 ⟨[(.slice a_110 n_111 c_112), (.slice (some ⟨b_114, 0, none⟩) 1 1)]⟩) (HP.set h_109 b_114 (.cells 167 (splice [.int .u8 0, .int .u8 0, .int .u8 0, .int .u8 0, .int .i64 0, .bool false] 0 (List.set (splice [.int .u8 0, .int .u8 0, .int .u8 0, .int .u8 0, .int .i64 0, .bool false] 0 l_113) 5 (.bool false))) 0)) fun u_115 h_116 => (slcV u_115 fun a_117 n_118 c_119 => (ptrN x0 fun b_120 o_121 => (HP.st h_116 b_120 (o_121 + 3) (.slice a_117 n_118 c_119) fun h_122 => (F101_j11 k8 k14 h_122 I6 I9 K)))))) else False) else False)))))))) ∧ (ptrN x0 fun b_123 o_124 => (ldV (HP.cell hp b_123 (o_124 + 3)) fun v_125 => (slcV v_125 fun a_126 n_127 c_128 => (∀ b_129 : Nat, hp b_129 = .none → (ldL (cellsN k14 0 5) fun l_130 => (if List.length l_130 = 5 then (if List.length (List.set (splice [.int .u8 0, .int .u8 0, .int .u8 0, .int .u8 0, .int .i64 0, .bool false] 0 l_130) 5 (.bool false)) = 6 then (∀ b_131 : Nat, (HP.set hp b_129 (.cells 167 [] 0)) b_131 = .none → (opS Try.prog (Builtin.append_ #[91, 91] 91 ⟨[(.slice (some ⟨b_129, 0, none⟩) 0 0), (.slice a_126 n_127 c_128)]⟩) (HP.set (HP.set hp b_129 (.cells 167 [] 0)) b_131 (.cells 167 (splice [.int .u8 0, .int .u8 0, .int .u8 0, .int .u8 0, .int .i64 0, .bool false] 0 (List.set (splice [.int .u8 0, .int .u8 0, .int .u8 0, .int .u8 0, .int .i64 0, .bool false] 0 l_130) 5 (.bool false))) 0)) fun u_132 h_133 => (slcV u_132 fun a_134 n_135 c_136 => (opS Try.prog (Builtin.append_ #[91, 91] 91 ⟨[(.slice a_134 n_135 c_136), (.slice (some ⟨b_131, 0, none⟩) 1 1)]⟩) h_133 fun u_137 h_138 => (slcV u_137 fun a_139 n_140 c_141 => (ptrN x0 fun b_142 o_143 => (HP.st h_138 b_142 (o_143 + 3) (.slice a_139 n_140 c_141) fun h_144 => (F101_j11 k8 k14 h_144 I6 I9 K)))))))) else False) else False)))))) ∧ (ptrN x0 fun b_145 o_146 => (ldV (HP.cell hp b_145 (o_146 + 3)) fun v_147 => (slcV v_147 fun a_148 n_149 c_150 => (ldL (cellsN k14 0 5) fun l_151 => (if List.length l_151 = 5 then (if List.length (List.set (splice [.int .u8 0, .int .u8 0, .int .u8 0, .int .u8 0, .int .i64 0, .bool false] 0 l_151) 5 (.bool false)) = 6 then (∀ b_152 : Nat, hp b_152 = .none → (∀ b_153 : Nat, (HP.set hp b_152 (.cells 167 (splice [.int .u8 0, .int .u8 0, .int .u8 0, .int .u8 0, .int .i64 0, .bool false] 0 (List.set (splice [.int .u8 0, .int .u8 0, .int .u8 0, .int .u8 0, .int .i64 0, .bool false] 0 l_151) 5 (.bool false))) 0)) b_153 = .none → (opS Try.prog (Builtin.append_ #[91, 91] 91 ⟨[(.slice (some ⟨b_153, 0, none⟩) 0 0), (.slice a_148 n_149 c_150)]⟩) (HP.set (HP.set hp b_152 (.cells 167 (splice [.int .u8 0, .int .u8 0, .int .u8 0, .int .u8 0, .int .i64 0, .bool false] 0 (List.set (splice [.int .u8 0, .int .u8 0, .int .u8 0, .int .u8 0, .int .i64 0, .bool false] 0 l_151) 5 (.bool false))) 0)) b_153 (.cells 167 [] 0)) fun u_154 h_155 => (slcV u_154 fun a_156 n_157 c_158 => (opS Try.prog (Builtin.append_ #[91, 91] 91 ⟨[(.slice a_156 n_157 c_158), (.slice (some ⟨b_152, 0, none⟩) 1 1)]⟩) h_155 fun u_159 h_160 => (slcV u_159 fun a_161 n_162 c_163 => (ptrN x0 fun b_164 o_165 => (HP.st h_160 b_164 (o_165 + 3) (.slice a_161 n_162 c_163) fun h_166 => (F101_j11 k8 k14 h_166 I6 I9 K))))))))) else False) else False))))) ∧ (ptrN x0 fun b_167 o_168 => (ldL (cellsN k14 0 5) fun l_169 => (if List.length l_169 = 5 then (if List.length (List.set (splice [.int .u8 0, .int .u8 0, .int .u8 0, .int .u8 0, .int .i64 0, .bool false] 0 l_169) 5 (.bool false)) = 6 then (∀ b_170 : Nat, hp b_170 = .none → (ldV (HP.cell (HP.set hp b_170 (.cells 167 (splice [.int .u8 0, .int .u8 0, .int .u8 0, .int .u8 0, .int .i64 0, .bool false] 0 (List.set (splice [.int .u8 0, .int .u8 0, .int .u8 0, .int .u8 0, .int .i64 0, .bool false] 0 l_169) 5 (.bool false))) 0)) b_167 (o_168 + 3)) fun v_171 => (slcV v_171 fun a_172 n_173 c_174 => (∀ b_175 : Nat, (HP.set hp b_170 (.cells 167 (splice [.int .u8 0, .int .u8 0, .int .u8 0, .int .u8 0, .int .i64 0, .bool false] 0 (List.set (splice [.int .u8 0, .int .u8 0, .int .u8 0, .int .u8 0, .int .i64 0, .bool false] 0 l_169) 5 (.bool false))) 0)) b_175 = .none → (opS Try.prog (Builtin.append_ #[91, 91] 91 ⟨[(.slice (some ⟨b_175, 0, none⟩) 0 0), (.slice a_172 n_173 c_174)]⟩) (HP.set (HP.set hp b_170 (.cells 167 (splice [.int .u8 0, .int .u8 0, .int .u8 0, .int .u8 0, .int .i64 0, .bool false] 0 (List.set (splice [.int .u8 0, .int .u8 0, .int .u8 0, .int .u8 0, .int .i64 0, .bool false] 0 l_169) 5 (.bool false))) 0)) b_175 (.cells 167 [] 0)) fun u_176 h_177 => (slcV u_176 fun a_178 n_179 c_180 => (opS Try.prog (Builtin.append_ #[91, 91] 91 ⟨[(.slice a_178 n_179 c_180), (.slice (some ⟨b_170, 0, none⟩) 1 1)]⟩) h_177 fun u_181 h_182 => (slcV u_181 fun a_183 n_184 c_185 => (ptrN x0 fun b_186 o_187 => (HP.st h_182 b_186 (o_187 + 3) (.slice a_183 n_184 c_185) fun h_188 => (F101_j11 k8 k14 h_188 I6 I9 K))))))))))) else False) else False)))) (I9 ((IntKind.wrap .i64 (x13 + 1)), k8) hp))
theorem F101_r18 : R101 [1, 1, 1, 1, 1, 0, 1, 0, 0, 1, 0, 0, 1, 0, 0, 1, 0, 0, 1, 0] 12 (upd (upd (upd (upd (upd e 14 (sR 14 0)) 13 (sI x13)) 3 (sB x3)) 2 (sI x2)) 0 (sP x0)) (upd (upd V0 14 (75, k14)) 8 (75, k8)) hp K =
    (ite2 x3 (ldL (cellsN k14 0 5) fun l1 => (CF Try.prog 134 [(.pointer x0), (.agg ⟨l1⟩)] hp fun u2 h3 => (intV u2 .i64 fun i4 => (K (upd (upd (upd (upd (upd (upd (upd (upd (upd (upd (upd (upd (upd (upd (upd (upd (upd e 14 (sR 14 0)) 13 (sI x13)) 3 (sB x3)) 2 (sI x2)) 0 (sP x0)) 82 (sB x3)) 83 (sB true)) 84 sU) 85 sU) 86 sU) 87 (sB true)) 88 (sB true)) 89 (sP x0)) 90 (sA l1)) 91 (sI i4)) 92 (sB (decide (i4 < 0)))) 93 (sB (decide (i4 < 0)))) (upd (upd V0 14 (75, k14)) 8 (75, k8)) h3)))) (CF Try.prog 59 [(.int .i64 x2), (.int .i64 x13)] hp fun u5 h6 => (boolV u5 fun q7 => (ite2 q7 (ldL (cellsN k14 0 5) fun l8 => (CF Try.prog 134 [(.pointer x0), (.agg ⟨l8⟩)] h6 fun u9 h10 => (intV u9 .i64 fun i11 => (K (upd (upd (upd (upd (upd (upd (upd (upd (upd (upd (upd (upd (upd (upd (upd (upd (upd e 14 (sR 14 0)) 13 (sI x13)) 3 (sB x3)) 2 (sI x2)) 0 (sP x0)) 82 (sB x3)) 83 (sB false)) 84 (sI x2)) 85 (sI x13)) 86 (sB q7)) 87 (sB q7)) 88 (sB true)) 89 (sP x0)) 90 (sA l8)) 91 (sI i11)) 92 (sB (decide (i11 < 0)))) 93 (sB (decide (i11 < 0)))) (upd (upd V0 14 (75, k14)) 8 (75, k8)) h10)))) (K (upd (upd (upd (upd (upd (upd (upd (upd (upd (upd (upd (upd (upd (upd (upd (upd (upd e 14 (sR 14 0)) 13 (sI x13)) 3 (sB x3)) 2 (sI x2)) 0 (sP x0)) 82 (sB x3)) 83 (sB false)) 84 (sI x2)) 85 (sI x13)) 86 (sB q7)) 87 (sB q7)) 88 (sB false)) 89 sU) 90 sU) 91 sU) 92 sU) 93 (sB false)) (upd (upd V0 14 (75, k14)) 8 (75, k8)) h6))))) := by kernel_rfl
def F101_l9 (x0 : Option Addr) (x2 : Int) (x3 : Bool) (x10a : Option Addr) (x10n : Nat) (x10c : Nat) (x12 : Int) (I6 : (Int × (List Value)) → HP → Prop) (K : Value → HP → Prop) (I9 : (Int × (List Value)) → HP → Prop) (x13 : Int) (k8 : List Value) (hp : HP) : Prop :=
  (ptrN x0 fun b_4 o_5 => (ldV (HP.cell hp b_4 (o_5 + 2)) fun v_6 => (intV v_6 .i64 fun i_7 => (ite2 (decide (x13 ≤ i_7)) ((0 ≤ x12) ∧ (x12 < x10n) ∧ (ptrN x10a fun b_8 o_9 => (ldL (HP.cellN hp b_8 (o_9 + Int.toNat x12 * 4) 4) fun l_10 => (if List.length l_10 = 4 then (if List.length (List.set (splice [.int .u8 0, .int .u8 0, .int .u8 0, .int .u8 0, .int .i64 0] 0 l_10) 4 (.int .i64 x13)) = 5 then (if List.all (List.set (splice [.int .u8 0, .int .u8 0, .int .u8 0, .int .u8 0, .int .i64 0] 0 l_10) 4 (.int .i64 x13)) one = true then (if 0 + List.length (List.set (splice [.int .u8 0, .int .u8 0, .int .u8 0, .int .u8 0, .int .i64 0] 0 l_10) 4 (.int .i64 x13)) ≤ List.length [(Value.int .u8 0), .int .u8 0, .int .u8 0, .int .u8 0, .int .i64 0] then (ite2 x3 (ldL (cellsN (splice [.int .u8 0, .int .u8 0, .int .u8 0, .int .u8 0, .int .i64 0] 0 (List.set (splice [.int .u8 0, .int .u8 0, .int .u8 0, .int .u8 0, .int .i64 0] 0 l_10) 4 (.int .i64 x13))) 0 5) fun l_189 => (CF Try.prog 134 [(.pointer x0), (.agg ⟨l_189⟩)] hp fun u_190 h_191 => (intV u_190 .i64 fun i_192 => (F101_j10 x0 x2 x3 x10a x10n x10c x12 x13 (decide (i_192 < 0)) k8 (splice [.int .u8 0, .int .u8 0, .int .u8 0, .int .u8 0, .int .i64 0] 0 (List.set (splice [.int .u8 0, .int .u8 0, .int .u8 0, .int .u8 0, .int .i64 0] 0 l_10) 4 (.int .i64 x13))) h_191 I6 I9 K)))) (CF Try.prog 59 [(.int .i64 x2), (.int .i64 x13)] hp fun u_193 h_194 => (boolV u_193 fun q_195 => (ite2 q_195 (ldL (cellsN (splice [.int .u8 0, .int .u8 0, .int .u8 0, .int .u8 0, .int .i64 0] 0 (List.set (splice [.int .u8 0, .int .u8 0, .int .u8 0, .int .u8 0, .int .i64 0] 0 l_10) 4 (.int .i64 x13))) 0 5) fun l_196 => (CF Try.prog 134 [(.pointer x0), (.agg ⟨l_196⟩)] h_194 fun u_197 h_198 => (intV u_197 .i64 fun i_199 => (F101_j10 x0 x2 x3 x10a x10n x10c x12 x13 (decide (i_199 < 0)) k8 (splice [.int .u8 0, .int .u8 0, .int .u8 0, .int .u8 0, .int .i64 0] 0 (List.set (splice [.int .u8 0, .int .u8 0, .int .u8 0, .int .u8 0, .int .i64 0] 0 l_10) 4 (.int .i64 x13))) h_198 I6 I9 K)))) (F101_j10 x0 x2 x3 x10a x10n x10c x12 x13 false k8 (splice [.int .u8 0, .int .u8 0, .int .u8 0, .int .u8 0, .int .i64 0] 0 (List.set (splice [.int .u8 0, .int .u8 0, .int .u8 0, .int .u8 0, .int .i64 0] 0 l_10) 4 (.int .i64 x13))) h_194 I6 I9 K))))) else False) else False) else False) else False)))) (F101_j7 x0 x2 x3 x10a x10n x10c x12 k8 hp I6 K)))))
def F101_j8 (x0 : Option Addr) (x2 : Int) (x3 : Bool) (x10a : Option Addr) (x10n : Nat) (x10c : Nat) (x12 : Int) (x13 : Int) (k8 : List Value) (hp : HP) (I6 : (Int × (List Value)) → HP → Prop) (K : Value → HP → Prop) : Prop :=
  (LoopP (σ := Int × (List Value)) (fun I s hp => F101_l9 x0 x2 x3 x10a x10n x10c x12 I6 K I s.1 s.2 hp) (x13, k8) hp)
theorem F101_r19 : R101 [1, 1, 1, 1, 1, 0, 1, 0, 0, 1, 0, 0, 0] 5 (upd e 0 (sP x0)) (upd V0 8 (75, k8)) hp K =
    (ptrN x0 fun b1 o2 => (ldV (HP.cell hp b1 (o2 + 1)) fun v3 => (intV v3 .i64 fun i4 => (K (upd (upd (upd (upd (upd (upd e 0 (sP x0)) 64 (sP x0)) 65 (sQ b1 o2)) 66 (sQ b1 (o2 + 1))) 67 (sI i4)) 13 (sI i4)) (upd V0 8 (75, k8)) hp)))) := by kernel_rfl
def F101_l6 (x0 : Option Addr) (x2 : Int) (x3 : Bool) (x10a : Option Addr) (x10n : Nat) (x10c : Nat) (K : Value → HP → Prop) (I6 : (Int × (List Value)) → HP → Prop) (x12 : Int) (k8 : List Value) (hp : HP) : Prop :=
  (ite2 (decide (x12 < x10n)) (ptrN x0 fun b_200 o_201 => (ldV (HP.cell hp b_200 (o_201 + 1)) fun v_202 => (intV v_202 .i64 fun i_203 => (F101_j8 x0 x2 x3 x10a x10n x10c x12 i_203 k8 hp I6 K)))) (F101_j4 k8 hp  K))
def F101_j5 (x0 : Option Addr) (x2 : Int) (x3 : Bool) (x10a : Option Addr) (x10n : Nat) (x10c : Nat) (x12 : Int) (k8 : List Value) (hp : HP) (K : Value → HP → Prop) : Prop :=
  (LoopP (σ := Int × (List Value)) (fun I s hp => F101_l6 x0 x2 x3 x10a x10n x10c  K I s.1 s.2 hp) (x12, k8) hp)
theorem F101_r20 : R101 [1, 1, 1, 1, 1, 0, 0] 1 e (upd V0 8 (75, k8)) hp K =
    (K (upd e 12 (sI 0)) (upd V0 8 (75, k8)) hp) := by kernel_rfl
def F101_j3 (x0 : Option Addr) (x2 : Int) (x3 : Bool) (x10a : Option Addr) (x10n : Nat) (x10c : Nat) (k8 : List Value) (hp : HP) (K : Value → HP → Prop) : Prop :=
  (F101_j5 x0 x2 x3 x10a x10n x10c 0 k8 hp  K)
theorem F101_r21 : R101 [1, 1, 1, 1, 0, 1, 0, 0, 0, 0] 7 (upd (upd e 11 (sI x11)) 0 (sP x0)) (upd (upd V0 8 (75, k8)) 5 (73, k5)) hp K =
    (ptrN x0 fun b1 o2 => (ldV (HP.cell hp b1 (o2 + 0)) fun v3 => (slcV v3 fun a4 n5 c6 => (K (upd (upd (upd (upd (upd (upd (upd (upd (upd e 11 (sI x11)) 0 (sP x0)) 30 (sI x11)) 31 (sP x0)) 32 (sQ b1 o2)) 33 (sQ b1 (o2 + 0))) 34 (sS a4 n5 c6)) 35 (sI ((n5 : Nat)))) 36 (sB ((decide (x11 < n5))))) (upd (upd V0 8 (75, k8)) 5 (73, k5)) hp)))) := by kernel_rfl
theorem F101_r22 : R101 [1, 1, 1, 1, 0, 1, 0, 0, 1, 1] 3 (upd e 11 (sI x11)) (upd (upd V0 8 (75, k8)) 5 (73, k5)) hp K =
    (K (upd (upd (upd (upd e 11 (sI x11)) 37 (sI x11)) 38 (sI ((wr (x11 + 1))))) 11 (sI ((wr (x11 + 1))))) (upd (upd V0 8 (75, k8)) 5 (73, k5)) hp) := by kernel_rfl
def F101_j14 (x0 : Option Addr) (x2 : Int) (x3 : Bool) (x10a : Option Addr) (x10n : Nat) (x10c : Nat) (x11 : Int) (k5 : List Value) (k8 : List Value) (hp : HP) (I13 : ((Option Addr) × Nat × Nat × Int) → HP → Prop) (K : Value → HP → Prop) : Prop :=
  (I13 (x10a, x10n, x10c, (IntKind.wrap .i64 (x11 + 1))) hp)
theorem F101_r23 : R101 [1, 1, 1, 1, 0, 1, 0, 0, 1, 0, 0, 0] 9 (upd (upd (upd e 11 (sI x11)) 5 (sR 5 0)) 0 (sP x0)) (upd (upd V0 8 (75, k8)) 5 (73, k5)) hp K =
    (ptrN x0 fun b1 o2 => (ldV (HP.cell hp b1 (o2 + 0)) fun v3 => (slcV v3 fun a4 n5 c6 => ((0 ≤ x11) ∧ (x11 < n5) ∧ (ptrN a4 fun b7 o8 => (ldL (HP.cellN hp b7 (o8 + Int.toNat x11 * 4) 4) fun l9 => (ldL (cellsN k5 0 4) fun l10 => (eqAgg Try.prog 73 l9 l10 fun q11 => (K (upd (upd (upd (upd (upd (upd (upd (upd (upd (upd (upd (upd e 11 (sI x11)) 5 (sR 5 0)) 0 (sP x0)) 39 (sP x0)) 40 (sQ b1 o2)) 41 (sQ b1 (o2 + 0))) 42 (sS a4 n5 c6)) 43 (sI x11)) 44 (sQ b7 (o8 + Int.toNat x11 * 4))) 45 (sA l9)) 46 (sA l10)) 47 (sB ((!q11)))) (upd (upd V0 8 (75, k8)) 5 (73, k5)) hp))))))))) := by kernel_rfl
theorem F101_r24 : R101 [1, 1, 1, 1, 0, 1, 0, 0, 1, 0, 0, 1, 0] 11 (upd (upd (upd e 11 (sI x11)) 10 (sS x10a x10n x10c)) 0 (sP x0)) (upd (upd V0 8 (75, k8)) 5 (73, k5)) hp K =
    (ptrN x0 fun b1 o2 => (ldV (HP.cell hp b1 (o2 + 0)) fun v3 => (slcV v3 fun a4 n5 c6 => ((0 ≤ x11) ∧ (x11 < n5) ∧ (ptrN a4 fun b7 o8 => (ldL (HP.cellN hp b7 (o8 + Int.toNat x11 * 4) 4) fun l9 => (if List.length l9 = 4 then (∀ b10 : Nat, hp b10 = .none → (opS Try.prog (Builtin.append_ #[66, 66] 66 ⟨[(.slice x10a x10n x10c), (.slice (some ⟨b10, 0, none⟩) 1 1)]⟩) (HP.set hp b10 (.cells 73 (splice [.int .u8 0, .int .u8 0, .int .u8 0, .int .u8 0] 0 l9) 0)) fun u11 h12 => (slcV u11 fun a13 n14 c15 => (K (upd (upd (upd (upd (upd (upd (upd (upd (upd (upd (upd (upd (upd (upd e 11 (sI x11)) 10 (sS x10a x10n x10c)) 0 (sP x0)) 48 (sS x10a x10n x10c)) 49 (sP x0)) 50 (sQ b1 o2)) 51 (sQ b1 (o2 + 0))) 52 (sS a4 n5 c6)) 53 (sI x11)) 54 (sQ b7 (o8 + Int.toNat x11 * 4))) 55 (sA l9)) 56 (sV (.slice (some ⟨b10, 0, none⟩) 1 1))) 57 (sS a13 n14 c15)) 10 (sS a13 n14 c15)) (upd (upd V0 8 (75, k8)) 5 (73, k5)) h12)))) else False))))))) := by kernel_rfl
def F101_l13 (x0 : Option Addr) (x2 : Int) (x3 : Bool) (k5 : List Value) (k8 : List Value) (K : Value → HP → Prop) (I13 : ((Option Addr) × Nat × Nat × Int) → HP → Prop) (x10a : Option Addr) (x10n : Nat) (x10c : Nat) (x11 : Int) (hp : HP) : Prop :=
  (ptrN x0 fun b_204 o_205 => (ldV (HP.cell hp b_204 (o_205 + 0)) fun v_206 => (slcV v_206 fun a_207 n_208 c_209 => (ite2 (decide (x11 < n_208)) (ptrN x0 fun b_210 o_211 => (ldV (HP.cell hp b_210 (o_211 + 0)) fun v_212 => (slcV v_212 fun a_213 n_214 c_215 => ((0 ≤ x11) ∧ (x11 < n_214) ∧ (ptrN a_213 fun b_216 o_217 => (ldL (HP.cellN hp b_216 (o_217 + Int.toNat x11 * 4) 4) fun l_218 => (ldL (cellsN k5 0 4) fun l_219 => (eqAgg Try.prog 73 l_218 l_219 fun q_220 => (ite2 (!q_220) (ptrN x0 fun b_221 o_222 => (ldV (HP.cell hp b_221 (o_222 + 0)) fun v_223 => (slcV v_223 fun a_224 n_225 c_226 => ((0 ≤ x11) ∧ (x11 < n_225) ∧ (ptrN a_224 fun b_227 o_228 => (ldL (HP.cellN hp b_227 (o_228 + Int.toNat x11 * 4) 4) fun l_229 => (if List.length l_229 = 4 then (∀ b_230 : Nat, hp b_230 = .none → (opS Try.prog (Builtin.append_ #[66, 66] 66 ⟨[(.slice x10a x10n x10c), (.slice (some ⟨b_230, 0, none⟩) 1 1)]⟩) (HP.set hp b_230 (.cells 73 (splice [.int .u8 0, .int .u8 0, .int .u8 0, .int .u8 0] 0 l_229) 0)) fun u_231 h_232 => (slcV u_231 fun a_233 n_234 c_235 => (F101_j14 x0 x2 x3 a_233 n_234 c_235 x11 k5 k8 h_232 I13 K)))) else False))))))) (F101_j14 x0 x2 x3 x10a x10n x10c x11 k5 k8 hp I13 K)))))))))) (F101_j3 x0 x2 x3 x10a x10n x10c k8 hp  K)))))
def F101_j12 (x0 : Option Addr) (x2 : Int) (x3 : Bool) (x10a : Option Addr) (x10n : Nat) (x10c : Nat) (x11 : Int) (k5 : List Value) (k8 : List Value) (hp : HP) (K : Value → HP → Prop) : Prop :=
  (LoopP (σ := (Option Addr) × Nat × Nat × Int) (fun I s hp => F101_l13 x0 x2 x3 k5 k8  K I s.1 s.2.1 s.2.2.1 s.2.2.2 hp) (x10a, x10n, x10c, x11) hp)
theorem F101_r25 : R101 [1, 1, 1, 1, 0, 0] 1 e (upd (upd V0 8 (75, k8)) 5 (73, k5)) hp K =
    (K (upd e 11 (sI 0)) (upd (upd V0 8 (75, k8)) 5 (73, k5)) hp) := by kernel_rfl
def F101_j2 (x0 : Option Addr) (x2 : Int) (x3 : Bool) (x10a : Option Addr) (x10n : Nat) (x10c : Nat) (k5 : List Value) (k8 : List Value) (hp : HP) (K : Value → HP → Prop) : Prop :=
  (F101_j12 x0 x2 x3 x10a x10n x10c 0 k5 k8 hp  K)
theorem F101_r26 : R101 [1, 1, 1, 0, 0] 3 (upd (upd e 5 (sR 5 0)) 0 (sP x0)) (upd (upd V0 8 (75, k8)) 5 (73, k5)) hp K =
    (ldL (cellsN k5 0 4) fun l1 => (CF Try.prog 106 [(.pointer x0), (.agg ⟨l1⟩)] hp fun u2 h3 => (boolV u2 fun q4 => (K (upd (upd (upd (upd (upd e 5 (sR 5 0)) 0 (sP x0)) 23 (sP x0)) 24 (sA l1)) 25 (sB q4)) (upd (upd V0 8 (75, k8)) 5 (73, k5)) h3)))) := by kernel_rfl
theorem F101_r27 : R101 [1, 1, 1, 0, 1, 0] 5 (upd (upd e 10 (sS x10a x10n x10c)) 5 (sR 5 0)) (upd (upd V0 8 (75, k8)) 5 (73, k5)) hp K =
    (ldL (cellsN k5 0 4) fun l1 => (if List.length l1 = 4 then (∀ b2 : Nat, hp b2 = .none → (opS Try.prog (Builtin.append_ #[66, 66] 66 ⟨[(.slice x10a x10n x10c), (.slice (some ⟨b2, 0, none⟩) 1 1)]⟩) (HP.set hp b2 (.cells 73 (splice [.int .u8 0, .int .u8 0, .int .u8 0, .int .u8 0] 0 l1) 0)) fun u3 h4 => (slcV u3 fun a5 n6 c7 => (K (upd (upd (upd (upd (upd (upd (upd e 10 (sS x10a x10n x10c)) 5 (sR 5 0)) 26 (sS x10a x10n x10c)) 27 (sA l1)) 28 (sV (.slice (some ⟨b2, 0, none⟩) 1 1))) 29 (sS a5 n6 c7)) 10 (sS a5 n6 c7)) (upd (upd V0 8 (75, k8)) 5 (73, k5)) h4)))) else False)) := by kernel_rfl
def F101_j1 (x0 : Option Addr) (x2 : Int) (x3 : Bool) (x20 : Bool) (k5 : List Value) (k8 : List Value) (hp : HP) (K : Value → HP → Prop) : Prop :=
  (ite2 x20 (if List.length [(Value.int .u8 0), .int .u8 0, .int .u8 0, .int .u8 0, .int .i64 0] = 5 then (if List.all [(Value.int .u8 0), .int .u8 0, .int .u8 0, .int .u8 0, .int .i64 0] one = true then (if 0 + List.length [(Value.int .u8 0), .int .u8 0, .int .u8 0, .int .u8 0, .int .i64 0] ≤ List.length k8 then (ldL (cellsN (splice k8 0 [.int .u8 0, .int .u8 0, .int .u8 0, .int .u8 0, .int .i64 0]) 0 5) fun l_1 => (K (.tuple ⟨[(.agg ⟨l_1⟩), (.int .i64 1)]⟩) hp)) else False) else False) else False) (∀ b_2 : Nat, hp b_2 = .none → (ldL (cellsN k5 0 4) fun l_236 => (CF Try.prog 106 [(.pointer x0), (.agg ⟨l_236⟩)] (HP.set hp b_2 (.cells 73 [] 0)) fun u_237 h_238 => (boolV u_237 fun q_239 => (ite2 q_239 (ldL (cellsN k5 0 4) fun l_240 => (if List.length l_240 = 4 then (∀ b_241 : Nat, h_238 b_241 = .none → (opS Try.prog (Builtin.append_ #[66, 66] 66 ⟨[(.slice (some ⟨b_2, 0, none⟩) 0 0), (.slice (some ⟨b_241, 0, none⟩) 1 1)]⟩) (HP.set h_238 b_241 (.cells 73 (splice [.int .u8 0, .int .u8 0, .int .u8 0, .int .u8 0] 0 l_240) 0)) fun u_242 h_243 => (slcV u_242 fun a_244 n_245 c_246 => (F101_j2 x0 x2 x3 a_244 n_245 c_246 k5 k8 h_243  K)))) else False)) (F101_j2 x0 x2 x3 (some ⟨b_2, 0, none⟩) 0 0 k5 k8 h_238  K)))))))
theorem F101_r28 : R101 [1, 0, 0] 6 (upd e 2 (sI x2)) (upd (upd V0 8 (75, k8)) 5 (73, k5)) hp K =
    (ite2 (decide (x2 < 0)) (K (upd (upd (upd (upd (upd (upd (upd e 2 (sI x2)) 15 (sI x2)) 16 (sB (decide (x2 < 0)))) 17 (sB true)) 18 sU) 19 sU) 20 (sB true)) (upd (upd V0 8 (75, k8)) 5 (73, k5)) hp) (K (upd (upd (upd (upd (upd (upd (upd e 2 (sI x2)) 15 (sI x2)) 16 (sB (decide (x2 < 0)))) 17 (sB false)) 18 (sI x2)) 19 (sB (decide (x2 > 65535)))) 20 (sB (decide (x2 > 65535)))) (upd (upd V0 8 (75, k8)) 5 (73, k5)) hp)) := by kernel_rfl
def F101 (x0 : Option Addr) (x1 : List Value) (x2 : Int) (x3 : Bool) (hp : HP) (K : Value → HP → Prop) : Prop :=
  (ite2 (decide (x2 < 0)) (F101_j1 x0 x2 x3 true x1 [.int .u8 0, .int .u8 0, .int .u8 0, .int .u8 0, .int .i64 0] hp  K) (F101_j1 x0 x2 x3 (decide (x2 > 65535)) x1 [.int .u8 0, .int .u8 0, .int .u8 0, .int .u8 0, .int .i64 0] hp  K))
noncomputable def F101_code : Code := (.seq (.region 0 (opsAt Try.f101 [0]) false) (.seq (.seq (.region 1 (opsAt Try.f101 [1, 0, 0]) false) (.cond (.tmp 20) (.seq (.region 2 (opsAt Try.f101 [1, 0, 1, 0, 0]) false) .ret) .skip)) (.seq (.region 3 (opsAt Try.f101 [1, 1, 0]) false) (.seq (.seq (.region 4 (opsAt Try.f101 [1, 1, 1, 0, 0]) false) (.cond (.tmp 25) (.region 5 (opsAt Try.f101 [1, 1, 1, 0, 1, 0]) false) .skip)) (.seq (.seq (.region 6 (opsAt Try.f101 [1, 1, 1, 1, 0, 0]) false) (.block 0 (.loop (.seq (.seq (.region 7 (opsAt Try.f101 [1, 1, 1, 1, 0, 1, 0, 0, 0, 0]) false) (.cond (.tmp 36) .skip (.exit 0))) (.seq (.block 1 (.seq (.region 9 (opsAt Try.f101 [1, 1, 1, 1, 0, 1, 0, 0, 1, 0, 0, 0]) true) (.cond (.tmp 47) (.region 10 (opsAt Try.f101 [1, 1, 1, 1, 0, 1, 0, 0, 1, 0, 0, 1, 0]) false) .skip))) (.region 8 (opsAt Try.f101 [1, 1, 1, 1, 0, 1, 0, 0, 1, 1]) false)))))) (.seq (.seq (.region 11 (opsAt Try.f101 [1, 1, 1, 1, 1, 0, 0]) false) (.block 2 (.loop (.seq (.seq (.region 12 (opsAt Try.f101 [1, 1, 1, 1, 1, 0, 1, 0, 0, 0, 0]) false) (.cond (.tmp 61) .skip (.exit 2))) (.seq (.block 3 (.seq (.region 14 (opsAt Try.f101 [1, 1, 1, 1, 1, 0, 1, 0, 0, 1, 0, 0, 0]) false) (.block 4 (.loop (.seq (.seq (.region 15 (opsAt Try.f101 [1, 1, 1, 1, 1, 0, 1, 0, 0, 1, 0, 0, 1, 0, 0, 0, 0]) false) (.cond (.tmp 73) .skip (.exit 4))) (.seq (.block 5 (.seq (.region 17 (opsAt Try.f101 [1, 1, 1, 1, 1, 0, 1, 0, 0, 1, 0, 0, 1, 0, 0, 1, 0, 0, 0]) false) (.seq (.region 18 (opsAt Try.f101 [1, 1, 1, 1, 1, 0, 1, 0, 0, 1, 0, 0, 1, 0, 0, 1, 0, 0, 1, 0]) false) (.cond (.tmp 93) (.seq (.region 19 (opsAt Try.f101 [1, 1, 1, 1, 1, 0, 1, 0, 0, 1, 0, 0, 1, 0, 0, 1, 0, 0, 1, 1, 0, 0]) true) (.seq (.region 20 (opsAt Try.f101 [1, 1, 1, 1, 1, 0, 1, 0, 0, 1, 0, 0, 1, 0, 0, 1, 0, 0, 1, 1, 0, 1, 0]) false) .ret)) .skip)))) (.region 16 (opsAt Try.f101 [1, 1, 1, 1, 1, 0, 1, 0, 0, 1, 0, 0, 1, 0, 0, 1, 1]) false))))))) (.region 13 (opsAt Try.f101 [1, 1, 1, 1, 1, 0, 1, 0, 0, 1, 1]) false)))))) (.seq (.region 21 (opsAt Try.f101 [1, 1, 1, 1, 1, 1, 0]) false) .ret)))))))
theorem F101_body : Try.f101.body = some F101_code := by kernel_rfl
theorem F101_ok (x0 : Option Addr) (x1 : List Value) (x2 : Int) (x3 : Bool) (hp : HP) (K : Value → HP → Prop) (h : F101 x0 x1 x2 x3 hp K) : CF Try.prog 101 [(.pointer x0), (.agg ⟨x1⟩), (.int .i64 x2), (.bool x3)] hp K := by
 refine .inl ⟨by kernel_rfl, AC.intro (N := 109) Try.func101 F101_body rfl (Nat.le_of_ble_eq_true rfl) ?_⟩
 unfold F101 at h
 unfold F101_code
 refine AWP.seq' ?_
 refine AWP.rgn (F101_r0 (upd (upd (upd E0 3 (sB x3)) 2 (sI x2)) 0 (sP x0)) x1 hp _) ?_ (Ru 1 (Ru 0 (Ru 2 (Ru 3 Rn)))) (Sc rfl (Sc rfl (Sc rfl (Sc rfl Sn)))) Sn
 refine AWP.seq' ?_
 refine AWP.seq (fun env pv hp => ∃ (x0 : Option Addr) (x2 : Int) (x3 : Bool) (x20 : Bool) (k5 : List Value) (k8 : List Value), Sub (upd (upd (upd (upd (upd (upd E0 20 (sB x20)) 8 (sR 8 0)) 5 (sR 5 0)) 3 (sB x3)) 2 (sI x2)) 0 (sP x0)) env ∧ Sub (upd (upd V0 8 (75, k8)) 5 (73, k5)) pv ∧ (F101_j1 x0 x2 x3 x20 k5 k8 hp  K)) ?_ ?_
 ·refine AWP.rgn (F101_r28 (upd (upd (upd (upd E0 8 (sR 8 0)) 5 (sR 5 0)) 3 (sB x3)) 0 (sP x0)) x2 x1 [.int .u8 0, .int .u8 0, .int .u8 0, .int .u8 0, .int .i64 0] hp _) ?_ (Ru 2 (Ru 0 (Ru 3 (RefOk.p 5 5 0 (RefOk.p 8 8 0 Rn (fun e => by cases e)) (fun e => by cases e))))) (Sc rfl (Sc rfl (Sc rfl (Sc rfl (Sc rfl Sn))))) (Sc rfl (Sc rfl Sn))
  refine mt h (fun h => ?_) (fun h => ?_)
  ·exact ⟨x0, x2, x3, true, x1, [.int .u8 0, .int .u8 0, .int .u8 0, .int .u8 0, .int .i64 0], (Sc rfl (Sc rfl (Sc rfl (Sc rfl (Sc rfl (Sc rfl Sn)))))), (Sc rfl (Sc rfl Sn)), h⟩
  ·exact ⟨x0, x2, x3, (decide (x2 > 65535)), x1, [.int .u8 0, .int .u8 0, .int .u8 0, .int .u8 0, .int .i64 0], (Sc rfl (Sc rfl (Sc rfl (Sc rfl (Sc rfl (Sc rfl Sn)))))), (Sc rfl (Sc rfl Sn)), h⟩
 ·rintro env pv hp ⟨x0, x2, x3, x20, k5, k8, he, hv, h⟩
  refine AWP.sub (env' := (upd (upd (upd (upd (upd (upd E0 20 (sB x20)) 8 (sR 8 0)) 5 (sR 5 0)) 3 (sB x3)) 2 (sI x2)) 0 (sP x0))) (pv' := (upd (upd V0 8 (75, k8)) 5 (73, k5))) ?_ (Ru 0 (Ru 2 (Ru 3 (RefOk.p 5 5 0 (RefOk.p 8 8 0 (Ru 20 Rn) (fun e => by cases e)) (fun e => by cases e))))) he hv (HSub.refl _)
  clear he hv
  unfold F101_j1 at h
  refine AWP.cond (t := x20) rfl (fun e => ?_) (fun e => ?_)
  ·replace h := ite2_t h e
   refine AWP.seq' ?_
   refine AWP.rgn (F101_r1 E0 k8 hp _) ?_ (RefOk.p 8 8 0 Rn (fun e => by cases e)) (Sc rfl Sn) (Sc rfl Sn)
   refine mf h fun h => mf h fun h => mf h fun h => ?_
   refine AWP.ret ?_
   exact h
  ·replace h := ite2_f h e
   refine AWP.skip ?_
   refine AWP.seq' ?_
   refine AWP.rgn (F101_r2 (upd (upd (upd (upd (upd E0 8 (sR 8 0)) 5 (sR 5 0)) 3 (sB x3)) 2 (sI x2)) 0 (sP x0)) k5 k8 hp _) ?_ (Ru 0 (Ru 2 (Ru 3 (RefOk.p 5 5 0 (RefOk.p 8 8 0 Rn (fun e => by cases e)) (fun e => by cases e))))) (Sc rfl (Sc rfl (Sc rfl (Sc rfl (Sc rfl Sn))))) (Sc rfl (Sc rfl Sn))
   refine fun b_2 hb_b_2 => ?_
   replace h := h b_2 hb_b_2
   refine AWP.seq (fun env pv hp => ∃ (x0 : Option Addr) (x2 : Int) (x3 : Bool) (x10a : Option Addr) (x10n : Nat) (x10c : Nat) (k5 : List Value) (k8 : List Value), Sub (upd (upd (upd (upd (upd (upd E0 10 (sS x10a x10n x10c)) 8 (sR 8 0)) 5 (sR 5 0)) 3 (sB x3)) 2 (sI x2)) 0 (sP x0)) env ∧ Sub (upd (upd V0 8 (75, k8)) 5 (73, k5)) pv ∧ (F101_j2 x0 x2 x3 x10a x10n x10c k5 k8 hp  K)) ?_ ?_
   ·refine AWP.seq' ?_
    refine AWP.rgn (F101_r26 (upd (upd (upd (upd E0 10 (sV (.slice (some ⟨b_2, 0, none⟩) 0 0))) 8 (sR 8 0)) 3 (sB x3)) 2 (sI x2)) x0 k5 k8 (HP.set hp b_2 (.cells 73 [] 0)) _) ?_ (Ru 0 (RefOk.p 5 5 0 (Ru 2 (Ru 3 (RefOk.p 8 8 0 (Ru 10 Rn) (fun e => by cases e)))) (fun e => by cases e))) (Sc rfl (Sc rfl (Sc rfl (Sc rfl (Sc rfl (Sc rfl Sn)))))) (Sc rfl (Sc rfl Sn))
    refine mL h fun l_236 h => mC h fun u_237 h_238 h => mB h fun q_239 h => ?_
    refine AWP.cond (t := q_239) rfl (fun e => ?_) (fun e => ?_)
    ·replace h := ite2_t h e
     refine AWP.rgn (F101_r27 (upd (upd (upd (upd E0 8 (sR 8 0)) 3 (sB x3)) 2 (sI x2)) 0 (sP x0)) (some ⟨b_2, 0, none⟩) 0 0 k5 k8 h_238 _) ?_ (RefOk.p 5 5 0 (Ru 10 (Ru 0 (Ru 2 (Ru 3 (RefOk.p 8 8 0 Rn (fun e => by cases e)))))) (fun e => by cases e)) (Sc rfl (Sc rfl (Sc rfl (Sc rfl (Sc rfl (Sc rfl Sn)))))) (Sc rfl (Sc rfl Sn))
     refine mL h fun l_240 h => mf h fun h => ?_
     refine fun b_241 hb_b_241 => ?_
     replace h := h b_241 hb_b_241
     refine mO h fun u_242 h_243 h => mS h fun a_244 n_245 c_246 h => ?_
     exact ⟨x0, x2, x3, a_244, n_245, c_246, k5, k8, (Sc rfl (Sc rfl (Sc rfl (Sc rfl (Sc rfl (Sc rfl Sn)))))), (Sc rfl (Sc rfl Sn)), h⟩
    ·replace h := ite2_f h e
     refine AWP.skip ?_
     exact ⟨x0, x2, x3, (some ⟨b_2, 0, none⟩), 0, 0, k5, k8, (Sc rfl (Sc rfl (Sc rfl (Sc rfl (Sc rfl (Sc rfl Sn)))))), (Sc rfl (Sc rfl Sn)), h⟩
   ·rintro env pv hp ⟨x0, x2, x3, x10a, x10n, x10c, k5, k8, he, hv, h⟩
    refine AWP.sub (env' := (upd (upd (upd (upd (upd (upd E0 10 (sS x10a x10n x10c)) 8 (sR 8 0)) 5 (sR 5 0)) 3 (sB x3)) 2 (sI x2)) 0 (sP x0))) (pv' := (upd (upd V0 8 (75, k8)) 5 (73, k5))) ?_ (Ru 0 (Ru 2 (Ru 3 (RefOk.p 5 5 0 (RefOk.p 8 8 0 (Ru 10 Rn) (fun e => by cases e)) (fun e => by cases e))))) he hv (HSub.refl _)
    clear he hv
    unfold F101_j2 at h
    refine AWP.seq (fun env pv hp => ∃ (x0 : Option Addr) (x2 : Int) (x3 : Bool) (x10a : Option Addr) (x10n : Nat) (x10c : Nat) (k8 : List Value), Sub (upd (upd (upd (upd (upd E0 10 (sS x10a x10n x10c)) 8 (sR 8 0)) 3 (sB x3)) 2 (sI x2)) 0 (sP x0)) env ∧ Sub (upd V0 8 (75, k8)) pv ∧ (F101_j3 x0 x2 x3 x10a x10n x10c k8 hp  K)) ?_ ?_
    ·refine AWP.seq (fun env pv hp => ∃ (x0 : Option Addr) (x2 : Int) (x3 : Bool) (x10a : Option Addr) (x10n : Nat) (x10c : Nat) (x11 : Int) (k5 : List Value) (k8 : List Value), Sub (upd (upd (upd (upd (upd (upd (upd E0 11 (sI x11)) 10 (sS x10a x10n x10c)) 8 (sR 8 0)) 5 (sR 5 0)) 3 (sB x3)) 2 (sI x2)) 0 (sP x0)) env ∧ Sub (upd (upd V0 8 (75, k8)) 5 (73, k5)) pv ∧ (F101_j12 x0 x2 x3 x10a x10n x10c x11 k5 k8 hp  K)) ?_ ?_
     ·refine AWP.rgn (F101_r25 (upd (upd (upd (upd (upd (upd E0 10 (sS x10a x10n x10c)) 8 (sR 8 0)) 5 (sR 5 0)) 3 (sB x3)) 2 (sI x2)) 0 (sP x0)) k5 k8 hp _) ?_ (Ru 0 (Ru 2 (Ru 3 (RefOk.p 5 5 0 (RefOk.p 8 8 0 (Ru 10 Rn) (fun e => by cases e)) (fun e => by cases e))))) (Sc rfl (Sc rfl (Sc rfl (Sc rfl (Sc rfl (Sc rfl Sn)))))) (Sc rfl (Sc rfl Sn))
      exact ⟨x0, x2, x3, x10a, x10n, x10c, 0, k5, k8, (Sc rfl (Sc rfl (Sc rfl (Sc rfl (Sc rfl (Sc rfl (Sc rfl Sn))))))), (Sc rfl (Sc rfl Sn)), h⟩
     ·rintro env pv hp ⟨x0, x2, x3, x10a, x10n, x10c, x11, k5, k8, he, hv, h⟩
      refine AWP.sub (env' := (upd (upd (upd (upd (upd (upd (upd E0 11 (sI x11)) 10 (sS x10a x10n x10c)) 8 (sR 8 0)) 5 (sR 5 0)) 3 (sB x3)) 2 (sI x2)) 0 (sP x0))) (pv' := (upd (upd V0 8 (75, k8)) 5 (73, k5))) ?_ (Ru 0 (Ru 2 (Ru 3 (RefOk.p 5 5 0 (RefOk.p 8 8 0 (Ru 10 (Ru 11 Rn)) (fun e => by cases e)) (fun e => by cases e))))) he hv (HSub.refl _)
      clear he hv
      unfold F101_j12 at h
      refine AWP.block ?_
      refine AWP.loop (σ := (Option Addr) × Nat × Nat × Int) (fun I s hp => F101_l13 x0 x2 x3 k5 k8  K I s.1 s.2.1 s.2.2.1 s.2.2.2 hp) (fun s => (upd (upd (upd (upd (upd (upd (upd E0 11 (sI (s.2.2.2))) 10 (sV (.slice s.1 s.2.1 s.2.2.1))) 8 (sR 8 0)) 5 (sR 5 0)) 3 (sB x3)) 2 (sI x2)) 0 (sP x0))) (fun s => (upd (upd V0 8 (75, k8)) 5 (73, k5))) (x10a, x10n, x10c, x11) h (fun s => (Ru 0 (Ru 2 (Ru 3 (RefOk.p 5 5 0 (RefOk.p 8 8 0 (Ru 10 (Ru 11 Rn)) (fun e => by cases e)) (fun e => by cases e)))))) (Sc rfl (Sc rfl (Sc rfl (Sc rfl (Sc rfl (Sc rfl (Sc rfl Sn))))))) (Sc rfl (Sc rfl Sn)) ?_
      intro I13 s hp h
      obtain ⟨x10a, x10n, x10c, x11⟩ := s
      replace h : F101_l13 x0 x2 x3 k5 k8  K I13 x10a x10n x10c x11 hp := h
      unfold F101_l13 at h
      refine AWP.seq' ?_
      refine AWP.seq' ?_
      refine AWP.rgn (F101_r21 (upd (upd (upd (upd (upd E0 10 (sS x10a x10n x10c)) 8 (sR 8 0)) 5 (sR 5 0)) 3 (sB x3)) 2 (sI x2)) x0 x11 k5 k8 hp _) ?_ (Ru 0 (Ru 11 (Ru 2 (Ru 3 (RefOk.p 5 5 0 (RefOk.p 8 8 0 (Ru 10 Rn) (fun e => by cases e)) (fun e => by cases e)))))) (Sc rfl (Sc rfl (Sc rfl (Sc rfl (Sc rfl (Sc rfl (Sc rfl Sn))))))) (Sc rfl (Sc rfl Sn))
      refine mN h fun b_204 o_205 h => mV h fun v_206 h => mS h fun a_207 n_208 c_209 h => ?_
      refine AWP.cond (t := (decide (x11 < n_208))) rfl (fun e => ?_) (fun e => ?_)
      ·replace h := ite2_t h e
       refine AWP.skip ?_
       refine AWP.seq (fun env pv hp => ∃ (x10a : Option Addr) (x10n : Nat) (x10c : Nat) (x11 : Int), Sub (upd (upd (upd (upd (upd (upd (upd E0 11 (sI x11)) 10 (sS x10a x10n x10c)) 8 (sR 8 0)) 5 (sR 5 0)) 3 (sB x3)) 2 (sI x2)) 0 (sP x0)) env ∧ Sub (upd (upd V0 8 (75, k8)) 5 (73, k5)) pv ∧ (F101_j14 x0 x2 x3 x10a x10n x10c x11 k5 k8 hp I13 K)) ?_ ?_
       ·refine AWP.block ?_
        refine AWP.seq' ?_
        refine AWP.rgnD (by kernel_rfl) (by kernel_rfl) (F101_r23 (upd (upd (upd (upd E0 10 (sS x10a x10n x10c)) 8 (sR 8 0)) 3 (sB x3)) 2 (sI x2)) x0 x11 k5 k8 hp _) ?_ (Ru 0 (RefOk.p 5 5 0 (Ru 11 (Ru 2 (Ru 3 (RefOk.p 8 8 0 (Ru 10 Rn) (fun e => by cases e))))) (fun e => by cases e))) (Sc rfl (Sc rfl (Sc rfl (Sc rfl (Sc rfl (Sc rfl (Sc rfl Sn))))))) (Sc rfl (Sc rfl Sn))
        refine mN h (fun b_210 o_211 h => mV h (fun v_212 h => mS h (fun a_213 n_214 c_215 h => ⟨h.1, h.2.1, mN h.2.2 fun b_216 o_217 h => mL h fun l_218 h => mL h fun l_219 h => mE h fun q_220 h => ?_⟩)))
        refine AWP.cond (t := (!q_220)) rfl (fun e => ?_) (fun e => ?_)
        ·replace h := ite2_t h e
         refine AWP.rgn (F101_r24 (upd (upd (upd (upd E0 8 (sR 8 0)) 5 (sR 5 0)) 3 (sB x3)) 2 (sI x2)) x0 x10a x10n x10c x11 k5 k8 hp _) ?_ (Ru 0 (Ru 10 (Ru 11 (Ru 2 (Ru 3 (RefOk.p 5 5 0 (RefOk.p 8 8 0 Rn (fun e => by cases e)) (fun e => by cases e))))))) (Sc rfl (Sc rfl (Sc rfl (Sc rfl (Sc rfl (Sc rfl (Sc rfl Sn))))))) (Sc rfl (Sc rfl Sn))
         refine mN h (fun b_221 o_222 h => mV h (fun v_223 h => mS h (fun a_224 n_225 c_226 h => ⟨h.1, h.2.1, mN h.2.2 fun b_227 o_228 h => mL h fun l_229 h => mf h fun h => ?_⟩)))
         refine fun b_230 hb_b_230 => ?_
         replace h := h b_230 hb_b_230
         refine mO h fun u_231 h_232 h => mS h fun a_233 n_234 c_235 h => ?_
         exact ⟨a_233, n_234, c_235, x11, (Sc rfl (Sc rfl (Sc rfl (Sc rfl (Sc rfl (Sc rfl (Sc rfl Sn))))))), (Sc rfl (Sc rfl Sn)), h⟩
        ·replace h := ite2_f h e
         refine AWP.skip ?_
         exact ⟨x10a, x10n, x10c, x11, (Sc rfl (Sc rfl (Sc rfl (Sc rfl (Sc rfl (Sc rfl (Sc rfl Sn))))))), (Sc rfl (Sc rfl Sn)), h⟩
       ·rintro env pv hp ⟨x10a, x10n, x10c, x11, he, hv, h⟩
        refine AWP.sub (env' := (upd (upd (upd (upd (upd (upd (upd E0 11 (sI x11)) 10 (sS x10a x10n x10c)) 8 (sR 8 0)) 5 (sR 5 0)) 3 (sB x3)) 2 (sI x2)) 0 (sP x0))) (pv' := (upd (upd V0 8 (75, k8)) 5 (73, k5))) ?_ (Ru 0 (Ru 2 (Ru 3 (RefOk.p 5 5 0 (RefOk.p 8 8 0 (Ru 10 (Ru 11 Rn)) (fun e => by cases e)) (fun e => by cases e))))) he hv (HSub.refl _)
        clear he hv
        unfold F101_j14 at h
        refine AWP.rgn (F101_r22 (upd (upd (upd (upd (upd (upd E0 10 (sS x10a x10n x10c)) 8 (sR 8 0)) 5 (sR 5 0)) 3 (sB x3)) 2 (sI x2)) 0 (sP x0)) x11 k5 k8 hp _) ?_ (Ru 11 (Ru 0 (Ru 2 (Ru 3 (RefOk.p 5 5 0 (RefOk.p 8 8 0 (Ru 10 Rn) (fun e => by cases e)) (fun e => by cases e)))))) (Sc rfl (Sc rfl (Sc rfl (Sc rfl (Sc rfl (Sc rfl (Sc rfl Sn))))))) (Sc rfl (Sc rfl Sn))
        exact ⟨(x10a, x10n, x10c, (wr (x11 + 1))), (Sc rfl (Sc rfl (Sc rfl (Sc rfl (Sc rfl (Sc rfl (Sc rfl Sn))))))), (Sc rfl (Sc rfl Sn)), h⟩
      ·replace h := ite2_f h e
       refine AWP.exit ?_
       exact ⟨x0, x2, x3, x10a, x10n, x10c, k8, (Sc rfl (Sc rfl (Sc rfl (Sc rfl (Sc rfl Sn))))), (Sc rfl Sn), h⟩
    ·rintro env pv hp ⟨x0, x2, x3, x10a, x10n, x10c, k8, he, hv, h⟩
     refine AWP.sub (env' := (upd (upd (upd (upd (upd E0 10 (sS x10a x10n x10c)) 8 (sR 8 0)) 3 (sB x3)) 2 (sI x2)) 0 (sP x0))) (pv' := (upd V0 8 (75, k8))) ?_ (Ru 0 (Ru 2 (Ru 3 (RefOk.p 8 8 0 (Ru 10 Rn) (fun e => by cases e))))) he hv (HSub.refl _)
     clear he hv
     unfold F101_j3 at h
     refine AWP.seq (fun env pv hp => ∃ (k8 : List Value), Sub (upd E0 8 (sR 8 0)) env ∧ Sub (upd V0 8 (75, k8)) pv ∧ (F101_j4 k8 hp  K)) ?_ ?_
     ·refine AWP.seq (fun env pv hp => ∃ (x0 : Option Addr) (x2 : Int) (x3 : Bool) (x10a : Option Addr) (x10n : Nat) (x10c : Nat) (x12 : Int) (k8 : List Value), Sub (upd (upd (upd (upd (upd (upd E0 12 (sI x12)) 10 (sS x10a x10n x10c)) 8 (sR 8 0)) 3 (sB x3)) 2 (sI x2)) 0 (sP x0)) env ∧ Sub (upd V0 8 (75, k8)) pv ∧ (F101_j5 x0 x2 x3 x10a x10n x10c x12 k8 hp  K)) ?_ ?_
      ·refine AWP.rgn (F101_r20 (upd (upd (upd (upd (upd E0 10 (sS x10a x10n x10c)) 8 (sR 8 0)) 3 (sB x3)) 2 (sI x2)) 0 (sP x0)) k8 hp _) ?_ (Ru 0 (Ru 2 (Ru 3 (RefOk.p 8 8 0 (Ru 10 Rn) (fun e => by cases e))))) (Sc rfl (Sc rfl (Sc rfl (Sc rfl (Sc rfl Sn))))) (Sc rfl Sn)
       exact ⟨x0, x2, x3, x10a, x10n, x10c, 0, k8, (Sc rfl (Sc rfl (Sc rfl (Sc rfl (Sc rfl (Sc rfl Sn)))))), (Sc rfl Sn), h⟩
      ·rintro env pv hp ⟨x0, x2, x3, x10a, x10n, x10c, x12, k8, he, hv, h⟩
       refine AWP.sub (env' := (upd (upd (upd (upd (upd (upd E0 12 (sI x12)) 10 (sS x10a x10n x10c)) 8 (sR 8 0)) 3 (sB x3)) 2 (sI x2)) 0 (sP x0))) (pv' := (upd V0 8 (75, k8))) ?_ (Ru 0 (Ru 2 (Ru 3 (RefOk.p 8 8 0 (Ru 10 (Ru 12 Rn)) (fun e => by cases e))))) he hv (HSub.refl _)
       clear he hv
       unfold F101_j5 at h
       refine AWP.block ?_
       refine AWP.loop (σ := Int × (List Value)) (fun I s hp => F101_l6 x0 x2 x3 x10a x10n x10c  K I s.1 s.2 hp) (fun s => (upd (upd (upd (upd (upd (upd E0 12 (sI (s.1))) 10 (sS x10a x10n x10c)) 8 (sR 8 0)) 3 (sB x3)) 2 (sI x2)) 0 (sP x0))) (fun s => (upd V0 8 (75, s.2))) (x12, k8) h (fun s => (Ru 0 (Ru 2 (Ru 3 (RefOk.p 8 8 0 (Ru 10 (Ru 12 Rn)) (fun e => by cases e)))))) (Sc rfl (Sc rfl (Sc rfl (Sc rfl (Sc rfl (Sc rfl Sn)))))) (Sc rfl Sn) ?_
       intro I6 s hp h
       obtain ⟨x12, k8⟩ := s
       replace h : F101_l6 x0 x2 x3 x10a x10n x10c  K I6 x12 k8 hp := h
       unfold F101_l6 at h
       refine AWP.seq' ?_
       refine AWP.seq' ?_
       refine AWP.rgn (F101_r4 (upd (upd (upd (upd E0 8 (sR 8 0)) 3 (sB x3)) 2 (sI x2)) 0 (sP x0)) x10a x10n x10c x12 k8 hp _) ?_ (Ru 10 (Ru 12 (Ru 0 (Ru 2 (Ru 3 (RefOk.p 8 8 0 Rn (fun e => by cases e))))))) (Sc rfl (Sc rfl (Sc rfl (Sc rfl (Sc rfl (Sc rfl Sn)))))) (Sc rfl Sn)
       refine AWP.cond (t := (decide (x12 < x10n))) rfl (fun e => ?_) (fun e => ?_)
       ·replace h := ite2_t h e
        refine AWP.skip ?_
        refine AWP.seq (fun env pv hp => ∃ (x12 : Int) (k8 : List Value), Sub (upd (upd (upd (upd (upd (upd E0 12 (sI x12)) 10 (sS x10a x10n x10c)) 8 (sR 8 0)) 3 (sB x3)) 2 (sI x2)) 0 (sP x0)) env ∧ Sub (upd V0 8 (75, k8)) pv ∧ (F101_j7 x0 x2 x3 x10a x10n x10c x12 k8 hp I6 K)) ?_ ?_
        ·refine AWP.block ?_
         refine AWP.seq (fun env pv hp => ∃ (x12 : Int) (x13 : Int) (k8 : List Value), Sub (upd (upd (upd (upd (upd (upd (upd E0 13 (sI x13)) 12 (sI x12)) 10 (sS x10a x10n x10c)) 8 (sR 8 0)) 3 (sB x3)) 2 (sI x2)) 0 (sP x0)) env ∧ Sub (upd V0 8 (75, k8)) pv ∧ (F101_j8 x0 x2 x3 x10a x10n x10c x12 x13 k8 hp I6 K)) ?_ ?_
         ·refine AWP.rgn (F101_r19 (upd (upd (upd (upd (upd E0 12 (sI x12)) 10 (sS x10a x10n x10c)) 8 (sR 8 0)) 3 (sB x3)) 2 (sI x2)) x0 k8 hp _) ?_ (Ru 0 (Ru 2 (Ru 3 (RefOk.p 8 8 0 (Ru 10 (Ru 12 Rn)) (fun e => by cases e))))) (Sc rfl (Sc rfl (Sc rfl (Sc rfl (Sc rfl (Sc rfl Sn)))))) (Sc rfl Sn)
          refine mN h fun b_200 o_201 h => mV h fun v_202 h => mI h fun i_203 h => ?_
          exact ⟨x12, i_203, k8, (Sc rfl (Sc rfl (Sc rfl (Sc rfl (Sc rfl (Sc rfl (Sc rfl Sn))))))), (Sc rfl Sn), h⟩
         ·rintro env pv hp ⟨x12, x13, k8, he, hv, h⟩
          refine AWP.sub (env' := (upd (upd (upd (upd (upd (upd (upd E0 13 (sI x13)) 12 (sI x12)) 10 (sS x10a x10n x10c)) 8 (sR 8 0)) 3 (sB x3)) 2 (sI x2)) 0 (sP x0))) (pv' := (upd V0 8 (75, k8))) ?_ (Ru 0 (Ru 2 (Ru 3 (RefOk.p 8 8 0 (Ru 10 (Ru 12 (Ru 13 Rn))) (fun e => by cases e))))) he hv (HSub.refl _)
          clear he hv
          unfold F101_j8 at h
          refine AWP.block ?_
          refine AWP.loop (σ := Int × (List Value)) (fun I s hp => F101_l9 x0 x2 x3 x10a x10n x10c x12 I6 K I s.1 s.2 hp) (fun s => (upd (upd (upd (upd (upd (upd (upd E0 13 (sI (s.1))) 12 (sI x12)) 10 (sS x10a x10n x10c)) 8 (sR 8 0)) 3 (sB x3)) 2 (sI x2)) 0 (sP x0))) (fun s => (upd V0 8 (75, s.2))) (x13, k8) h (fun s => (Ru 0 (Ru 2 (Ru 3 (RefOk.p 8 8 0 (Ru 10 (Ru 12 (Ru 13 Rn))) (fun e => by cases e)))))) (Sc rfl (Sc rfl (Sc rfl (Sc rfl (Sc rfl (Sc rfl (Sc rfl Sn))))))) (Sc rfl Sn) ?_
          intro I9 s hp h
          obtain ⟨x13, k8⟩ := s
          replace h : F101_l9 x0 x2 x3 x10a x10n x10c x12 I6 K I9 x13 k8 hp := h
          unfold F101_l9 at h
          refine AWP.seq' ?_
          refine AWP.seq' ?_
          refine AWP.rgn (F101_r6 (upd (upd (upd (upd (upd E0 12 (sI x12)) 10 (sS x10a x10n x10c)) 8 (sR 8 0)) 3 (sB x3)) 2 (sI x2)) x0 x13 k8 hp _) ?_ (Ru 0 (Ru 13 (Ru 2 (Ru 3 (RefOk.p 8 8 0 (Ru 10 (Ru 12 Rn)) (fun e => by cases e)))))) (Sc rfl (Sc rfl (Sc rfl (Sc rfl (Sc rfl (Sc rfl (Sc rfl Sn))))))) (Sc rfl Sn)
          refine mN h fun b_4 o_5 h => mV h fun v_6 h => mI h fun i_7 h => ?_
          refine AWP.cond (t := (decide (x13 ≤ i_7))) rfl (fun e => ?_) (fun e => ?_)
          ·replace h := ite2_t h e
           refine AWP.skip ?_
           refine AWP.seq' ?_
           refine AWP.block ?_
           refine AWP.seq' ?_
           refine AWP.rgn (F101_r7 (upd (upd (upd (upd E0 8 (sR 8 0)) 3 (sB x3)) 2 (sI x2)) 0 (sP x0)) x10a x10n x10c x12 x13 k8 hp _) ?_ (Ru 10 (Ru 12 (Ru 13 (Ru 0 (Ru 2 (Ru 3 (RefOk.p 8 8 0 Rn (fun e => by cases e)))))))) (Sc rfl (Sc rfl (Sc rfl (Sc rfl (Sc rfl (Sc rfl (Sc rfl Sn))))))) (Sc rfl Sn)
           refine ⟨h.1, h.2.1, mN h.2.2 fun b_8 o_9 h => mL h fun l_10 h => mf h fun h => mf h fun h => mf h fun h => mf h fun h => ?_⟩
           refine AWP.seq (fun env pv hp => ∃ (x13 : Int) (x93 : Bool) (k8 : List Value) (k14 : List Value), Sub (upd (upd (upd (upd (upd (upd (upd (upd (upd E0 93 (sB x93)) 14 (sR 14 0)) 13 (sI x13)) 12 (sI x12)) 10 (sS x10a x10n x10c)) 8 (sR 8 0)) 3 (sB x3)) 2 (sI x2)) 0 (sP x0)) env ∧ Sub (upd (upd V0 14 (75, k14)) 8 (75, k8)) pv ∧ (F101_j10 x0 x2 x3 x10a x10n x10c x12 x13 x93 k8 k14 hp I6 I9 K)) ?_ ?_
           ·refine AWP.rgn (F101_r18 (upd (upd (upd E0 12 (sI x12)) 10 (sS x10a x10n x10c)) 8 (sR 8 0)) x0 x2 x3 x13 k8 (splice [.int .u8 0, .int .u8 0, .int .u8 0, .int .u8 0, .int .i64 0] 0 (List.set (splice [.int .u8 0, .int .u8 0, .int .u8 0, .int .u8 0, .int .i64 0] 0 l_10) 4 (.int .i64 x13))) hp _) ?_ (Ru 0 (Ru 2 (Ru 3 (Ru 13 (RefOk.p 14 14 0 (RefOk.p 8 8 0 (Ru 10 (Ru 12 Rn)) (fun e => by cases e)) (fun e => by cases e)))))) (Sc rfl (Sc rfl (Sc rfl (Sc rfl (Sc rfl (Sc rfl (Sc rfl (Sc rfl Sn)))))))) (Sc rfl (Sc rfl Sn))
            refine mt h (fun h => ?_) (fun h => ?_)
            ·refine mL h fun l_189 h => mC h fun u_190 h_191 h => mI h fun i_192 h => ?_
             exact ⟨x13, (decide (i_192 < 0)), k8, (splice [.int .u8 0, .int .u8 0, .int .u8 0, .int .u8 0, .int .i64 0] 0 (List.set (splice [.int .u8 0, .int .u8 0, .int .u8 0, .int .u8 0, .int .i64 0] 0 l_10) 4 (.int .i64 x13))), (Sc rfl (Sc rfl (Sc rfl (Sc rfl (Sc rfl (Sc rfl (Sc rfl (Sc rfl (Sc rfl Sn))))))))), (Sc rfl (Sc rfl Sn)), h⟩
            ·refine mC h fun u_193 h_194 h => mB h fun q_195 h => ?_
             refine mt h (fun h => ?_) (fun h => ?_)
             ·refine mL h fun l_196 h => mC h fun u_197 h_198 h => mI h fun i_199 h => ?_
              exact ⟨x13, (decide (i_199 < 0)), k8, (splice [.int .u8 0, .int .u8 0, .int .u8 0, .int .u8 0, .int .i64 0] 0 (List.set (splice [.int .u8 0, .int .u8 0, .int .u8 0, .int .u8 0, .int .i64 0] 0 l_10) 4 (.int .i64 x13))), (Sc rfl (Sc rfl (Sc rfl (Sc rfl (Sc rfl (Sc rfl (Sc rfl (Sc rfl (Sc rfl Sn))))))))), (Sc rfl (Sc rfl Sn)), h⟩
             ·exact ⟨x13, false, k8, (splice [.int .u8 0, .int .u8 0, .int .u8 0, .int .u8 0, .int .i64 0] 0 (List.set (splice [.int .u8 0, .int .u8 0, .int .u8 0, .int .u8 0, .int .i64 0] 0 l_10) 4 (.int .i64 x13))), (Sc rfl (Sc rfl (Sc rfl (Sc rfl (Sc rfl (Sc rfl (Sc rfl (Sc rfl (Sc rfl Sn))))))))), (Sc rfl (Sc rfl Sn)), h⟩
           ·rintro env pv hp ⟨x13, x93, k8, k14, he, hv, h⟩
            refine AWP.sub (env' := (upd (upd (upd (upd (upd (upd (upd (upd (upd E0 93 (sB x93)) 14 (sR 14 0)) 13 (sI x13)) 12 (sI x12)) 10 (sS x10a x10n x10c)) 8 (sR 8 0)) 3 (sB x3)) 2 (sI x2)) 0 (sP x0))) (pv' := (upd (upd V0 14 (75, k14)) 8 (75, k8))) ?_ (Ru 0 (Ru 2 (Ru 3 (RefOk.p 8 8 0 (Ru 10 (Ru 12 (Ru 13 (RefOk.p 14 14 0 (Ru 93 Rn) (fun e => by cases e))))) (fun e => by cases e))))) he hv (HSub.refl _)
            clear he hv
            unfold F101_j10 at h
            refine AWP.cond (t := x93) rfl (fun e => ?_) (fun e => ?_)
            ·replace h := ite2_t h e
             refine AWP.seq (fun env pv hp => ∃ (k8 : List Value) (k14 : List Value), Sub (upd (upd E0 14 (sR 14 0)) 8 (sR 8 0)) env ∧ Sub (upd (upd V0 14 (75, k14)) 8 (75, k8)) pv ∧ (F101_j11 k8 k14 hp I6 I9 K)) ?_ ?_
             ·refine AWP.rgnC (cf := [(1, 5), (1, 9), (5, 9), (6, 9)]) (c := [([true, true, true, true], true, [0, 1, 2, 3, 4, 5, 6, 7, 8, 9, 10, 11, 12, 13]), ([true, true, true, false], true, [0, 1, 2, 3, 4, 5, 7, 8, 9, 6, 10, 11, 12, 13]), ([true, true, false, true], false, [5, 6, 9, 5]), ([true, true, false, false], true, [0, 1, 2, 3, 4, 7, 8, 9, 5, 6, 10, 11, 12, 13]), ([true, false, true, true], false, [1, 5, 9, 1]), ([true, false, true, false], false, [1, 5, 9, 1]), ([true, false, false, true], false, [1, 6, 9, 1]), ([true, false, false, false], true, [0, 2, 3, 4, 7, 8, 9, 1, 5, 6, 10, 11, 12, 13]), ([false, true, true, true], true, [0, 2, 3, 4, 5, 1, 6, 7, 8, 9, 10, 11, 12, 13]), ([false, true, true, false], true, [0, 2, 3, 4, 5, 1, 7, 8, 9, 6, 10, 11, 12, 13]), ([false, true, false, true], false, [1, 9, 5, 1]), ([false, true, false, false], false, [1, 9, 5, 1]), ([false, false, true, true], false, [1, 6, 9, 1]), ([false, false, true, false], true, [0, 2, 3, 4, 5, 7, 8, 9, 1, 6, 10, 11, 12, 13]), ([false, false, false, true], false, [1, 6, 9, 5, 1]), ([false, false, false, false], true, [0, 2, 3, 4, 7, 8, 9, 5, 1, 6, 10, 11, 12, 13])]) (by kernel_rfl) (by kernel_rfl) (by kernel_rfl) (by kernel_rfl) (allO_t (Eq.mpr (F101_r9 (upd E0 8 (sR 8 0)) x0 k8 k14 hp _) ?_) (allO_t (Eq.mpr (F101_r10 (upd E0 8 (sR 8 0)) x0 k8 k14 hp _) ?_) (allO_f (allO_t (Eq.mpr (F101_r11 (upd E0 8 (sR 8 0)) x0 k8 k14 hp _) ?_) (allO_f (allO_f (allO_f (allO_t (Eq.mpr (F101_r12 (upd E0 8 (sR 8 0)) x0 k8 k14 hp _) ?_) (allO_t (Eq.mpr (F101_r13 (upd E0 8 (sR 8 0)) x0 k8 k14 hp _) ?_) (allO_t (Eq.mpr (F101_r14 (upd E0 8 (sR 8 0)) x0 k8 k14 hp _) ?_) (allO_f (allO_f (allO_f (allO_t (Eq.mpr (F101_r15 (upd E0 8 (sR 8 0)) x0 k8 k14 hp _) ?_) (allO_f (allO_t (Eq.mpr (F101_r16 (upd E0 8 (sR 8 0)) x0 k8 k14 hp _) ?_) trivial)))))))))))))))) (Ru 0 (RefOk.p 14 14 0 (RefOk.p 8 8 0 Rn (fun e => by cases e)) (fun e => by cases e))) (Sc rfl (Sc rfl (Sc rfl Sn))) (Sc rfl (Sc rfl Sn))
              ·replace h := h.1
               refine fun b_13 hb_b_13 => ?_
               replace h := h b_13 hb_b_13
               refine mN h fun b_14 o_15 h => mV h fun v_16 h => mS h fun a_17 n_18 c_19 h => mO h fun u_20 h_21 h => mS h fun a_22 n_23 c_24 h => mL h fun l_25 h => mf h fun h => mf h fun h => ?_
               refine fun b_26 hb_b_26 => ?_
               replace h := h b_26 hb_b_26
               refine mO h fun u_27 h_28 h => mS h fun a_29 n_30 c_31 h => mN h fun b_32 o_33 h => mw h fun h_34 h => ?_
               exact ⟨k8, k14, (Sc rfl (Sc rfl Sn)), (Sc rfl (Sc rfl Sn)), h⟩
              ·replace h := h.2.1
               refine fun b_35 hb_b_35 => ?_
               replace h := h b_35 hb_b_35
               refine mN h fun b_36 o_37 h => mV h fun v_38 h => mS h fun a_39 n_40 c_41 h => mL h fun l_42 h => mf h fun h => mf h fun h => ?_
               refine fun b_43 hb_b_43 => ?_
               replace h := h b_43 hb_b_43
               refine mO h fun u_44 h_45 h => mS h fun a_46 n_47 c_48 h => mO h fun u_49 h_50 h => mS h fun a_51 n_52 c_53 h => mN h fun b_54 o_55 h => mw h fun h_56 h => ?_
               exact ⟨k8, k14, (Sc rfl (Sc rfl Sn)), (Sc rfl (Sc rfl Sn)), h⟩
              ·replace h := h.2.2.1
               refine fun b_57 hb_b_57 => ?_
               replace h := h b_57 hb_b_57
               refine mN h fun b_58 o_59 h => mL h fun l_60 h => mf h fun h => mf h fun h => ?_
               refine fun b_61 hb_b_61 => ?_
               replace h := h b_61 hb_b_61
               refine mV h fun v_62 h => mS h fun a_63 n_64 c_65 h => mO h fun u_66 h_67 h => mS h fun a_68 n_69 c_70 h => mO h fun u_71 h_72 h => mS h fun a_73 n_74 c_75 h => mN h fun b_76 o_77 h => mw h fun h_78 h => ?_
               exact ⟨k8, k14, (Sc rfl (Sc rfl Sn)), (Sc rfl (Sc rfl Sn)), h⟩
              ·replace h := h.2.2.2.1
               refine mN h fun b_79 o_80 h => mL h fun l_81 h => mf h fun h => mf h fun h => ?_
               refine fun b_82 hb_b_82 => ?_
               replace h := h b_82 hb_b_82
               refine fun b_83 hb_b_83 => ?_
               replace h := h b_83 hb_b_83
               refine mV h fun v_84 h => mS h fun a_85 n_86 c_87 h => mO h fun u_88 h_89 h => mS h fun a_90 n_91 c_92 h => mO h fun u_93 h_94 h => mS h fun a_95 n_96 c_97 h => mN h fun b_98 o_99 h => mw h fun h_100 h => ?_
               exact ⟨k8, k14, (Sc rfl (Sc rfl Sn)), (Sc rfl (Sc rfl Sn)), h⟩
              ·replace h := h.2.2.2.2.1
               refine mN h fun b_101 o_102 h => mV h fun v_103 h => mS h fun a_104 n_105 c_106 h => ?_
               refine fun b_107 hb_b_107 => ?_
               replace h := h b_107 hb_b_107
               refine mO h fun u_108 h_109 h => mS h fun a_110 n_111 c_112 h => mL h fun l_113 h => mf h fun h => mf h fun h => ?_
               refine fun b_114 hb_b_114 => ?_
               replace h := h b_114 hb_b_114
               refine mO h fun u_115 h_116 h => mS h fun a_117 n_118 c_119 h => mN h fun b_120 o_121 h => mw h fun h_122 h => ?_
               exact ⟨k8, k14, (Sc rfl (Sc rfl Sn)), (Sc rfl (Sc rfl Sn)), h⟩
              ·replace h := h.2.2.2.2.2.1
               refine mN h fun b_123 o_124 h => mV h fun v_125 h => mS h fun a_126 n_127 c_128 h => ?_
               refine fun b_129 hb_b_129 => ?_
               replace h := h b_129 hb_b_129
               refine mL h fun l_130 h => mf h fun h => mf h fun h => ?_
               refine fun b_131 hb_b_131 => ?_
               replace h := h b_131 hb_b_131
               refine mO h fun u_132 h_133 h => mS h fun a_134 n_135 c_136 h => mO h fun u_137 h_138 h => mS h fun a_139 n_140 c_141 h => mN h fun b_142 o_143 h => mw h fun h_144 h => ?_
               exact ⟨k8, k14, (Sc rfl (Sc rfl Sn)), (Sc rfl (Sc rfl Sn)), h⟩
              ·replace h := h.2.2.2.2.2.2.1
               refine mN h fun b_145 o_146 h => mV h fun v_147 h => mS h fun a_148 n_149 c_150 h => mL h fun l_151 h => mf h fun h => mf h fun h => ?_
               refine fun b_152 hb_b_152 => ?_
               replace h := h b_152 hb_b_152
               refine fun b_153 hb_b_153 => ?_
               replace h := h b_153 hb_b_153
               refine mO h fun u_154 h_155 h => mS h fun a_156 n_157 c_158 h => mO h fun u_159 h_160 h => mS h fun a_161 n_162 c_163 h => mN h fun b_164 o_165 h => mw h fun h_166 h => ?_
               exact ⟨k8, k14, (Sc rfl (Sc rfl Sn)), (Sc rfl (Sc rfl Sn)), h⟩
              ·replace h := h.2.2.2.2.2.2.2
               refine mN h fun b_167 o_168 h => mL h fun l_169 h => mf h fun h => mf h fun h => ?_
               refine fun b_170 hb_b_170 => ?_
               replace h := h b_170 hb_b_170
               refine mV h fun v_171 h => mS h fun a_172 n_173 c_174 h => ?_
               refine fun b_175 hb_b_175 => ?_
               replace h := h b_175 hb_b_175
               refine mO h fun u_176 h_177 h => mS h fun a_178 n_179 c_180 h => mO h fun u_181 h_182 h => mS h fun a_183 n_184 c_185 h => mN h fun b_186 o_187 h => mw h fun h_188 h => ?_
               exact ⟨k8, k14, (Sc rfl (Sc rfl Sn)), (Sc rfl (Sc rfl Sn)), h⟩
             ·rintro env pv hp ⟨k8, k14, he, hv, h⟩
              refine AWP.sub (env' := (upd (upd E0 14 (sR 14 0)) 8 (sR 8 0))) (pv' := (upd (upd V0 14 (75, k14)) 8 (75, k8))) ?_ (RefOk.p 8 8 0 (RefOk.p 14 14 0 Rn (fun e => by cases e)) (fun e => by cases e)) he hv (HSub.refl _)
              clear he hv
              unfold F101_j11 at h
              refine AWP.seq' ?_
              refine AWP.rgn (F101_r8 E0 k8 k14 hp _) ?_ (RefOk.p 8 8 0 (RefOk.p 14 14 0 Rn (fun e => by cases e)) (fun e => by cases e)) (Sc rfl (Sc rfl Sn)) (Sc rfl (Sc rfl Sn))
              refine mL h fun l_11 h => mf h fun h => mf h fun h => mf h fun h => ?_
              refine AWP.ret ?_
              exact h
            ·replace h := ite2_f h e
             refine AWP.skip ?_
             refine AWP.rgn (F101_r17 (upd (upd (upd (upd (upd (upd E0 12 (sI x12)) 10 (sS x10a x10n x10c)) 8 (sR 8 0)) 3 (sB x3)) 2 (sI x2)) 0 (sP x0)) x13 k8 hp _) ?_ (Ru 13 (Ru 0 (Ru 2 (Ru 3 (RefOk.p 8 8 0 (Ru 10 (Ru 12 Rn)) (fun e => by cases e)))))) (Sc rfl (Sc rfl (Sc rfl (Sc rfl (Sc rfl (Sc rfl (Sc rfl Sn))))))) (Sc rfl Sn)
             exact ⟨((wr (x13 + 1)), k8), (Sc rfl (Sc rfl (Sc rfl (Sc rfl (Sc rfl (Sc rfl (Sc rfl Sn))))))), (Sc rfl Sn), h⟩
          ·replace h := ite2_f h e
           refine AWP.exit ?_
           exact ⟨x12, k8, (Sc rfl (Sc rfl (Sc rfl (Sc rfl (Sc rfl (Sc rfl Sn)))))), (Sc rfl Sn), h⟩
        ·rintro env pv hp ⟨x12, k8, he, hv, h⟩
         refine AWP.sub (env' := (upd (upd (upd (upd (upd (upd E0 12 (sI x12)) 10 (sS x10a x10n x10c)) 8 (sR 8 0)) 3 (sB x3)) 2 (sI x2)) 0 (sP x0))) (pv' := (upd V0 8 (75, k8))) ?_ (Ru 0 (Ru 2 (Ru 3 (RefOk.p 8 8 0 (Ru 10 (Ru 12 Rn)) (fun e => by cases e))))) he hv (HSub.refl _)
         clear he hv
         unfold F101_j7 at h
         refine AWP.rgn (F101_r5 (upd (upd (upd (upd (upd E0 10 (sS x10a x10n x10c)) 8 (sR 8 0)) 3 (sB x3)) 2 (sI x2)) 0 (sP x0)) x12 k8 hp _) ?_ (Ru 12 (Ru 0 (Ru 2 (Ru 3 (RefOk.p 8 8 0 (Ru 10 Rn) (fun e => by cases e)))))) (Sc rfl (Sc rfl (Sc rfl (Sc rfl (Sc rfl (Sc rfl Sn)))))) (Sc rfl Sn)
         exact ⟨((wr (x12 + 1)), k8), (Sc rfl (Sc rfl (Sc rfl (Sc rfl (Sc rfl (Sc rfl Sn)))))), (Sc rfl Sn), h⟩
       ·replace h := ite2_f h e
        refine AWP.exit ?_
        exact ⟨k8, (Sc rfl Sn), (Sc rfl Sn), h⟩
     ·rintro env pv hp ⟨k8, he, hv, h⟩
      refine AWP.sub (env' := (upd E0 8 (sR 8 0))) (pv' := (upd V0 8 (75, k8))) ?_ (RefOk.p 8 8 0 Rn (fun e => by cases e)) he hv (HSub.refl _)
      clear he hv
      unfold F101_j4 at h
      refine AWP.seq' ?_
      refine AWP.rgn (F101_r3 E0 k8 hp _) ?_ (RefOk.p 8 8 0 Rn (fun e => by cases e)) (Sc rfl Sn) (Sc rfl Sn)
      refine mf h fun h => mf h fun h => mf h fun h => ?_
      refine AWP.ret ?_
      exact h
end
end Go.Proofs

