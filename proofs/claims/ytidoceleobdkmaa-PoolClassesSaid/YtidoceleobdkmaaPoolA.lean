import Derived.Test.YtidoceleobdkmaaHlOrd
import Derived.Test.YtidoceleobdkmaaProg
set_option linter.unusedVariables false
set_option maxRecDepth 20000
namespace Go.Proofs
open Go Go.HL
-- 3 interpreter/interpreterlaw18.PoolSplits
theorem F3_r0 (e : Env) (hp : HP) (K : Env → PV → HP → Prop) : RW Try.prog 68 [] (opsAt Try.f3 [0]) (List.range 1) e V0 hp K =
    (K (upd e 6 (SV.val (Value.bool false))) V0 hp) := by kernel_rfl
theorem F3_r1 (e : Env) (hp : HP) (K : Env → PV → HP → Prop) : RW Try.prog 68 [] (opsAt Try.f3 [1, 0, 1, 0, 0]) (List.range 1) e V0 hp K =
    (K (upd e 6 (SV.val (Value.bool false))) V0 hp) := by kernel_rfl
theorem F3_r2 (e : Env) (x0 : Int) (hp : HP) (K : Env → PV → HP → Prop) : RW Try.prog 68 [] (opsAt Try.f3 [1, 1, 0, 1, 0, 0]) (List.range 8) (upd e 0 (SV.val (Value.int .i64 x0))) V0 hp K =
    (CF Try.prog 20 [(Value.int .i64 x0), (Value.int .i64 x0)] hp fun u1 h2 => (boolV u1 fun q3 => (ite2 (!q3) (CF Try.prog 21 [] h2 fun u4 h5 => (boolV u4 fun q6 => (K (upd (upd (upd (upd (upd (upd (upd (upd (upd e 0 (SV.val (Value.int .i64 x0))) 39 (SV.val (Value.int .i64 x0))) 40 (SV.val (Value.int .i64 x0))) 41 (SV.val (Value.bool q3))) 42 (SV.val (Value.bool (!q3)))) 43 (SV.val (Value.bool true))) 44 (SV.val (Value.bool q6))) 45 (SV.val (Value.bool q6))) 6 (SV.val (Value.bool q6))) V0 h5))) (K (upd (upd (upd (upd (upd (upd (upd (upd (upd e 0 (SV.val (Value.int .i64 x0))) 39 (SV.val (Value.int .i64 x0))) 40 (SV.val (Value.int .i64 x0))) 41 (SV.val (Value.bool q3))) 42 (SV.val (Value.bool (!q3)))) 43 (SV.val (Value.bool false))) 44 (SV.val undef)) 45 (SV.val (Value.bool false))) 6 (SV.val (Value.bool false))) V0 h2)))) := by kernel_rfl
theorem F3_r3 (e : Env) (hp : HP) (K : Env → PV → HP → Prop) : RW Try.prog 68 [] (opsAt Try.f3 [1, 1, 1, 0]) (List.range 1) e V0 hp K =
    (K (upd e 7 (SV.val (Value.int .i64 0))) V0 hp) := by kernel_rfl
theorem F3_r4 (e : Env) (x0 : Int) (x7 : Int) (hp : HP) (K : Env → PV → HP → Prop) : RW Try.prog 68 [] (opsAt Try.f3 [1, 1, 1, 1, 1, 0]) (List.range 11) (upd (upd e 7 (SV.val (Value.int .i64 x7))) 0 (SV.val (Value.int .i64 x0))) V0 hp K =
    (ite2 ((x7 : Int) == 1) (CF Try.prog 20 [(Value.int .i64 x0), (Value.int .i64 x0)] hp fun u1 h2 => (boolV u1 fun q3 => (ite2 q3 (CF Try.prog 21 [] h2 fun u4 h5 => (boolV u4 fun q6 => (K (upd (upd (upd (upd (upd (upd (upd (upd (upd (upd (upd (upd (upd e 7 (SV.val (Value.int .i64 x7))) 0 (SV.val (Value.int .i64 x0))) 58 (SV.val (Value.int .i64 x7))) 59 (SV.val (Value.bool ((x7 : Int) == 1)))) 60 (SV.val (Value.bool true))) 61 (SV.val (Value.int .i64 x0))) 62 (SV.val (Value.int .i64 x0))) 63 (SV.val (Value.bool q3))) 64 (SV.val (Value.bool q3))) 65 (SV.val (Value.bool true))) 66 (SV.val (Value.bool q6))) 67 (SV.val (Value.bool q6))) 6 (SV.val (Value.bool q6))) V0 h5))) (K (upd (upd (upd (upd (upd (upd (upd (upd (upd (upd (upd (upd (upd e 7 (SV.val (Value.int .i64 x7))) 0 (SV.val (Value.int .i64 x0))) 58 (SV.val (Value.int .i64 x7))) 59 (SV.val (Value.bool ((x7 : Int) == 1)))) 60 (SV.val (Value.bool true))) 61 (SV.val (Value.int .i64 x0))) 62 (SV.val (Value.int .i64 x0))) 63 (SV.val (Value.bool q3))) 64 (SV.val (Value.bool q3))) 65 (SV.val (Value.bool false))) 66 (SV.val undef)) 67 (SV.val (Value.bool false))) 6 (SV.val (Value.bool false))) V0 h2)))) (K (upd (upd (upd (upd (upd (upd (upd (upd (upd (upd (upd (upd (upd e 7 (SV.val (Value.int .i64 x7))) 0 (SV.val (Value.int .i64 x0))) 58 (SV.val (Value.int .i64 x7))) 59 (SV.val (Value.bool ((x7 : Int) == 1)))) 60 (SV.val (Value.bool false))) 61 (SV.val undef)) 62 (SV.val undef)) 63 (SV.val undef)) 64 (SV.val (Value.bool false))) 65 (SV.val (Value.bool false))) 66 (SV.val undef)) 67 (SV.val (Value.bool false))) 6 (SV.val (Value.bool false))) V0 hp)) := by kernel_rfl
def F3_j3 (x0 : Int) (x7 : Int) (hp : HP) (K : Value → HP → Prop) : Prop :=
  (ite2 ((x7 : Int) == 1) (CF Try.prog 20 [(Value.int .i64 x0), (Value.int .i64 x0)] hp fun u_7 h_8 => (boolV u_7 fun q_9 => (ite2 q_9 (CF Try.prog 21 [] h_8 fun u_10 h_11 => (boolV u_10 fun q_12 => (K (Value.bool q_12) h_11))) (K (Value.bool false) h_8)))) (K (Value.bool false) hp))
theorem F3_r5 (e : Env) (x47 : Int) (x48 : Int) (hp : HP) (K : Env → PV → HP → Prop) : RW Try.prog 68 [] (opsAt Try.f3 [1, 1, 1, 1, 0, 1, 0, 0, 0]) (List.range 1) (upd (upd e 48 (SV.val (Value.int .i64 x48))) 47 (SV.val (Value.int .i64 x47))) V0 hp K =
    (K (upd (upd (upd e 48 (SV.val (Value.int .i64 x48))) 47 (SV.val (Value.int .i64 x47))) 49 (SV.val (Value.bool (decide ((x48 : Int) < x47))))) V0 hp) := by kernel_rfl
theorem F3_r6 (e : Env) (x48 : Int) (hp : HP) (K : Env → PV → HP → Prop) : RW Try.prog 68 [] (opsAt Try.f3 [1, 1, 1, 1, 0, 1, 0, 0, 1, 1, 1]) (List.range 2) (upd e 48 (SV.val (Value.int .i64 x48))) V0 hp K =
    (K (upd (upd (upd e 48 (SV.val (Value.int .i64 x48))) 57 (SV.val (Value.int .i64 (IntKind.wrap .i64 (x48 + 1))))) 48 (SV.val (Value.int .i64 (IntKind.wrap .i64 (x48 + 1))))) V0 hp) := by kernel_rfl
def F3_j6 (x0 : Int) (x7 : Int) (x46a : Option Addr) (x46n : Nat) (x46c : Nat) (x47 : Int) (x48 : Int) (hp : HP) (I5 : (Int × Int) → HP → Prop) (K : Value → HP → Prop) : Prop :=
  (I5 (x7, (IntKind.wrap .i64 (x48 + 1))) hp)
theorem F3_r7 (e : Env) (x46a : Option Addr) (x46n : Nat) (x46c : Nat) (x48 : Int) (hp : HP) (K : Env → PV → HP → Prop) : RW Try.prog 68 [] (opsAt Try.f3 [1, 1, 1, 1, 0, 1, 0, 0, 1, 1, 0, 0, 0]) (List.range 3) (upd (upd e 48 (SV.val (Value.int .i64 x48))) 46 (SV.val (Value.slice x46a x46n x46c))) V0 hp K =
    ((0 ≤ (x48 : Int)) ∧ ((x48 : Int) < (x46n : Nat)) ∧ (ptrN x46a fun b1 o2 => (ldV (HP.cell hp b1 (o2 + Int.toNat x48 * 1)) fun v3 => (intV v3 .i64 fun i4 => (K (upd (upd (upd (upd (upd e 48 (SV.val (Value.int .i64 x48))) 46 (SV.val (Value.slice x46a x46n x46c))) 50 (SV.val (ptr b1 (o2 + Int.toNat x48 * 1)))) 51 (SV.val (Value.int .i64 i4))) 9 (SV.val (Value.int .i64 i4))) V0 hp))))) := by kernel_rfl
theorem F3_r8 (e : Env) (x0 : Int) (x9 : Int) (hp : HP) (K : Env → PV → HP → Prop) : RW Try.prog 68 [] (opsAt Try.f3 [1, 1, 1, 1, 0, 1, 0, 0, 1, 1, 0, 0, 1, 0]) (List.range 3) (upd (upd e 9 (SV.val (Value.int .i64 x9))) 0 (SV.val (Value.int .i64 x0))) V0 hp K =
    (CF Try.prog 20 [(Value.int .i64 x0), (Value.int .i64 x9)] hp fun u1 h2 => (boolV u1 fun q3 => (K (upd (upd (upd (upd (upd e 9 (SV.val (Value.int .i64 x9))) 0 (SV.val (Value.int .i64 x0))) 52 (SV.val (Value.int .i64 x0))) 53 (SV.val (Value.int .i64 x9))) 54 (SV.val (Value.bool q3))) V0 h2))) := by kernel_rfl
theorem F3_r9 (e : Env) (x7 : Int) (hp : HP) (K : Env → PV → HP → Prop) : RW Try.prog 68 [] (opsAt Try.f3 [1, 1, 1, 1, 0, 1, 0, 0, 1, 1, 0, 0, 1, 1, 0]) (List.range 3) (upd e 7 (SV.val (Value.int .i64 x7))) V0 hp K =
    (K (upd (upd (upd (upd e 7 (SV.val (Value.int .i64 x7))) 55 (SV.val (Value.int .i64 x7))) 56 (SV.val (Value.int .i64 (IntKind.wrap .i64 (x7 + 1))))) 7 (SV.val (Value.int .i64 (IntKind.wrap .i64 (x7 + 1))))) V0 hp) := by kernel_rfl
def F3_l5 (x0 : Int) (x46a : Option Addr) (x46n : Nat) (x46c : Nat) (x47 : Int) (K : Value → HP → Prop) (I5 : (Int × Int) → HP → Prop) (x7 : Int) (x48 : Int) (hp : HP) : Prop :=
  (ite2 (decide ((x48 : Int) < x47)) ((0 ≤ (x48 : Int)) ∧ ((x48 : Int) < (x46n : Nat)) ∧ (ptrN x46a fun b_13 o_14 => (ldV (HP.cell hp b_13 (o_14 + Int.toNat x48 * 1)) fun v_15 => (intV v_15 .i64 fun i_16 => (CF Try.prog 20 [(Value.int .i64 x0), (Value.int .i64 i_16)] hp fun u_17 h_18 => (boolV u_17 fun q_19 => (ite2 q_19 (F3_j6 x0 (IntKind.wrap .i64 (x7 + 1)) x46a x46n x46c x47 x48 h_18 I5 K) (F3_j6 x0 x7 x46a x46n x46c x47 x48 h_18 I5 K)))))))) (F3_j3 x0 x7 hp  K))
def F3_j4 (x0 : Int) (x7 : Int) (x46a : Option Addr) (x46n : Nat) (x46c : Nat) (x47 : Int) (x48 : Int) (hp : HP) (K : Value → HP → Prop) : Prop :=
  (LoopP (σ := Int × Int) (fun I s hp => F3_l5 x0 x46a x46n x46c x47  K I s.1 s.2 hp) (x7, x48) hp)
theorem F3_r10 (e : Env) (hp : HP) (K : Env → PV → HP → Prop) : RW Try.prog 68 [] (opsAt Try.f3 [1, 1, 1, 1, 0, 0]) (List.range 3) e V0 hp K =
    (∀ b1 : Nat, hp b1 = .none → (K (upd (upd (upd e 46 (SV.val (Value.slice (some ⟨b1, 0, none⟩) 4 4))) 47 (SV.val (Value.int .i64 (4 : Nat)))) 48 (SV.val (Value.int .i64 0))) V0 (HP.set hp b1 (.cells 3 [(Value.int .i64 0), (Value.int .i64 1), (Value.int .i64 1024), (Value.int .i64 1025)] 0)))) := by kernel_rfl
def F3_j2 (x0 : Int) (x38 : Bool) (hp : HP) (K : Value → HP → Prop) : Prop :=
  (ite2 x38 (CF Try.prog 20 [(Value.int .i64 x0), (Value.int .i64 x0)] hp fun u_1 h_2 => (boolV u_1 fun q_3 => (ite2 (!q_3) (CF Try.prog 21 [] h_2 fun u_4 h_5 => (boolV u_4 fun q_6 => (K (Value.bool q_6) h_5))) (K (Value.bool false) h_2)))) (∀ b_20 : Nat, hp b_20 = .none → (F3_j4 x0 0 (some ⟨b_20, 0, none⟩) 4 4 (4 : Nat) 0 (HP.set hp b_20 (.cells 3 [(Value.int .i64 0), (Value.int .i64 1), (Value.int .i64 1024), (Value.int .i64 1025)] 0))  K)))
theorem F3_r11 (e : Env) (x0 : Int) (hp : HP) (K : Env → PV → HP → Prop) : RW Try.prog 68 [] (opsAt Try.f3 [1, 1, 0, 0]) (List.range 6) (upd e 0 (SV.val (Value.int .i64 x0))) V0 hp K =
    (ite2 (decide ((x0 : Int) < 0)) (K (upd (upd (upd (upd (upd (upd (upd e 0 (SV.val (Value.int .i64 x0))) 33 (SV.val (Value.int .i64 x0))) 34 (SV.val (Value.bool (decide ((x0 : Int) < 0))))) 35 (SV.val (Value.bool true))) 36 (SV.val undef)) 37 (SV.val undef)) 38 (SV.val (Value.bool true))) V0 hp) (K (upd (upd (upd (upd (upd (upd (upd e 0 (SV.val (Value.int .i64 x0))) 33 (SV.val (Value.int .i64 x0))) 34 (SV.val (Value.bool (decide ((x0 : Int) < 0))))) 35 (SV.val (Value.bool false))) 36 (SV.val (Value.int .i64 x0))) 37 (SV.val (Value.bool (decide ((x0 : Int) > 65535))))) 38 (SV.val (Value.bool (decide ((x0 : Int) > 65535))))) V0 hp)) := by kernel_rfl
def F3_j1 (x0 : Int) (x32 : Bool) (hp : HP) (K : Value → HP → Prop) : Prop :=
  (ite2 x32 (K (Value.bool false) hp) (ite2 (decide ((x0 : Int) < 0)) (F3_j2 x0 true hp  K) (F3_j2 x0 (decide ((x0 : Int) > 65535)) hp  K)))
theorem F3_r12 (e : Env) (x0 : Int) (x1 : Int) (x2 : Int) (hp : HP) (K : Env → PV → HP → Prop) : RW Try.prog 68 [] (opsAt Try.f3 [1, 0, 0]) (List.range 23) (upd (upd (upd e 2 (SV.val (Value.int .i64 x2))) 1 (SV.val (Value.int .i64 x1))) 0 (SV.val (Value.int .i64 x0))) V0 hp K =
    (CF Try.prog 20 [(Value.int .i64 x0), (Value.int .i64 x1)] hp fun u1 h2 => (boolV u1 fun q3 => (CF Try.prog 20 [(Value.int .i64 x1), (Value.int .i64 x0)] h2 fun u4 h5 => (boolV u4 fun q6 => (ite2 (!(q3 == q6)) (K (upd (upd (upd (upd (upd (upd (upd (upd (upd (upd (upd (upd (upd (upd (upd (upd (upd (upd (upd (upd (upd (upd (upd (upd (upd (upd e 2 (SV.val (Value.int .i64 x2))) 1 (SV.val (Value.int .i64 x1))) 0 (SV.val (Value.int .i64 x0))) 10 (SV.val (Value.int .i64 x0))) 11 (SV.val (Value.int .i64 x1))) 12 (SV.val (Value.bool q3))) 13 (SV.val (Value.int .i64 x1))) 14 (SV.val (Value.int .i64 x0))) 15 (SV.val (Value.bool q6))) 16 (SV.val (Value.bool (!(q3 == q6))))) 17 (SV.val (Value.bool true))) 18 (SV.val undef)) 19 (SV.val undef)) 20 (SV.val undef)) 21 (SV.val undef)) 22 (SV.val undef)) 23 (SV.val undef)) 24 (SV.val undef)) 25 (SV.val undef)) 26 (SV.val undef)) 27 (SV.val undef)) 28 (SV.val undef)) 29 (SV.val undef)) 30 (SV.val undef)) 31 (SV.val undef)) 32 (SV.val (Value.bool true))) V0 h5) (CF Try.prog 20 [(Value.int .i64 x0), (Value.int .i64 x1)] h5 fun u7 h8 => (boolV u7 fun q9 => (ite2 q9 (CF Try.prog 20 [(Value.int .i64 x1), (Value.int .i64 x2)] h8 fun u10 h11 => (boolV u10 fun q12 => (ite2 q12 (CF Try.prog 20 [(Value.int .i64 x0), (Value.int .i64 x2)] h11 fun u13 h14 => (boolV u13 fun q15 => (K (upd (upd (upd (upd (upd (upd (upd (upd (upd (upd (upd (upd (upd (upd (upd (upd (upd (upd (upd (upd (upd (upd (upd (upd (upd (upd e 2 (SV.val (Value.int .i64 x2))) 1 (SV.val (Value.int .i64 x1))) 0 (SV.val (Value.int .i64 x0))) 10 (SV.val (Value.int .i64 x0))) 11 (SV.val (Value.int .i64 x1))) 12 (SV.val (Value.bool q3))) 13 (SV.val (Value.int .i64 x1))) 14 (SV.val (Value.int .i64 x0))) 15 (SV.val (Value.bool q6))) 16 (SV.val (Value.bool (!(q3 == q6))))) 17 (SV.val (Value.bool false))) 18 (SV.val (Value.int .i64 x0))) 19 (SV.val (Value.int .i64 x1))) 20 (SV.val (Value.bool q9))) 21 (SV.val (Value.bool true))) 22 (SV.val (Value.int .i64 x1))) 23 (SV.val (Value.int .i64 x2))) 24 (SV.val (Value.bool q12))) 25 (SV.val (Value.bool q12))) 26 (SV.val (Value.bool true))) 27 (SV.val (Value.int .i64 x0))) 28 (SV.val (Value.int .i64 x2))) 29 (SV.val (Value.bool q15))) 30 (SV.val (Value.bool (!q15)))) 31 (SV.val (Value.bool (!q15)))) 32 (SV.val (Value.bool (!q15)))) V0 h14))) (K (upd (upd (upd (upd (upd (upd (upd (upd (upd (upd (upd (upd (upd (upd (upd (upd (upd (upd (upd (upd (upd (upd (upd (upd (upd (upd e 2 (SV.val (Value.int .i64 x2))) 1 (SV.val (Value.int .i64 x1))) 0 (SV.val (Value.int .i64 x0))) 10 (SV.val (Value.int .i64 x0))) 11 (SV.val (Value.int .i64 x1))) 12 (SV.val (Value.bool q3))) 13 (SV.val (Value.int .i64 x1))) 14 (SV.val (Value.int .i64 x0))) 15 (SV.val (Value.bool q6))) 16 (SV.val (Value.bool (!(q3 == q6))))) 17 (SV.val (Value.bool false))) 18 (SV.val (Value.int .i64 x0))) 19 (SV.val (Value.int .i64 x1))) 20 (SV.val (Value.bool q9))) 21 (SV.val (Value.bool true))) 22 (SV.val (Value.int .i64 x1))) 23 (SV.val (Value.int .i64 x2))) 24 (SV.val (Value.bool q12))) 25 (SV.val (Value.bool q12))) 26 (SV.val (Value.bool false))) 27 (SV.val undef)) 28 (SV.val undef)) 29 (SV.val undef)) 30 (SV.val undef)) 31 (SV.val (Value.bool false))) 32 (SV.val (Value.bool false))) V0 h11)))) (K (upd (upd (upd (upd (upd (upd (upd (upd (upd (upd (upd (upd (upd (upd (upd (upd (upd (upd (upd (upd (upd (upd (upd (upd (upd (upd e 2 (SV.val (Value.int .i64 x2))) 1 (SV.val (Value.int .i64 x1))) 0 (SV.val (Value.int .i64 x0))) 10 (SV.val (Value.int .i64 x0))) 11 (SV.val (Value.int .i64 x1))) 12 (SV.val (Value.bool q3))) 13 (SV.val (Value.int .i64 x1))) 14 (SV.val (Value.int .i64 x0))) 15 (SV.val (Value.bool q6))) 16 (SV.val (Value.bool (!(q3 == q6))))) 17 (SV.val (Value.bool false))) 18 (SV.val (Value.int .i64 x0))) 19 (SV.val (Value.int .i64 x1))) 20 (SV.val (Value.bool q9))) 21 (SV.val (Value.bool false))) 22 (SV.val undef)) 23 (SV.val undef)) 24 (SV.val undef)) 25 (SV.val (Value.bool false))) 26 (SV.val (Value.bool false))) 27 (SV.val undef)) 28 (SV.val undef)) 29 (SV.val undef)) 30 (SV.val undef)) 31 (SV.val (Value.bool false))) 32 (SV.val (Value.bool false))) V0 h8))))))))) := by kernel_rfl
def F3 (x0 : Int) (x1 : Int) (x2 : Int) (hp : HP) (K : Value → HP → Prop) : Prop :=
  (CF Try.prog 20 [(Value.int .i64 x0), (Value.int .i64 x1)] hp fun u_21 h_22 => (boolV u_21 fun q_23 => (CF Try.prog 20 [(Value.int .i64 x1), (Value.int .i64 x0)] h_22 fun u_24 h_25 => (boolV u_24 fun q_26 => (ite2 (!(q_23 == q_26)) (F3_j1 x0 true h_25  K) (CF Try.prog 20 [(Value.int .i64 x0), (Value.int .i64 x1)] h_25 fun u_27 h_28 => (boolV u_27 fun q_29 => (ite2 q_29 (CF Try.prog 20 [(Value.int .i64 x1), (Value.int .i64 x2)] h_28 fun u_30 h_31 => (boolV u_30 fun q_32 => (ite2 q_32 (CF Try.prog 20 [(Value.int .i64 x0), (Value.int .i64 x2)] h_31 fun u_33 h_34 => (boolV u_33 fun q_35 => (F3_j1 x0 (!q_35) h_34  K))) (F3_j1 x0 false h_31  K)))) (F3_j1 x0 false h_28  K)))))))))
noncomputable def F3_code : Code := (.seq (.region 0 (opsAt Try.f3 [0]) false) (.seq (.seq (.region 1 (opsAt Try.f3 [1, 0, 0]) false) (.cond (.tmp 32) (.seq (.region 2 (opsAt Try.f3 [1, 0, 1, 0, 0]) false) .ret) .skip)) (.seq (.seq (.region 3 (opsAt Try.f3 [1, 1, 0, 0]) false) (.cond (.tmp 38) (.seq (.region 4 (opsAt Try.f3 [1, 1, 0, 1, 0, 0]) false) .ret) .skip)) (.seq (.region 5 (opsAt Try.f3 [1, 1, 1, 0]) false) (.seq (.seq (.region 6 (opsAt Try.f3 [1, 1, 1, 1, 0, 0]) false) (.block 0 (.loop (.seq (.region 7 (opsAt Try.f3 [1, 1, 1, 1, 0, 1, 0, 0, 0]) false) (.seq (.cond (.tmp 49) .skip (.exit 0)) (.seq (.block 1 (.seq (.region 8 (opsAt Try.f3 [1, 1, 1, 1, 0, 1, 0, 0, 1, 1, 0, 0, 0]) false) (.seq (.region 9 (opsAt Try.f3 [1, 1, 1, 1, 0, 1, 0, 0, 1, 1, 0, 0, 1, 0]) false) (.cond (.tmp 54) (.region 10 (opsAt Try.f3 [1, 1, 1, 1, 0, 1, 0, 0, 1, 1, 0, 0, 1, 1, 0]) false) .skip)))) (.region 11 (opsAt Try.f3 [1, 1, 1, 1, 0, 1, 0, 0, 1, 1, 1]) false))))))) (.seq (.region 12 (opsAt Try.f3 [1, 1, 1, 1, 1, 0]) false) .ret))))))
theorem F3_body : Try.f3.body = some F3_code := by kernel_rfl
theorem F3_ok (x0 : Int) (x1 : Int) (x2 : Int) (hp : HP) (K : Value → HP → Prop) (h : F3 x0 x1 x2 hp K) : CF Try.prog 3 [(Value.int .i64 x0), (Value.int .i64 x1), (Value.int .i64 x2)] hp K := by
  refine ⟨by kernel_rfl, AC.intro (N := 68) Try.func3 F3_body rfl (Nat.le_of_ble_eq_true rfl) ?_⟩
  unfold F3 at h
  unfold F3_code
  refine AWP.seq' ?_
  refine AWP.rgn (F3_r0 (upd (upd (upd E0 2 (SV.val (Value.int .i64 x2))) 1 (SV.val (Value.int .i64 x1))) 0 (SV.val (Value.int .i64 x0)))  hp _) ?_ (RefOk.v 0 _ (RefOk.v 1 _ (RefOk.v 2 _ (RefOk.nil _)))) (Sub.cons rfl (Sub.cons rfl (Sub.cons rfl (Sub.nil _)))) (Sub.nil _)
  refine AWP.seq' ?_
  refine AWP.seq (fun env pv hp => ∃ (x0 : Int) (x32 : Bool), Sub (upd (upd E0 32 (SV.val (Value.bool x32))) 0 (SV.val (Value.int .i64 x0))) env ∧ Sub V0 pv ∧ (F3_j1 x0 x32 hp  K)) ?_ ?_
  · refine AWP.rgn (F3_r12 E0 x0 x1 x2 hp _) ?_ (RefOk.v 0 _ (RefOk.v 1 _ (RefOk.v 2 _ (RefOk.nil _)))) (Sub.cons rfl (Sub.cons rfl (Sub.cons rfl (Sub.nil _)))) (Sub.nil _)
    refine CF_mono h (fun u_21 h_22 h => ?_)
    refine boolV_mono h (fun q_23 h => ?_)
    refine CF_mono h (fun u_24 h_25 h => ?_)
    refine boolV_mono h (fun q_26 h => ?_)
    refine ite2_mono h (fun h => ?_) (fun h => ?_)
    · exact ⟨x0, true, (Sub.cons rfl (Sub.cons rfl (Sub.nil _))), (Sub.nil _), h⟩
    · refine CF_mono h (fun u_27 h_28 h => ?_)
      refine boolV_mono h (fun q_29 h => ?_)
      refine ite2_mono h (fun h => ?_) (fun h => ?_)
      · refine CF_mono h (fun u_30 h_31 h => ?_)
        refine boolV_mono h (fun q_32 h => ?_)
        refine ite2_mono h (fun h => ?_) (fun h => ?_)
        · refine CF_mono h (fun u_33 h_34 h => ?_)
          refine boolV_mono h (fun q_35 h => ?_)
          exact ⟨x0, (!q_35), (Sub.cons rfl (Sub.cons rfl (Sub.nil _))), (Sub.nil _), h⟩
        · exact ⟨x0, false, (Sub.cons rfl (Sub.cons rfl (Sub.nil _))), (Sub.nil _), h⟩
      · exact ⟨x0, false, (Sub.cons rfl (Sub.cons rfl (Sub.nil _))), (Sub.nil _), h⟩
  · rintro env pv hp ⟨x0, x32, he, hv, h⟩
    refine AWP.sub (env' := (upd (upd E0 32 (SV.val (Value.bool x32))) 0 (SV.val (Value.int .i64 x0)))) (pv' := V0) ?_ (RefOk.v 0 _ (RefOk.v 32 _ (RefOk.nil _))) he hv (HSub.refl _)
    clear he hv
    unfold F3_j1 at h
    refine AWP.cond (t := x32) rfl (fun e => ?_) (fun e => ?_)
    · replace h := ite2_t h e
      refine AWP.seq' ?_
      refine AWP.rgn (F3_r1 E0  hp _) ?_ (RefOk.nil _) (Sub.nil _) (Sub.nil _)
      refine AWP.ret ?_
      exact h
    · replace h := ite2_f h e
      refine AWP.skip ?_
      refine AWP.seq' ?_
      refine AWP.seq (fun env pv hp => ∃ (x0 : Int) (x38 : Bool), Sub (upd (upd E0 38 (SV.val (Value.bool x38))) 0 (SV.val (Value.int .i64 x0))) env ∧ Sub V0 pv ∧ (F3_j2 x0 x38 hp  K)) ?_ ?_
      · refine AWP.rgn (F3_r11 E0 x0 hp _) ?_ (RefOk.v 0 _ (RefOk.nil _)) (Sub.cons rfl (Sub.nil _)) (Sub.nil _)
        refine ite2_mono h (fun h => ?_) (fun h => ?_)
        · exact ⟨x0, true, (Sub.cons rfl (Sub.cons rfl (Sub.nil _))), (Sub.nil _), h⟩
        · exact ⟨x0, (decide ((x0 : Int) > 65535)), (Sub.cons rfl (Sub.cons rfl (Sub.nil _))), (Sub.nil _), h⟩
      · rintro env pv hp ⟨x0, x38, he, hv, h⟩
        refine AWP.sub (env' := (upd (upd E0 38 (SV.val (Value.bool x38))) 0 (SV.val (Value.int .i64 x0)))) (pv' := V0) ?_ (RefOk.v 0 _ (RefOk.v 38 _ (RefOk.nil _))) he hv (HSub.refl _)
        clear he hv
        unfold F3_j2 at h
        refine AWP.cond (t := x38) rfl (fun e => ?_) (fun e => ?_)
        · replace h := ite2_t h e
          refine AWP.seq' ?_
          refine AWP.rgn (F3_r2 E0 x0 hp _) ?_ (RefOk.v 0 _ (RefOk.nil _)) (Sub.cons rfl (Sub.nil _)) (Sub.nil _)
          refine CF_mono h (fun u_1 h_2 h => ?_)
          refine boolV_mono h (fun q_3 h => ?_)
          refine ite2_mono h (fun h => ?_) (fun h => ?_)
          · refine CF_mono h (fun u_4 h_5 h => ?_)
            refine boolV_mono h (fun q_6 h => ?_)
            refine AWP.ret ?_
            exact h
          · refine AWP.ret ?_
            exact h
        · replace h := ite2_f h e
          refine AWP.skip ?_
          refine AWP.seq' ?_
          refine AWP.rgn (F3_r3 (upd E0 0 (SV.val (Value.int .i64 x0)))  hp _) ?_ (RefOk.v 0 _ (RefOk.nil _)) (Sub.cons rfl (Sub.nil _)) (Sub.nil _)
          refine AWP.seq (fun env pv hp => ∃ (x0 : Int) (x7 : Int), Sub (upd (upd E0 7 (SV.val (Value.int .i64 x7))) 0 (SV.val (Value.int .i64 x0))) env ∧ Sub V0 pv ∧ (F3_j3 x0 x7 hp  K)) ?_ ?_
          · refine AWP.seq (fun env pv hp => ∃ (x0 : Int) (x7 : Int) (x46a : Option Addr) (x46n : Nat) (x46c : Nat) (x47 : Int) (x48 : Int), Sub (upd (upd (upd (upd (upd E0 48 (SV.val (Value.int .i64 x48))) 47 (SV.val (Value.int .i64 x47))) 46 (SV.val (Value.slice x46a x46n x46c))) 7 (SV.val (Value.int .i64 x7))) 0 (SV.val (Value.int .i64 x0))) env ∧ Sub V0 pv ∧ (F3_j4 x0 x7 x46a x46n x46c x47 x48 hp  K)) ?_ ?_
            · refine AWP.rgn (F3_r10 (upd (upd E0 7 (SV.val (Value.int .i64 0))) 0 (SV.val (Value.int .i64 x0)))  hp _) ?_ (RefOk.v 0 _ (RefOk.v 7 _ (RefOk.nil _))) (Sub.cons rfl (Sub.cons rfl (Sub.nil _))) (Sub.nil _)
              refine fun b_20 hb_b_20 => ?_
              replace h := h b_20 hb_b_20
              exact ⟨x0, 0, (some ⟨b_20, 0, none⟩), 4, 4, (4 : Nat), 0, (Sub.cons rfl (Sub.cons rfl (Sub.cons rfl (Sub.cons rfl (Sub.cons rfl (Sub.nil _)))))), (Sub.nil _), h⟩
            · rintro env pv hp ⟨x0, x7, x46a, x46n, x46c, x47, x48, he, hv, h⟩
              refine AWP.sub (env' := (upd (upd (upd (upd (upd E0 48 (SV.val (Value.int .i64 x48))) 47 (SV.val (Value.int .i64 x47))) 46 (SV.val (Value.slice x46a x46n x46c))) 7 (SV.val (Value.int .i64 x7))) 0 (SV.val (Value.int .i64 x0)))) (pv' := V0) ?_ (RefOk.v 0 _ (RefOk.v 7 _ (RefOk.v 46 _ (RefOk.v 47 _ (RefOk.v 48 _ (RefOk.nil _)))))) he hv (HSub.refl _)
              clear he hv
              unfold F3_j4 at h
              refine AWP.block ?_
              refine AWP.loop (σ := Int × Int) (fun I s hp => F3_l5 x0 x46a x46n x46c x47  K I s.1 s.2 hp) (fun s => (upd (upd (upd (upd (upd E0 48 (SV.val (Value.int .i64 s.2))) 47 (SV.val (Value.int .i64 x47))) 46 (SV.val (Value.slice x46a x46n x46c))) 7 (SV.val (Value.int .i64 s.1))) 0 (SV.val (Value.int .i64 x0)))) (fun s => V0) (x7, x48) h (fun s => (RefOk.v 0 _ (RefOk.v 7 _ (RefOk.v 46 _ (RefOk.v 47 _ (RefOk.v 48 _ (RefOk.nil _))))))) (Sub.cons rfl (Sub.cons rfl (Sub.cons rfl (Sub.cons rfl (Sub.cons rfl (Sub.nil _)))))) (Sub.nil _) ?_
              intro I5 s hp h
              obtain ⟨x7, x48⟩ := s
              replace h : F3_l5 x0 x46a x46n x46c x47  K I5 x7 x48 hp := h
              unfold F3_l5 at h
              refine AWP.seq' ?_
              refine AWP.rgn (F3_r5 (upd (upd (upd E0 46 (SV.val (Value.slice x46a x46n x46c))) 7 (SV.val (Value.int .i64 x7))) 0 (SV.val (Value.int .i64 x0))) x47 x48 hp _) ?_ (RefOk.v 47 _ (RefOk.v 48 _ (RefOk.v 0 _ (RefOk.v 7 _ (RefOk.v 46 _ (RefOk.nil _)))))) (Sub.cons rfl (Sub.cons rfl (Sub.cons rfl (Sub.cons rfl (Sub.cons rfl (Sub.nil _)))))) (Sub.nil _)
              refine AWP.seq' ?_
              refine AWP.cond (t := (decide ((x48 : Int) < x47))) rfl (fun e => ?_) (fun e => ?_)
              · replace h := ite2_t h e
                refine AWP.skip ?_
                refine AWP.seq (fun env pv hp => ∃ (x7 : Int) (x48 : Int), Sub (upd (upd (upd (upd (upd E0 48 (SV.val (Value.int .i64 x48))) 47 (SV.val (Value.int .i64 x47))) 46 (SV.val (Value.slice x46a x46n x46c))) 7 (SV.val (Value.int .i64 x7))) 0 (SV.val (Value.int .i64 x0))) env ∧ Sub V0 pv ∧ (F3_j6 x0 x7 x46a x46n x46c x47 x48 hp I5 K)) ?_ ?_
                · refine AWP.block ?_
                  refine AWP.seq' ?_
                  refine AWP.rgn (F3_r7 (upd (upd (upd E0 47 (SV.val (Value.int .i64 x47))) 7 (SV.val (Value.int .i64 x7))) 0 (SV.val (Value.int .i64 x0))) x46a x46n x46c x48 hp _) ?_ (RefOk.v 46 _ (RefOk.v 48 _ (RefOk.v 0 _ (RefOk.v 7 _ (RefOk.v 47 _ (RefOk.nil _)))))) (Sub.cons rfl (Sub.cons rfl (Sub.cons rfl (Sub.cons rfl (Sub.cons rfl (Sub.nil _)))))) (Sub.nil _)
                  refine ⟨h.1, h.2.1, ?_⟩
                  replace h := h.2.2
                  refine ptrN_mono h (fun b_13 o_14 h => ?_)
                  refine ldV_mono h (fun v_15 h => ?_)
                  refine intV_mono h (fun i_16 h => ?_)
                  refine AWP.seq' ?_
                  refine AWP.rgn (F3_r8 (upd (upd (upd (upd E0 48 (SV.val (Value.int .i64 x48))) 47 (SV.val (Value.int .i64 x47))) 46 (SV.val (Value.slice x46a x46n x46c))) 7 (SV.val (Value.int .i64 x7))) x0 i_16 hp _) ?_ (RefOk.v 0 _ (RefOk.v 9 _ (RefOk.v 7 _ (RefOk.v 46 _ (RefOk.v 47 _ (RefOk.v 48 _ (RefOk.nil _))))))) (Sub.cons rfl (Sub.cons rfl (Sub.cons rfl (Sub.cons rfl (Sub.cons rfl (Sub.cons rfl (Sub.nil _))))))) (Sub.nil _)
                  refine CF_mono h (fun u_17 h_18 h => ?_)
                  refine boolV_mono h (fun q_19 h => ?_)
                  refine AWP.cond (t := q_19) rfl (fun e => ?_) (fun e => ?_)
                  · replace h := ite2_t h e
                    refine AWP.rgn (F3_r9 (upd (upd (upd (upd E0 48 (SV.val (Value.int .i64 x48))) 47 (SV.val (Value.int .i64 x47))) 46 (SV.val (Value.slice x46a x46n x46c))) 0 (SV.val (Value.int .i64 x0))) x7 h_18 _) ?_ (RefOk.v 7 _ (RefOk.v 0 _ (RefOk.v 46 _ (RefOk.v 47 _ (RefOk.v 48 _ (RefOk.nil _)))))) (Sub.cons rfl (Sub.cons rfl (Sub.cons rfl (Sub.cons rfl (Sub.cons rfl (Sub.nil _)))))) (Sub.nil _)
                    exact ⟨(IntKind.wrap .i64 (x7 + 1)), x48, (Sub.cons rfl (Sub.cons rfl (Sub.cons rfl (Sub.cons rfl (Sub.cons rfl (Sub.nil _)))))), (Sub.nil _), h⟩
                  · replace h := ite2_f h e
                    refine AWP.skip ?_
                    exact ⟨x7, x48, (Sub.cons rfl (Sub.cons rfl (Sub.cons rfl (Sub.cons rfl (Sub.cons rfl (Sub.nil _)))))), (Sub.nil _), h⟩
                · rintro env pv hp ⟨x7, x48, he, hv, h⟩
                  refine AWP.sub (env' := (upd (upd (upd (upd (upd E0 48 (SV.val (Value.int .i64 x48))) 47 (SV.val (Value.int .i64 x47))) 46 (SV.val (Value.slice x46a x46n x46c))) 7 (SV.val (Value.int .i64 x7))) 0 (SV.val (Value.int .i64 x0)))) (pv' := V0) ?_ (RefOk.v 0 _ (RefOk.v 7 _ (RefOk.v 46 _ (RefOk.v 47 _ (RefOk.v 48 _ (RefOk.nil _)))))) he hv (HSub.refl _)
                  clear he hv
                  unfold F3_j6 at h
                  refine AWP.rgn (F3_r6 (upd (upd (upd (upd E0 47 (SV.val (Value.int .i64 x47))) 46 (SV.val (Value.slice x46a x46n x46c))) 7 (SV.val (Value.int .i64 x7))) 0 (SV.val (Value.int .i64 x0))) x48 hp _) ?_ (RefOk.v 48 _ (RefOk.v 0 _ (RefOk.v 7 _ (RefOk.v 46 _ (RefOk.v 47 _ (RefOk.nil _)))))) (Sub.cons rfl (Sub.cons rfl (Sub.cons rfl (Sub.cons rfl (Sub.cons rfl (Sub.nil _)))))) (Sub.nil _)
                  exact ⟨(x7, (IntKind.wrap .i64 (x48 + 1))), (Sub.cons rfl (Sub.cons rfl (Sub.cons rfl (Sub.cons rfl (Sub.cons rfl (Sub.nil _)))))), (Sub.nil _), h⟩
              · replace h := ite2_f h e
                refine AWP.exit ?_
                exact ⟨x0, x7, (Sub.cons rfl (Sub.cons rfl (Sub.nil _))), (Sub.nil _), h⟩
          · rintro env pv hp ⟨x0, x7, he, hv, h⟩
            refine AWP.sub (env' := (upd (upd E0 7 (SV.val (Value.int .i64 x7))) 0 (SV.val (Value.int .i64 x0)))) (pv' := V0) ?_ (RefOk.v 0 _ (RefOk.v 7 _ (RefOk.nil _))) he hv (HSub.refl _)
            clear he hv
            unfold F3_j3 at h
            refine AWP.seq' ?_
            refine AWP.rgn (F3_r4 E0 x0 x7 hp _) ?_ (RefOk.v 0 _ (RefOk.v 7 _ (RefOk.nil _))) (Sub.cons rfl (Sub.cons rfl (Sub.nil _))) (Sub.nil _)
            refine ite2_mono h (fun h => ?_) (fun h => ?_)
            · refine CF_mono h (fun u_7 h_8 h => ?_)
              refine boolV_mono h (fun q_9 h => ?_)
              refine ite2_mono h (fun h => ?_) (fun h => ?_)
              · refine CF_mono h (fun u_10 h_11 h => ?_)
                refine boolV_mono h (fun q_12 h => ?_)
                refine AWP.ret ?_
                exact h
              · refine AWP.ret ?_
                exact h
            · refine AWP.ret ?_
              exact h

-- 20 interpreter/pool.Class
theorem F20_r0 (e : Env) (hp : HP) (K : Env → PV → HP → Prop) : RW Try.prog 25 [] (opsAt Try.f20 [0]) (List.range 1) e V0 hp K =
    (K (upd e 4 (SV.val (Value.bool false))) V0 hp) := by kernel_rfl
theorem F20_r1 (e : Env) (x0 : Int) (x1 : Int) (hp : HP) (K : Env → PV → HP → Prop) : RW Try.prog 25 [] (opsAt Try.f20 [1, 0]) (List.range 21) (upd (upd e 1 (SV.val (Value.int .i64 x1))) 0 (SV.val (Value.int .i64 x0))) V0 hp K =
    (CF Try.prog 74 [(Value.int .i64 x0)] hp fun u1 h2 => (boolV u1 fun q3 => (ite2 q3 (CF Try.prog 74 [(Value.int .i64 x1)] h2 fun u4 h5 => (boolV u4 fun q6 => (ite2 q6 (ite2 ((decide ((x0 : Int) < 1024)) == (decide ((x1 : Int) < 1024))) (((2 : Int) ≠ 0) ∧ (((2 : Int) ≠ 0) ∧ (K (upd (upd (upd (upd (upd (upd (upd (upd (upd (upd (upd (upd (upd (upd (upd (upd (upd (upd (upd (upd (upd (upd (upd e 1 (SV.val (Value.int .i64 x1))) 0 (SV.val (Value.int .i64 x0))) 5 (SV.val (Value.int .i64 x0))) 6 (SV.val (Value.bool q3))) 7 (SV.val (Value.bool true))) 8 (SV.val (Value.int .i64 x1))) 9 (SV.val (Value.bool q6))) 10 (SV.val (Value.bool q6))) 11 (SV.val (Value.bool true))) 12 (SV.val (Value.int .i64 x0))) 13 (SV.val (Value.bool (decide ((x0 : Int) < 1024))))) 14 (SV.val (Value.int .i64 x1))) 15 (SV.val (Value.bool (decide ((x1 : Int) < 1024))))) 16 (SV.val (Value.bool ((decide ((x0 : Int) < 1024)) == (decide ((x1 : Int) < 1024)))))) 17 (SV.val (Value.bool ((decide ((x0 : Int) < 1024)) == (decide ((x1 : Int) < 1024)))))) 18 (SV.val (Value.bool true))) 19 (SV.val (Value.int .i64 x0))) 20 (SV.val (Value.int .i64 (Int.tmod x0 2)))) 21 (SV.val (Value.int .i64 x1))) 22 (SV.val (Value.int .i64 (Int.tmod x1 2)))) 23 (SV.val (Value.bool (((Int.tmod x0 2) : Int) == (Int.tmod x1 2))))) 24 (SV.val (Value.bool (((Int.tmod x0 2) : Int) == (Int.tmod x1 2))))) 4 (SV.val (Value.bool (((Int.tmod x0 2) : Int) == (Int.tmod x1 2))))) V0 h5))) (K (upd (upd (upd (upd (upd (upd (upd (upd (upd (upd (upd (upd (upd (upd (upd (upd (upd (upd (upd (upd (upd (upd (upd e 1 (SV.val (Value.int .i64 x1))) 0 (SV.val (Value.int .i64 x0))) 5 (SV.val (Value.int .i64 x0))) 6 (SV.val (Value.bool q3))) 7 (SV.val (Value.bool true))) 8 (SV.val (Value.int .i64 x1))) 9 (SV.val (Value.bool q6))) 10 (SV.val (Value.bool q6))) 11 (SV.val (Value.bool true))) 12 (SV.val (Value.int .i64 x0))) 13 (SV.val (Value.bool (decide ((x0 : Int) < 1024))))) 14 (SV.val (Value.int .i64 x1))) 15 (SV.val (Value.bool (decide ((x1 : Int) < 1024))))) 16 (SV.val (Value.bool ((decide ((x0 : Int) < 1024)) == (decide ((x1 : Int) < 1024)))))) 17 (SV.val (Value.bool ((decide ((x0 : Int) < 1024)) == (decide ((x1 : Int) < 1024)))))) 18 (SV.val (Value.bool false))) 19 (SV.val undef)) 20 (SV.val undef)) 21 (SV.val undef)) 22 (SV.val undef)) 23 (SV.val undef)) 24 (SV.val (Value.bool false))) 4 (SV.val (Value.bool false))) V0 h5)) (K (upd (upd (upd (upd (upd (upd (upd (upd (upd (upd (upd (upd (upd (upd (upd (upd (upd (upd (upd (upd (upd (upd (upd e 1 (SV.val (Value.int .i64 x1))) 0 (SV.val (Value.int .i64 x0))) 5 (SV.val (Value.int .i64 x0))) 6 (SV.val (Value.bool q3))) 7 (SV.val (Value.bool true))) 8 (SV.val (Value.int .i64 x1))) 9 (SV.val (Value.bool q6))) 10 (SV.val (Value.bool q6))) 11 (SV.val (Value.bool false))) 12 (SV.val undef)) 13 (SV.val undef)) 14 (SV.val undef)) 15 (SV.val undef)) 16 (SV.val undef)) 17 (SV.val (Value.bool false))) 18 (SV.val (Value.bool false))) 19 (SV.val undef)) 20 (SV.val undef)) 21 (SV.val undef)) 22 (SV.val undef)) 23 (SV.val undef)) 24 (SV.val (Value.bool false))) 4 (SV.val (Value.bool false))) V0 h5)))) (K (upd (upd (upd (upd (upd (upd (upd (upd (upd (upd (upd (upd (upd (upd (upd (upd (upd (upd (upd (upd (upd (upd (upd e 1 (SV.val (Value.int .i64 x1))) 0 (SV.val (Value.int .i64 x0))) 5 (SV.val (Value.int .i64 x0))) 6 (SV.val (Value.bool q3))) 7 (SV.val (Value.bool false))) 8 (SV.val undef)) 9 (SV.val undef)) 10 (SV.val (Value.bool false))) 11 (SV.val (Value.bool false))) 12 (SV.val undef)) 13 (SV.val undef)) 14 (SV.val undef)) 15 (SV.val undef)) 16 (SV.val undef)) 17 (SV.val (Value.bool false))) 18 (SV.val (Value.bool false))) 19 (SV.val undef)) 20 (SV.val undef)) 21 (SV.val undef)) 22 (SV.val undef)) 23 (SV.val undef)) 24 (SV.val (Value.bool false))) 4 (SV.val (Value.bool false))) V0 h2)))) := by kernel_rfl
def F20 (x0 : Int) (x1 : Int) (hp : HP) (K : Value → HP → Prop) : Prop :=
  (CF Try.prog 74 [(Value.int .i64 x0)] hp fun u_1 h_2 => (boolV u_1 fun q_3 => (ite2 q_3 (CF Try.prog 74 [(Value.int .i64 x1)] h_2 fun u_4 h_5 => (boolV u_4 fun q_6 => (ite2 q_6 (ite2 ((decide ((x0 : Int) < 1024)) == (decide ((x1 : Int) < 1024))) (((2 : Int) ≠ 0) ∧ (((2 : Int) ≠ 0) ∧ (K (Value.bool (((Int.tmod x0 2) : Int) == (Int.tmod x1 2))) h_5))) (K (Value.bool false) h_5)) (K (Value.bool false) h_5)))) (K (Value.bool false) h_2))))
noncomputable def F20_code : Code := (.seq (.region 0 (opsAt Try.f20 [0]) false) (.seq (.region 1 (opsAt Try.f20 [1, 0]) false) .ret))
theorem F20_body : Try.f20.body = some F20_code := by kernel_rfl
theorem F20_ok (x0 : Int) (x1 : Int) (hp : HP) (K : Value → HP → Prop) (h : F20 x0 x1 hp K) : CF Try.prog 20 [(Value.int .i64 x0), (Value.int .i64 x1)] hp K := by
  refine ⟨by kernel_rfl, AC.intro (N := 25) Try.func20 F20_body rfl (Nat.le_of_ble_eq_true rfl) ?_⟩
  unfold F20 at h
  unfold F20_code
  refine AWP.seq' ?_
  refine AWP.rgn (F20_r0 (upd (upd E0 1 (SV.val (Value.int .i64 x1))) 0 (SV.val (Value.int .i64 x0)))  hp _) ?_ (RefOk.v 0 _ (RefOk.v 1 _ (RefOk.nil _))) (Sub.cons rfl (Sub.cons rfl (Sub.nil _))) (Sub.nil _)
  refine AWP.seq' ?_
  refine AWP.rgn (F20_r1 E0 x0 x1 hp _) ?_ (RefOk.v 0 _ (RefOk.v 1 _ (RefOk.nil _))) (Sub.cons rfl (Sub.cons rfl (Sub.nil _))) (Sub.nil _)
  refine CF_mono h (fun u_1 h_2 h => ?_)
  refine boolV_mono h (fun q_3 h => ?_)
  refine ite2_mono h (fun h => ?_) (fun h => ?_)
  · refine CF_mono h (fun u_4 h_5 h => ?_)
    refine boolV_mono h (fun q_6 h => ?_)
    refine ite2_mono h (fun h => ?_) (fun h => ?_)
    · refine ite2_mono h (fun h => ?_) (fun h => ?_)
      · refine ⟨h.1, ?_⟩
        replace h := h.2
        refine ⟨h.1, ?_⟩
        replace h := h.2
        refine AWP.ret ?_
        exact h
      · refine AWP.ret ?_
        exact h
    · refine AWP.ret ?_
      exact h
  · refine AWP.ret ?_
    exact h

-- 21 interpreter/interpreterlaw18.wakes
theorem F21_r0 (e : Env) (hp : HP) (K : Env → PV → HP → Prop) : RW Try.prog 63 [3, 5, 7] (opsAt Try.f21 [0]) (List.range 1) e V0 hp K =
    (K (upd e 0 (SV.val (Value.bool false))) V0 hp) := by kernel_rfl
theorem F21_r1 (e : Env) (hp : HP) (K : Env → PV → HP → Prop) : RW Try.prog 63 [3, 5, 7] (opsAt Try.f21 [1, 0]) (List.range 9) e V0 hp K =
    (CF Try.prog 52 [] hp fun u1 h2 => (aggV u1 fun l3 => (CF Try.prog 53 [] h2 fun u4 h5 => (aggV u4 fun l6 => (if List.length l3 = 4 then (if List.length l6 = 4 then (∀ b7 : Nat, h5 b7 = .none → (CF Try.prog 44 [(Value.slice (some ⟨b7, 0, none⟩) 2 2), (Value.int .i64 1020), (Value.int .i64 1027)] (HP.set h5 b7 (.cells 73 (splice (splice [(Value.int .u8 0), (Value.int .u8 0), (Value.int .u8 0), (Value.int .u8 0), (Value.int .u8 0), (Value.int .u8 0), (Value.int .u8 0), (Value.int .u8 0)] 0 l3) 4 l6) 0)) fun u8 h9 => (tup2V u8 fun u10 u11 => (ptrV u10 fun p12 => (intV u11 .i64 fun i13 => (K (upd (upd (upd (upd (upd (upd (upd (upd (upd e 10 (SV.val (Value.agg ⟨l3⟩))) 11 (SV.val (Value.agg ⟨l6⟩))) 12 (SV.val (Value.slice (some ⟨b7, 0, none⟩) 2 2))) 13 (SV.val (Value.tuple ⟨[(Value.pointer p12), (Value.int .i64 i13)]⟩))) 9 (SV.val (Value.tuple ⟨[(Value.pointer p12), (Value.int .i64 i13)]⟩))) 14 (SV.val (Value.pointer p12))) 15 (SV.val (Value.int .i64 i13))) 1 (SV.val (Value.pointer p12))) 2 (SV.val (Value.int .i64 i13))) V0 h9)))))) else False) else False))))) := by kernel_rfl
theorem F21_r2 (e : Env) (hp : HP) (K : Env → PV → HP → Prop) : RW Try.prog 63 [3, 5, 7] (opsAt Try.f21 [1, 1, 0, 1, 0, 0]) (List.range 1) e V0 hp K =
    (K (upd e 0 (SV.val (Value.bool false))) V0 hp) := by kernel_rfl
theorem F21_r3 (e : Env) (x1 : Option Addr) (hp : HP) (K : Env → PV → HP → Prop) : RW Try.prog 63 [3, 5, 7] (opsAt Try.f21 [1, 1, 1, 0]) (List.range 9) (upd e 1 (SV.val (Value.pointer x1))) V0 hp K =
    (CF Try.prog 46 [(Value.pointer x1), (Value.agg ⟨[(Value.int .u8 0), (Value.int .u8 0), (Value.int .u8 0), (Value.int .u8 0)]⟩), (Value.int .i64 80), (Value.bool false)] hp fun u1 h2 => (tup2V u1 fun u3 u4 => (aggV u3 fun l5 => (intV u4 .i64 fun i6 => (if List.length l5 = 5 then (if List.all l5 one = true then (if 0 + List.length l5 ≤ List.length [(Value.int .u8 0), (Value.int .u8 0), (Value.int .u8 0), (Value.int .u8 0), (Value.int .i64 0)] then (K (upd (upd (upd (upd (upd (upd (upd (upd (upd e 1 (SV.val (Value.pointer x1))) 23 (SV.val (Value.pointer x1))) 24 (SV.val (Value.agg ⟨[(Value.int .u8 0), (Value.int .u8 0), (Value.int .u8 0), (Value.int .u8 0)]⟩))) 25 (SV.val (Value.tuple ⟨[(Value.agg ⟨l5⟩), (Value.int .i64 i6)]⟩))) 22 (SV.val (Value.tuple ⟨[(Value.agg ⟨l5⟩), (Value.int .i64 i6)]⟩))) 26 (SV.val (Value.agg ⟨l5⟩))) 27 (SV.val (Value.int .i64 i6))) 3 (SV.priv 3 0)) 4 (SV.val (Value.int .i64 i6))) (upd (upd V0 3 (75, [(Value.int .u8 0), (Value.int .u8 0), (Value.int .u8 0), (Value.int .u8 0), (Value.int .i64 0)])) 3 (75, (splice [(Value.int .u8 0), (Value.int .u8 0), (Value.int .u8 0), (Value.int .u8 0), (Value.int .i64 0)] 0 l5))) h2) else False) else False) else False))))) := by kernel_rfl
theorem F21_r4 (e : Env) (x1 : Option Addr) (k3 : List Value) (hp : HP) (K : Env → PV → HP → Prop) : RW Try.prog 63 [3, 5, 7] (opsAt Try.f21 [1, 1, 1, 1, 0]) (List.range 9) (upd e 1 (SV.val (Value.pointer x1))) (upd V0 3 (75, k3)) hp K =
    (CF Try.prog 46 [(Value.pointer x1), (Value.agg ⟨[(Value.int .u8 0), (Value.int .u8 0), (Value.int .u8 0), (Value.int .u8 0)]⟩), (Value.int .i64 80), (Value.bool false)] hp fun u1 h2 => (tup2V u1 fun u3 u4 => (aggV u3 fun l5 => (intV u4 .i64 fun i6 => (if List.length l5 = 5 then (if List.all l5 one = true then (if 0 + List.length l5 ≤ List.length [(Value.int .u8 0), (Value.int .u8 0), (Value.int .u8 0), (Value.int .u8 0), (Value.int .i64 0)] then (K (upd (upd (upd (upd (upd (upd (upd (upd (upd e 1 (SV.val (Value.pointer x1))) 29 (SV.val (Value.pointer x1))) 30 (SV.val (Value.agg ⟨[(Value.int .u8 0), (Value.int .u8 0), (Value.int .u8 0), (Value.int .u8 0)]⟩))) 31 (SV.val (Value.tuple ⟨[(Value.agg ⟨l5⟩), (Value.int .i64 i6)]⟩))) 28 (SV.val (Value.tuple ⟨[(Value.agg ⟨l5⟩), (Value.int .i64 i6)]⟩))) 32 (SV.val (Value.agg ⟨l5⟩))) 33 (SV.val (Value.int .i64 i6))) 5 (SV.priv 5 0)) 6 (SV.val (Value.int .i64 i6))) (upd (upd (upd V0 3 (75, k3)) 5 (75, [(Value.int .u8 0), (Value.int .u8 0), (Value.int .u8 0), (Value.int .u8 0), (Value.int .i64 0)])) 5 (75, (splice [(Value.int .u8 0), (Value.int .u8 0), (Value.int .u8 0), (Value.int .u8 0), (Value.int .i64 0)] 0 l5))) h2) else False) else False) else False))))) := by kernel_rfl
theorem F21_r5 (e : Env) (x1 : Option Addr) (k3 : List Value) (k5 : List Value) (hp : HP) (K : Env → PV → HP → Prop) : RW Try.prog 63 [3, 5, 7] (opsAt Try.f21 [1, 1, 1, 1, 1, 0]) (List.range 9) (upd e 1 (SV.val (Value.pointer x1))) (upd (upd V0 5 (75, k5)) 3 (75, k3)) hp K =
    (CF Try.prog 46 [(Value.pointer x1), (Value.agg ⟨[(Value.int .u8 0), (Value.int .u8 0), (Value.int .u8 0), (Value.int .u8 0)]⟩), (Value.int .i64 80), (Value.bool false)] hp fun u1 h2 => (tup2V u1 fun u3 u4 => (aggV u3 fun l5 => (intV u4 .i64 fun i6 => (if List.length l5 = 5 then (if List.all l5 one = true then (if 0 + List.length l5 ≤ List.length [(Value.int .u8 0), (Value.int .u8 0), (Value.int .u8 0), (Value.int .u8 0), (Value.int .i64 0)] then (K (upd (upd (upd (upd (upd (upd (upd (upd (upd e 1 (SV.val (Value.pointer x1))) 35 (SV.val (Value.pointer x1))) 36 (SV.val (Value.agg ⟨[(Value.int .u8 0), (Value.int .u8 0), (Value.int .u8 0), (Value.int .u8 0)]⟩))) 37 (SV.val (Value.tuple ⟨[(Value.agg ⟨l5⟩), (Value.int .i64 i6)]⟩))) 34 (SV.val (Value.tuple ⟨[(Value.agg ⟨l5⟩), (Value.int .i64 i6)]⟩))) 38 (SV.val (Value.agg ⟨l5⟩))) 39 (SV.val (Value.int .i64 i6))) 7 (SV.priv 7 0)) 8 (SV.val (Value.int .i64 i6))) (upd (upd (upd (upd V0 5 (75, k5)) 3 (75, k3)) 7 (75, [(Value.int .u8 0), (Value.int .u8 0), (Value.int .u8 0), (Value.int .u8 0), (Value.int .i64 0)])) 7 (75, (splice [(Value.int .u8 0), (Value.int .u8 0), (Value.int .u8 0), (Value.int .u8 0), (Value.int .i64 0)] 0 l5))) h2) else False) else False) else False))))) := by kernel_rfl
theorem F21_r6 (e : Env) (k3 : List Value) (k5 : List Value) (k7 : List Value) (hp : HP) (K : Env → PV → HP → Prop) : RW Try.prog 63 [3, 5, 7] (opsAt Try.f21 [1, 1, 1, 1, 1, 1, 0]) (List.range 24) (upd (upd (upd e 7 (SV.priv 7 0)) 5 (SV.priv 5 0)) 3 (SV.priv 3 0)) (upd (upd (upd V0 7 (75, k7)) 5 (75, k5)) 3 (75, k3)) hp K =
    (ldL (cellsN k3 0 5) fun l1 => (CF Try.prog 52 [] hp fun u2 h3 => (aggV u2 fun l4 => (if List.length l4 = 4 then (eqAgg Try.prog 75 l1 (List.set (splice [(Value.int .u8 0), (Value.int .u8 0), (Value.int .u8 0), (Value.int .u8 0), (Value.int .i64 0)] 0 l4) 4 (Value.int .i64 1020)) fun q5 => (ite2 q5 (ldL (cellsN k5 0 5) fun l6 => (CF Try.prog 52 [] h3 fun u7 h8 => (aggV u7 fun l9 => (if List.length l9 = 4 then (eqAgg Try.prog 75 l6 (List.set (splice [(Value.int .u8 0), (Value.int .u8 0), (Value.int .u8 0), (Value.int .u8 0), (Value.int .i64 0)] 0 l9) 4 (Value.int .i64 1022)) fun q10 => (ite2 q10 (ldL (cellsN k7 0 5) fun l11 => (CF Try.prog 53 [] h8 fun u12 h13 => (aggV u12 fun l14 => (if List.length l14 = 4 then (eqAgg Try.prog 75 l11 (List.set (splice [(Value.int .u8 0), (Value.int .u8 0), (Value.int .u8 0), (Value.int .u8 0), (Value.int .i64 0)] 0 l14) 4 (Value.int .i64 1020)) fun q15 => (ite2 q15 (CF Try.prog 20 [(Value.int .i64 80), (Value.int .i64 1022)] h13 fun u16 h17 => (boolV u16 fun q18 => (ite2 q18 (CF Try.prog 20 [(Value.int .i64 80), (Value.int .i64 1024)] h17 fun u19 h20 => (boolV u19 fun q21 => (K (upd (upd (upd (upd (upd (upd (upd (upd (upd (upd (upd (upd (upd (upd (upd (upd (upd (upd (upd (upd (upd (upd (upd (upd (upd (upd (upd e 7 (SV.priv 7 0)) 5 (SV.priv 5 0)) 3 (SV.priv 3 0)) 40 (SV.val (Value.agg ⟨l1⟩))) 41 (SV.val (Value.agg ⟨l4⟩))) 42 (SV.val (Value.agg ⟨(List.set (splice [(Value.int .u8 0), (Value.int .u8 0), (Value.int .u8 0), (Value.int .u8 0), (Value.int .i64 0)] 0 l4) 4 (Value.int .i64 1020))⟩))) 43 (SV.val (Value.bool q5))) 44 (SV.val (Value.bool true))) 45 (SV.val (Value.agg ⟨l6⟩))) 46 (SV.val (Value.agg ⟨l9⟩))) 47 (SV.val (Value.agg ⟨(List.set (splice [(Value.int .u8 0), (Value.int .u8 0), (Value.int .u8 0), (Value.int .u8 0), (Value.int .i64 0)] 0 l9) 4 (Value.int .i64 1022))⟩))) 48 (SV.val (Value.bool q10))) 49 (SV.val (Value.bool q10))) 50 (SV.val (Value.bool true))) 51 (SV.val (Value.agg ⟨l11⟩))) 52 (SV.val (Value.agg ⟨l14⟩))) 53 (SV.val (Value.agg ⟨(List.set (splice [(Value.int .u8 0), (Value.int .u8 0), (Value.int .u8 0), (Value.int .u8 0), (Value.int .i64 0)] 0 l14) 4 (Value.int .i64 1020))⟩))) 54 (SV.val (Value.bool q15))) 55 (SV.val (Value.bool q15))) 56 (SV.val (Value.bool true))) 57 (SV.val (Value.bool q18))) 58 (SV.val (Value.bool q18))) 59 (SV.val (Value.bool true))) 60 (SV.val (Value.bool q21))) 61 (SV.val (Value.bool (!q21)))) 62 (SV.val (Value.bool (!q21)))) 0 (SV.val (Value.bool (!q21)))) (upd (upd (upd V0 7 (75, k7)) 5 (75, k5)) 3 (75, k3)) h20))) (K (upd (upd (upd (upd (upd (upd (upd (upd (upd (upd (upd (upd (upd (upd (upd (upd (upd (upd (upd (upd (upd (upd (upd (upd (upd (upd (upd e 7 (SV.priv 7 0)) 5 (SV.priv 5 0)) 3 (SV.priv 3 0)) 40 (SV.val (Value.agg ⟨l1⟩))) 41 (SV.val (Value.agg ⟨l4⟩))) 42 (SV.val (Value.agg ⟨(List.set (splice [(Value.int .u8 0), (Value.int .u8 0), (Value.int .u8 0), (Value.int .u8 0), (Value.int .i64 0)] 0 l4) 4 (Value.int .i64 1020))⟩))) 43 (SV.val (Value.bool q5))) 44 (SV.val (Value.bool true))) 45 (SV.val (Value.agg ⟨l6⟩))) 46 (SV.val (Value.agg ⟨l9⟩))) 47 (SV.val (Value.agg ⟨(List.set (splice [(Value.int .u8 0), (Value.int .u8 0), (Value.int .u8 0), (Value.int .u8 0), (Value.int .i64 0)] 0 l9) 4 (Value.int .i64 1022))⟩))) 48 (SV.val (Value.bool q10))) 49 (SV.val (Value.bool q10))) 50 (SV.val (Value.bool true))) 51 (SV.val (Value.agg ⟨l11⟩))) 52 (SV.val (Value.agg ⟨l14⟩))) 53 (SV.val (Value.agg ⟨(List.set (splice [(Value.int .u8 0), (Value.int .u8 0), (Value.int .u8 0), (Value.int .u8 0), (Value.int .i64 0)] 0 l14) 4 (Value.int .i64 1020))⟩))) 54 (SV.val (Value.bool q15))) 55 (SV.val (Value.bool q15))) 56 (SV.val (Value.bool true))) 57 (SV.val (Value.bool q18))) 58 (SV.val (Value.bool q18))) 59 (SV.val (Value.bool false))) 60 (SV.val undef)) 61 (SV.val undef)) 62 (SV.val (Value.bool false))) 0 (SV.val (Value.bool false))) (upd (upd (upd V0 7 (75, k7)) 5 (75, k5)) 3 (75, k3)) h17)))) (K (upd (upd (upd (upd (upd (upd (upd (upd (upd (upd (upd (upd (upd (upd (upd (upd (upd (upd (upd (upd (upd (upd (upd (upd (upd (upd (upd e 7 (SV.priv 7 0)) 5 (SV.priv 5 0)) 3 (SV.priv 3 0)) 40 (SV.val (Value.agg ⟨l1⟩))) 41 (SV.val (Value.agg ⟨l4⟩))) 42 (SV.val (Value.agg ⟨(List.set (splice [(Value.int .u8 0), (Value.int .u8 0), (Value.int .u8 0), (Value.int .u8 0), (Value.int .i64 0)] 0 l4) 4 (Value.int .i64 1020))⟩))) 43 (SV.val (Value.bool q5))) 44 (SV.val (Value.bool true))) 45 (SV.val (Value.agg ⟨l6⟩))) 46 (SV.val (Value.agg ⟨l9⟩))) 47 (SV.val (Value.agg ⟨(List.set (splice [(Value.int .u8 0), (Value.int .u8 0), (Value.int .u8 0), (Value.int .u8 0), (Value.int .i64 0)] 0 l9) 4 (Value.int .i64 1022))⟩))) 48 (SV.val (Value.bool q10))) 49 (SV.val (Value.bool q10))) 50 (SV.val (Value.bool true))) 51 (SV.val (Value.agg ⟨l11⟩))) 52 (SV.val (Value.agg ⟨l14⟩))) 53 (SV.val (Value.agg ⟨(List.set (splice [(Value.int .u8 0), (Value.int .u8 0), (Value.int .u8 0), (Value.int .u8 0), (Value.int .i64 0)] 0 l14) 4 (Value.int .i64 1020))⟩))) 54 (SV.val (Value.bool q15))) 55 (SV.val (Value.bool q15))) 56 (SV.val (Value.bool false))) 57 (SV.val undef)) 58 (SV.val (Value.bool false))) 59 (SV.val (Value.bool false))) 60 (SV.val undef)) 61 (SV.val undef)) 62 (SV.val (Value.bool false))) 0 (SV.val (Value.bool false))) (upd (upd (upd V0 7 (75, k7)) 5 (75, k5)) 3 (75, k3)) h13))) else False)))) (K (upd (upd (upd (upd (upd (upd (upd (upd (upd (upd (upd (upd (upd (upd (upd (upd (upd (upd (upd (upd (upd (upd (upd (upd (upd (upd (upd e 7 (SV.priv 7 0)) 5 (SV.priv 5 0)) 3 (SV.priv 3 0)) 40 (SV.val (Value.agg ⟨l1⟩))) 41 (SV.val (Value.agg ⟨l4⟩))) 42 (SV.val (Value.agg ⟨(List.set (splice [(Value.int .u8 0), (Value.int .u8 0), (Value.int .u8 0), (Value.int .u8 0), (Value.int .i64 0)] 0 l4) 4 (Value.int .i64 1020))⟩))) 43 (SV.val (Value.bool q5))) 44 (SV.val (Value.bool true))) 45 (SV.val (Value.agg ⟨l6⟩))) 46 (SV.val (Value.agg ⟨l9⟩))) 47 (SV.val (Value.agg ⟨(List.set (splice [(Value.int .u8 0), (Value.int .u8 0), (Value.int .u8 0), (Value.int .u8 0), (Value.int .i64 0)] 0 l9) 4 (Value.int .i64 1022))⟩))) 48 (SV.val (Value.bool q10))) 49 (SV.val (Value.bool q10))) 50 (SV.val (Value.bool false))) 51 (SV.val undef)) 52 (SV.val undef)) 53 (SV.val undef)) 54 (SV.val undef)) 55 (SV.val (Value.bool false))) 56 (SV.val (Value.bool false))) 57 (SV.val undef)) 58 (SV.val (Value.bool false))) 59 (SV.val (Value.bool false))) 60 (SV.val undef)) 61 (SV.val undef)) 62 (SV.val (Value.bool false))) 0 (SV.val (Value.bool false))) (upd (upd (upd V0 7 (75, k7)) 5 (75, k5)) 3 (75, k3)) h8))) else False)))) (K (upd (upd (upd (upd (upd (upd (upd (upd (upd (upd (upd (upd (upd (upd (upd (upd (upd (upd (upd (upd (upd (upd (upd (upd (upd (upd (upd e 7 (SV.priv 7 0)) 5 (SV.priv 5 0)) 3 (SV.priv 3 0)) 40 (SV.val (Value.agg ⟨l1⟩))) 41 (SV.val (Value.agg ⟨l4⟩))) 42 (SV.val (Value.agg ⟨(List.set (splice [(Value.int .u8 0), (Value.int .u8 0), (Value.int .u8 0), (Value.int .u8 0), (Value.int .i64 0)] 0 l4) 4 (Value.int .i64 1020))⟩))) 43 (SV.val (Value.bool q5))) 44 (SV.val (Value.bool false))) 45 (SV.val undef)) 46 (SV.val undef)) 47 (SV.val undef)) 48 (SV.val undef)) 49 (SV.val (Value.bool false))) 50 (SV.val (Value.bool false))) 51 (SV.val undef)) 52 (SV.val undef)) 53 (SV.val undef)) 54 (SV.val undef)) 55 (SV.val (Value.bool false))) 56 (SV.val (Value.bool false))) 57 (SV.val undef)) 58 (SV.val (Value.bool false))) 59 (SV.val (Value.bool false))) 60 (SV.val undef)) 61 (SV.val undef)) 62 (SV.val (Value.bool false))) 0 (SV.val (Value.bool false))) (upd (upd (upd V0 7 (75, k7)) 5 (75, k5)) 3 (75, k3)) h3))) else False)))) := by kernel_rfl
def F21_j1 (x1 : Option Addr) (x21 : Bool) (hp : HP) (K : Value → HP → Prop) : Prop :=
  (ite2 x21 (K (Value.bool false) hp) (CF Try.prog 46 [(Value.pointer x1), (Value.agg ⟨[(Value.int .u8 0), (Value.int .u8 0), (Value.int .u8 0), (Value.int .u8 0)]⟩), (Value.int .i64 80), (Value.bool false)] hp fun u_14 h_15 => (tup2V u_14 fun u_16 u_17 => (aggV u_16 fun l_18 => (intV u_17 .i64 fun i_19 => (if List.length l_18 = 5 then (if List.all l_18 one = true then (if 0 + List.length l_18 ≤ List.length [(Value.int .u8 0), (Value.int .u8 0), (Value.int .u8 0), (Value.int .u8 0), (Value.int .i64 0)] then (CF Try.prog 46 [(Value.pointer x1), (Value.agg ⟨[(Value.int .u8 0), (Value.int .u8 0), (Value.int .u8 0), (Value.int .u8 0)]⟩), (Value.int .i64 80), (Value.bool false)] h_15 fun u_20 h_21 => (tup2V u_20 fun u_22 u_23 => (aggV u_22 fun l_24 => (intV u_23 .i64 fun i_25 => (if List.length l_24 = 5 then (if List.all l_24 one = true then (if 0 + List.length l_24 ≤ List.length [(Value.int .u8 0), (Value.int .u8 0), (Value.int .u8 0), (Value.int .u8 0), (Value.int .i64 0)] then (CF Try.prog 46 [(Value.pointer x1), (Value.agg ⟨[(Value.int .u8 0), (Value.int .u8 0), (Value.int .u8 0), (Value.int .u8 0)]⟩), (Value.int .i64 80), (Value.bool false)] h_21 fun u_26 h_27 => (tup2V u_26 fun u_28 u_29 => (aggV u_28 fun l_30 => (intV u_29 .i64 fun i_31 => (if List.length l_30 = 5 then (if List.all l_30 one = true then (if 0 + List.length l_30 ≤ List.length [(Value.int .u8 0), (Value.int .u8 0), (Value.int .u8 0), (Value.int .u8 0), (Value.int .i64 0)] then (ldL (cellsN (splice [(Value.int .u8 0), (Value.int .u8 0), (Value.int .u8 0), (Value.int .u8 0), (Value.int .i64 0)] 0 l_18) 0 5) fun l_32 => (CF Try.prog 52 [] h_27 fun u_33 h_34 => (aggV u_33 fun l_35 => (if List.length l_35 = 4 then (eqAgg Try.prog 75 l_32 (List.set (splice [(Value.int .u8 0), (Value.int .u8 0), (Value.int .u8 0), (Value.int .u8 0), (Value.int .i64 0)] 0 l_35) 4 (Value.int .i64 1020)) fun q_36 => (ite2 q_36 (ldL (cellsN (splice [(Value.int .u8 0), (Value.int .u8 0), (Value.int .u8 0), (Value.int .u8 0), (Value.int .i64 0)] 0 l_24) 0 5) fun l_37 => (CF Try.prog 52 [] h_34 fun u_38 h_39 => (aggV u_38 fun l_40 => (if List.length l_40 = 4 then (eqAgg Try.prog 75 l_37 (List.set (splice [(Value.int .u8 0), (Value.int .u8 0), (Value.int .u8 0), (Value.int .u8 0), (Value.int .i64 0)] 0 l_40) 4 (Value.int .i64 1022)) fun q_41 => (ite2 q_41 (ldL (cellsN (splice [(Value.int .u8 0), (Value.int .u8 0), (Value.int .u8 0), (Value.int .u8 0), (Value.int .i64 0)] 0 l_30) 0 5) fun l_42 => (CF Try.prog 53 [] h_39 fun u_43 h_44 => (aggV u_43 fun l_45 => (if List.length l_45 = 4 then (eqAgg Try.prog 75 l_42 (List.set (splice [(Value.int .u8 0), (Value.int .u8 0), (Value.int .u8 0), (Value.int .u8 0), (Value.int .i64 0)] 0 l_45) 4 (Value.int .i64 1020)) fun q_46 => (ite2 q_46 (CF Try.prog 20 [(Value.int .i64 80), (Value.int .i64 1022)] h_44 fun u_47 h_48 => (boolV u_47 fun q_49 => (ite2 q_49 (CF Try.prog 20 [(Value.int .i64 80), (Value.int .i64 1024)] h_48 fun u_50 h_51 => (boolV u_50 fun q_52 => (K (Value.bool (!q_52)) h_51))) (K (Value.bool false) h_48)))) (K (Value.bool false) h_44))) else False)))) (K (Value.bool false) h_39))) else False)))) (K (Value.bool false) h_34))) else False)))) else False) else False) else False))))) else False) else False) else False))))) else False) else False) else False))))))
theorem F21_r7 (e : Env) (x1 : Option Addr) (x2 : Int) (hp : HP) (K : Env → PV → HP → Prop) : RW Try.prog 63 [3, 5, 7] (opsAt Try.f21 [1, 1, 0, 0]) (List.range 6) (upd (upd e 2 (SV.val (Value.int .i64 x2))) 1 (SV.val (Value.pointer x1))) V0 hp K =
    (ite2 ((x2 : Int) != 0) (K (upd (upd (upd (upd (upd (upd (upd (upd e 2 (SV.val (Value.int .i64 x2))) 1 (SV.val (Value.pointer x1))) 16 (SV.val (Value.int .i64 x2))) 17 (SV.val (Value.bool ((x2 : Int) != 0)))) 18 (SV.val (Value.bool true))) 19 (SV.val undef)) 20 (SV.val undef)) 21 (SV.val (Value.bool true))) V0 hp) (K (upd (upd (upd (upd (upd (upd (upd (upd e 2 (SV.val (Value.int .i64 x2))) 1 (SV.val (Value.pointer x1))) 16 (SV.val (Value.int .i64 x2))) 17 (SV.val (Value.bool ((x2 : Int) != 0)))) 18 (SV.val (Value.bool false))) 19 (SV.val (Value.pointer x1))) 20 (SV.val (Value.bool (Option.isNone x1)))) 21 (SV.val (Value.bool (Option.isNone x1)))) V0 hp)) := by kernel_rfl
def F21 (hp : HP) (K : Value → HP → Prop) : Prop :=
  (CF Try.prog 52 [] hp fun u_1 h_2 => (aggV u_1 fun l_3 => (CF Try.prog 53 [] h_2 fun u_4 h_5 => (aggV u_4 fun l_6 => (if List.length l_3 = 4 then (if List.length l_6 = 4 then (∀ b_7 : Nat, h_5 b_7 = .none → (CF Try.prog 44 [(Value.slice (some ⟨b_7, 0, none⟩) 2 2), (Value.int .i64 1020), (Value.int .i64 1027)] (HP.set h_5 b_7 (.cells 73 (splice (splice [(Value.int .u8 0), (Value.int .u8 0), (Value.int .u8 0), (Value.int .u8 0), (Value.int .u8 0), (Value.int .u8 0), (Value.int .u8 0), (Value.int .u8 0)] 0 l_3) 4 l_6) 0)) fun u_8 h_9 => (tup2V u_8 fun u_10 u_11 => (ptrV u_10 fun p_12 => (intV u_11 .i64 fun i_13 => (ite2 ((i_13 : Int) != 0) (F21_j1 p_12 true h_9  K) (F21_j1 p_12 (Option.isNone p_12) h_9  K))))))) else False) else False)))))
noncomputable def F21_code : Code := (.seq (.region 0 (opsAt Try.f21 [0]) false) (.seq (.region 1 (opsAt Try.f21 [1, 0]) false) (.seq (.seq (.region 2 (opsAt Try.f21 [1, 1, 0, 0]) false) (.cond (.tmp 21) (.seq (.region 3 (opsAt Try.f21 [1, 1, 0, 1, 0, 0]) false) .ret) .skip)) (.seq (.region 4 (opsAt Try.f21 [1, 1, 1, 0]) false) (.seq (.region 5 (opsAt Try.f21 [1, 1, 1, 1, 0]) false) (.seq (.region 6 (opsAt Try.f21 [1, 1, 1, 1, 1, 0]) false) (.seq (.region 7 (opsAt Try.f21 [1, 1, 1, 1, 1, 1, 0]) true) .ret)))))))
theorem F21_body : Try.f21.body = some F21_code := by kernel_rfl
theorem F21_ok (hp : HP) (K : Value → HP → Prop) (h : F21  hp K) : CF Try.prog 21 [] hp K := by
  refine ⟨by kernel_rfl, AC.intro (N := 63) Try.func21 F21_body rfl (Nat.le_of_ble_eq_true rfl) ?_⟩
  unfold F21 at h
  unfold F21_code
  refine AWP.seq' ?_
  refine AWP.rgn (F21_r0 E0  hp _) ?_ (RefOk.nil _) (Sub.nil _) (Sub.nil _)
  refine AWP.seq' ?_
  refine AWP.rgn (F21_r1 E0  hp _) ?_ (RefOk.nil _) (Sub.nil _) (Sub.nil _)
  refine CF_mono h (fun u_1 h_2 h => ?_)
  refine aggV_mono h (fun l_3 h => ?_)
  refine CF_mono h (fun u_4 h_5 h => ?_)
  refine aggV_mono h (fun l_6 h => ?_)
  refine if_mono h (fun h => ?_)
  refine if_mono h (fun h => ?_)
  refine fun b_7 hb_b_7 => ?_
  replace h := h b_7 hb_b_7
  refine CF_mono h (fun u_8 h_9 h => ?_)
  refine tup2V_mono h (fun u_10 u_11 h => ?_)
  refine ptrV_mono h (fun p_12 h => ?_)
  refine intV_mono h (fun i_13 h => ?_)
  refine AWP.seq' ?_
  refine AWP.seq (fun env pv hp => ∃ (x1 : Option Addr) (x21 : Bool), Sub (upd (upd E0 21 (SV.val (Value.bool x21))) 1 (SV.val (Value.pointer x1))) env ∧ Sub V0 pv ∧ (F21_j1 x1 x21 hp  K)) ?_ ?_
  · refine AWP.rgn (F21_r7 E0 p_12 i_13 h_9 _) ?_ (RefOk.v 1 _ (RefOk.v 2 _ (RefOk.nil _))) (Sub.cons rfl (Sub.cons rfl (Sub.nil _))) (Sub.nil _)
    refine ite2_mono h (fun h => ?_) (fun h => ?_)
    · exact ⟨p_12, true, (Sub.cons rfl (Sub.cons rfl (Sub.nil _))), (Sub.nil _), h⟩
    · exact ⟨p_12, (Option.isNone p_12), (Sub.cons rfl (Sub.cons rfl (Sub.nil _))), (Sub.nil _), h⟩
  · rintro env pv hp ⟨x1, x21, he, hv, h⟩
    refine AWP.sub (env' := (upd (upd E0 21 (SV.val (Value.bool x21))) 1 (SV.val (Value.pointer x1)))) (pv' := V0) ?_ (RefOk.v 1 _ (RefOk.v 21 _ (RefOk.nil _))) he hv (HSub.refl _)
    clear he hv
    unfold F21_j1 at h
    refine AWP.cond (t := x21) rfl (fun e => ?_) (fun e => ?_)
    · replace h := ite2_t h e
      refine AWP.seq' ?_
      refine AWP.rgn (F21_r2 E0  hp _) ?_ (RefOk.nil _) (Sub.nil _) (Sub.nil _)
      refine AWP.ret ?_
      exact h
    · replace h := ite2_f h e
      refine AWP.skip ?_
      refine AWP.seq' ?_
      refine AWP.rgn (F21_r3 E0 x1 hp _) ?_ (RefOk.v 1 _ (RefOk.nil _)) (Sub.cons rfl (Sub.nil _)) (Sub.nil _)
      refine CF_mono h (fun u_14 h_15 h => ?_)
      refine tup2V_mono h (fun u_16 u_17 h => ?_)
      refine aggV_mono h (fun l_18 h => ?_)
      refine intV_mono h (fun i_19 h => ?_)
      refine if_mono h (fun h => ?_)
      refine if_mono h (fun h => ?_)
      refine if_mono h (fun h => ?_)
      refine AWP.seq' ?_
      refine AWP.rgn (F21_r4 (upd E0 3 (SV.priv 3 0)) x1 (splice [(Value.int .u8 0), (Value.int .u8 0), (Value.int .u8 0), (Value.int .u8 0), (Value.int .i64 0)] 0 l_18) h_15 _) ?_ (RefOk.v 1 _ (RefOk.p 3 3 0 (RefOk.nil _) (fun e => by cases e))) (Sub.cons rfl (Sub.cons rfl (Sub.nil _))) (Sub.cons rfl (Sub.nil _))
      refine CF_mono h (fun u_20 h_21 h => ?_)
      refine tup2V_mono h (fun u_22 u_23 h => ?_)
      refine aggV_mono h (fun l_24 h => ?_)
      refine intV_mono h (fun i_25 h => ?_)
      refine if_mono h (fun h => ?_)
      refine if_mono h (fun h => ?_)
      refine if_mono h (fun h => ?_)
      refine AWP.seq' ?_
      refine AWP.rgn (F21_r5 (upd (upd E0 5 (SV.priv 5 0)) 3 (SV.priv 3 0)) x1 (splice [(Value.int .u8 0), (Value.int .u8 0), (Value.int .u8 0), (Value.int .u8 0), (Value.int .i64 0)] 0 l_18) (splice [(Value.int .u8 0), (Value.int .u8 0), (Value.int .u8 0), (Value.int .u8 0), (Value.int .i64 0)] 0 l_24) h_21 _) ?_ (RefOk.v 1 _ (RefOk.p 3 3 0 (RefOk.p 5 5 0 (RefOk.nil _) (fun e => by cases e)) (fun e => by cases e))) (Sub.cons rfl (Sub.cons rfl (Sub.cons rfl (Sub.nil _)))) (Sub.cons rfl (Sub.cons rfl (Sub.nil _)))
      refine CF_mono h (fun u_26 h_27 h => ?_)
      refine tup2V_mono h (fun u_28 u_29 h => ?_)
      refine aggV_mono h (fun l_30 h => ?_)
      refine intV_mono h (fun i_31 h => ?_)
      refine if_mono h (fun h => ?_)
      refine if_mono h (fun h => ?_)
      refine if_mono h (fun h => ?_)
      refine AWP.seq' ?_
      refine AWP.rgnD (by kernel_rfl) (by kernel_rfl) (F21_r6 E0 (splice [(Value.int .u8 0), (Value.int .u8 0), (Value.int .u8 0), (Value.int .u8 0), (Value.int .i64 0)] 0 l_18) (splice [(Value.int .u8 0), (Value.int .u8 0), (Value.int .u8 0), (Value.int .u8 0), (Value.int .i64 0)] 0 l_24) (splice [(Value.int .u8 0), (Value.int .u8 0), (Value.int .u8 0), (Value.int .u8 0), (Value.int .i64 0)] 0 l_30) h_27 _) ?_ (RefOk.p 3 3 0 (RefOk.p 5 5 0 (RefOk.p 7 7 0 (RefOk.nil _) (fun e => by cases e)) (fun e => by cases e)) (fun e => by cases e)) (Sub.cons rfl (Sub.cons rfl (Sub.cons rfl (Sub.nil _)))) (Sub.cons rfl (Sub.cons rfl (Sub.cons rfl (Sub.nil _))))
      refine ldL_mono h (fun l_32 h => ?_)
      refine CF_mono h (fun u_33 h_34 h => ?_)
      refine aggV_mono h (fun l_35 h => ?_)
      refine if_mono h (fun h => ?_)
      refine eqAgg_mono h (fun q_36 h => ?_)
      refine ite2_mono h (fun h => ?_) (fun h => ?_)
      · refine ldL_mono h (fun l_37 h => ?_)
        refine CF_mono h (fun u_38 h_39 h => ?_)
        refine aggV_mono h (fun l_40 h => ?_)
        refine if_mono h (fun h => ?_)
        refine eqAgg_mono h (fun q_41 h => ?_)
        refine ite2_mono h (fun h => ?_) (fun h => ?_)
        · refine ldL_mono h (fun l_42 h => ?_)
          refine CF_mono h (fun u_43 h_44 h => ?_)
          refine aggV_mono h (fun l_45 h => ?_)
          refine if_mono h (fun h => ?_)
          refine eqAgg_mono h (fun q_46 h => ?_)
          refine ite2_mono h (fun h => ?_) (fun h => ?_)
          · refine CF_mono h (fun u_47 h_48 h => ?_)
            refine boolV_mono h (fun q_49 h => ?_)
            refine ite2_mono h (fun h => ?_) (fun h => ?_)
            · refine CF_mono h (fun u_50 h_51 h => ?_)
              refine boolV_mono h (fun q_52 h => ?_)
              refine AWP.ret ?_
              exact h
            · refine AWP.ret ?_
              exact h
          · refine AWP.ret ?_
            exact h
        · refine AWP.ret ?_
          exact h
      · refine AWP.ret ?_
        exact h

-- 44 interpreter/pool.New
theorem F44_r0 (e : Env) (hp : HP) (K : Env → PV → HP → Prop) : RW Try.prog 59 [9] (opsAt Try.f44 [0]) (List.range 2) e V0 hp K =
    (K (upd (upd e 6 (SV.val (Value.pointer none))) 7 (SV.val (Value.int .i64 0))) V0 hp) := by kernel_rfl
theorem F44_r1 (e : Env) (hp : HP) (K : Env → PV → HP → Prop) : RW Try.prog 59 [9] (opsAt Try.f44 [1, 0, 1, 0, 0]) (List.range 2) e V0 hp K =
    (K (upd (upd e 6 (SV.val (Value.pointer none))) 7 (SV.val (Value.int .i64 1))) V0 hp) := by kernel_rfl
theorem F44_r2 (e : Env) (x0a : Option Addr) (x0n : Nat) (x0c : Nat) (x1 : Int) (x2 : Int) (hp : HP) (K : Env → PV → HP → Prop) : RW Try.prog 59 [9] (opsAt Try.f44 [1, 1, 1, 0]) (List.range 9) (upd (upd (upd e 2 (SV.val (Value.int .i64 x2))) 1 (SV.val (Value.int .i64 x1))) 0 (SV.val (Value.slice x0a x0n x0c))) V0 hp K =
    (CF Try.prog 93 [(Value.slice x0a x0n x0c)] hp fun u1 h2 => (slcV u1 fun a3 n4 c5 => (∀ b6 : Nat, h2 b6 = .none → (∀ b7 : Nat, (HP.set h2 b6 (.obj (.map #[] 0))) b7 = .none → (K (upd (upd (upd (upd (upd (upd (upd (upd (upd (upd (upd (upd e 2 (SV.val (Value.int .i64 x2))) 1 (SV.val (Value.int .i64 x1))) 0 (SV.val (Value.slice x0a x0n x0c))) 52 (SV.val (Value.slice x0a x0n x0c))) 53 (SV.val (Value.slice a3 n4 c5))) 54 (SV.val (Value.int .i64 x1))) 55 (SV.val (Value.int .i64 x2))) 56 (SV.val (Value.map (some b6)))) 57 (SV.val (Value.agg ⟨[(Value.slice a3 n4 c5), (Value.int .i64 x1), (Value.int .i64 x2), (Value.map (some b6))]⟩))) 58 (SV.val (ptr b7 0))) 6 (SV.val (ptr b7 0))) 7 (SV.val (Value.int .i64 0))) V0 (HP.set (HP.set h2 b6 (.obj (.map #[] 0))) b7 (.cells 160 [(Value.slice a3 n4 c5), (Value.int .i64 x1), (Value.int .i64 x2), (Value.map (some b6))] 0))))))) := by kernel_rfl
def F44_j2 (x0a : Option Addr) (x0n : Nat) (x0c : Nat) (x1 : Int) (x2 : Int) (hp : HP) (K : Value → HP → Prop) : Prop :=
  (CF Try.prog 93 [(Value.slice x0a x0n x0c)] hp fun u_1 h_2 => (slcV u_1 fun a_3 n_4 c_5 => (∀ b_6 : Nat, h_2 b_6 = .none → (∀ b_7 : Nat, (HP.set h_2 b_6 (.obj (.map #[] 0))) b_7 = .none → (K (.tuple ⟨[(ptr b_7 0), (Value.int .i64 0)]⟩) (HP.set (HP.set h_2 b_6 (.obj (.map #[] 0))) b_7 (.cells 160 [(Value.slice a_3 n_4 c_5), (Value.int .i64 x1), (Value.int .i64 x2), (Value.map (some b_6))] 0)))))))
theorem F44_r3 (e : Env) (x40 : Int) (x41 : Int) (hp : HP) (K : Env → PV → HP → Prop) : RW Try.prog 59 [9] (opsAt Try.f44 [1, 1, 0, 1, 0, 0, 0]) (List.range 1) (upd (upd e 41 (SV.val (Value.int .i64 x41))) 40 (SV.val (Value.int .i64 x40))) V0 hp K =
    (K (upd (upd (upd e 41 (SV.val (Value.int .i64 x41))) 40 (SV.val (Value.int .i64 x40))) 42 (SV.val (Value.bool (decide ((x41 : Int) < x40))))) V0 hp) := by kernel_rfl
theorem F44_r4 (e : Env) (x39a : Option Addr) (x39n : Nat) (x39c : Nat) (x41 : Int) (hp : HP) (K : Env → PV → HP → Prop) : RW Try.prog 59 [9] (opsAt Try.f44 [1, 1, 0, 1, 0, 0, 1, 1, 0, 0, 0]) (List.range 6) (upd (upd e 41 (SV.val (Value.int .i64 x41))) 39 (SV.val (Value.slice x39a x39n x39c))) V0 hp K =
    ((0 ≤ (x41 : Int)) ∧ ((x41 : Int) < (x39n : Nat)) ∧ (ptrN x39a fun b1 o2 => (ldL (HP.cellN hp b1 (o2 + Int.toNat x41 * 4) 4) fun l3 => (if List.length l3 = 4 then (if List.all l3 one = true then (if 0 + List.length l3 ≤ List.length [(Value.int .u8 0), (Value.int .u8 0), (Value.int .u8 0), (Value.int .u8 0)] then (K (upd (upd (upd (upd (upd (upd (upd e 41 (SV.val (Value.int .i64 x41))) 39 (SV.val (Value.slice x39a x39n x39c))) 43 (SV.val (Value.int .i64 x41))) 44 (SV.val (ptr b1 (o2 + Int.toNat x41 * 4)))) 45 (SV.val (Value.agg ⟨l3⟩))) 9 (SV.priv 9 0)) 8 (SV.val (Value.int .i64 x41))) (upd (upd V0 9 (73, [(Value.int .u8 0), (Value.int .u8 0), (Value.int .u8 0), (Value.int .u8 0)])) 9 (73, (splice [(Value.int .u8 0), (Value.int .u8 0), (Value.int .u8 0), (Value.int .u8 0)] 0 l3))) hp) else False) else False) else False)))) := by kernel_rfl
theorem F44_r5 (e : Env) (x0a : Option Addr) (x0n : Nat) (x0c : Nat) (x8 : Int) (k9 : List Value) (hp : HP) (K : Env → PV → HP → Prop) : RW Try.prog 59 [9] (opsAt Try.f44 [1, 1, 0, 1, 0, 0, 1, 1, 0, 0, 1, 0]) (List.range 5) (upd (upd (upd e 9 (SV.priv 9 0)) 8 (SV.val (Value.int .i64 x8))) 0 (SV.val (Value.slice x0a x0n x0c))) (upd V0 9 (73, k9)) hp K =
    ((0 ≤ (x8 : Int)) ∧ ((x8 : Int) ≤ (x0c : Nat)) ∧ (ldL (cellsN k9 0 4) fun l1 => (CF Try.prog 92 [(Value.slice x0a (Int.toNat x8) x0c), (Value.agg ⟨l1⟩)] hp fun u2 h3 => (boolV u2 fun q4 => (K (upd (upd (upd (upd (upd (upd (upd (upd e 9 (SV.priv 9 0)) 8 (SV.val (Value.int .i64 x8))) 0 (SV.val (Value.slice x0a x0n x0c))) 46 (SV.val (Value.slice x0a x0n x0c))) 47 (SV.val (Value.int .i64 x8))) 48 (SV.val (Value.slice x0a (Int.toNat x8) x0c))) 49 (SV.val (Value.agg ⟨l1⟩))) 50 (SV.val (Value.bool q4))) (upd V0 9 (73, k9)) h3))))) := by kernel_rfl
theorem F44_r6 (e : Env) (hp : HP) (K : Env → PV → HP → Prop) : RW Try.prog 59 [9] (opsAt Try.f44 [1, 1, 0, 1, 0, 0, 1, 1, 0, 0, 1, 1, 0, 0]) (List.range 2) e V0 hp K =
    (K (upd (upd e 6 (SV.val (Value.pointer none))) 7 (SV.val (Value.int .i64 1))) V0 hp) := by kernel_rfl
theorem F44_r7 (e : Env) (x41 : Int) (hp : HP) (K : Env → PV → HP → Prop) : RW Try.prog 59 [9] (opsAt Try.f44 [1, 1, 0, 1, 0, 0, 1, 1, 1]) (List.range 2) (upd e 41 (SV.val (Value.int .i64 x41))) V0 hp K =
    (K (upd (upd (upd e 41 (SV.val (Value.int .i64 x41))) 51 (SV.val (Value.int .i64 (IntKind.wrap .i64 (x41 + 1))))) 41 (SV.val (Value.int .i64 (IntKind.wrap .i64 (x41 + 1))))) V0 hp) := by kernel_rfl
def F44_l4 (x0a : Option Addr) (x0n : Nat) (x0c : Nat) (x1 : Int) (x2 : Int) (x39a : Option Addr) (x39n : Nat) (x39c : Nat) (x40 : Int) (K : Value → HP → Prop) (I4 : (Int) → HP → Prop) (x41 : Int) (hp : HP) : Prop :=
  (ite2 (decide ((x41 : Int) < x40)) ((0 ≤ (x41 : Int)) ∧ ((x41 : Int) < (x39n : Nat)) ∧ (ptrN x39a fun b_8 o_9 => (ldL (HP.cellN hp b_8 (o_9 + Int.toNat x41 * 4) 4) fun l_10 => (if List.length l_10 = 4 then (if List.all l_10 one = true then (if 0 + List.length l_10 ≤ List.length [(Value.int .u8 0), (Value.int .u8 0), (Value.int .u8 0), (Value.int .u8 0)] then ((0 ≤ (x41 : Int)) ∧ ((x41 : Int) ≤ (x0c : Nat)) ∧ (ldL (cellsN (splice [(Value.int .u8 0), (Value.int .u8 0), (Value.int .u8 0), (Value.int .u8 0)] 0 l_10) 0 4) fun l_11 => (CF Try.prog 92 [(Value.slice x0a (Int.toNat x41) x0c), (Value.agg ⟨l_11⟩)] hp fun u_12 h_13 => (boolV u_12 fun q_14 => (ite2 q_14 (K (.tuple ⟨[(Value.pointer none), (Value.int .i64 1)]⟩) h_13) (I4 (IntKind.wrap .i64 (x41 + 1)) h_13)))))) else False) else False) else False)))) (F44_j2 x0a x0n x0c x1 x2 hp  K))
def F44_j3 (x0a : Option Addr) (x0n : Nat) (x0c : Nat) (x1 : Int) (x2 : Int) (x39a : Option Addr) (x39n : Nat) (x39c : Nat) (x40 : Int) (x41 : Int) (hp : HP) (K : Value → HP → Prop) : Prop :=
  (LoopP (σ := Int) (fun I s hp => F44_l4 x0a x0n x0c x1 x2 x39a x39n x39c x40  K I s hp) x41 hp)
theorem F44_r8 (e : Env) (x0a : Option Addr) (x0n : Nat) (x0c : Nat) (hp : HP) (K : Env → PV → HP → Prop) : RW Try.prog 59 [9] (opsAt Try.f44 [1, 1, 0, 0]) (List.range 3) (upd e 0 (SV.val (Value.slice x0a x0n x0c))) V0 hp K =
    (K (upd (upd (upd (upd e 0 (SV.val (Value.slice x0a x0n x0c))) 39 (SV.val (Value.slice x0a x0n x0c))) 40 (SV.val (Value.int .i64 (x0n : Nat)))) 41 (SV.val (Value.int .i64 0))) V0 hp) := by kernel_rfl
def F44_j1 (x0a : Option Addr) (x0n : Nat) (x0c : Nat) (x1 : Int) (x2 : Int) (x38 : Bool) (hp : HP) (K : Value → HP → Prop) : Prop :=
  (ite2 x38 (K (.tuple ⟨[(Value.pointer none), (Value.int .i64 1)]⟩) hp) (F44_j3 x0a x0n x0c x1 x2 x0a x0n x0c (x0n : Nat) 0 hp  K))
theorem F44_r9 (e : Env) (x0a : Option Addr) (x0n : Nat) (x0c : Nat) (x1 : Int) (x2 : Int) (hp : HP) (K : Env → PV → HP → Prop) : RW Try.prog 59 [9] (opsAt Try.f44 [1, 0, 0]) (List.range 29) (upd (upd (upd e 2 (SV.val (Value.int .i64 x2))) 1 (SV.val (Value.int .i64 x1))) 0 (SV.val (Value.slice x0a x0n x0c))) V0 hp K =
    (ite2 (decide (((x0n : Nat) : Int) < 1)) (K (upd (upd (upd (upd (upd (upd (upd (upd (upd (upd (upd (upd (upd (upd (upd (upd (upd (upd (upd (upd (upd (upd (upd (upd (upd (upd (upd (upd (upd (upd (upd (upd e 2 (SV.val (Value.int .i64 x2))) 1 (SV.val (Value.int .i64 x1))) 0 (SV.val (Value.slice x0a x0n x0c))) 10 (SV.val (Value.slice x0a x0n x0c))) 11 (SV.val (Value.int .i64 (x0n : Nat)))) 12 (SV.val (Value.bool (decide (((x0n : Nat) : Int) < 1))))) 13 (SV.val (Value.bool true))) 14 (SV.val undef)) 15 (SV.val undef)) 16 (SV.val undef)) 17 (SV.val (Value.bool true))) 18 (SV.val (Value.bool true))) 19 (SV.val undef)) 20 (SV.val undef)) 21 (SV.val undef)) 22 (SV.val (Value.bool true))) 23 (SV.val (Value.bool true))) 24 (SV.val undef)) 25 (SV.val undef)) 26 (SV.val undef)) 27 (SV.val (Value.bool true))) 28 (SV.val (Value.bool true))) 29 (SV.val undef)) 30 (SV.val undef)) 31 (SV.val undef)) 32 (SV.val (Value.bool true))) 33 (SV.val (Value.bool true))) 34 (SV.val undef)) 35 (SV.val undef)) 36 (SV.val undef)) 37 (SV.val undef)) 38 (SV.val (Value.bool true))) V0 hp) (ite2 (decide (((x0n : Nat) : Int) > 4)) (K (upd (upd (upd (upd (upd (upd (upd (upd (upd (upd (upd (upd (upd (upd (upd (upd (upd (upd (upd (upd (upd (upd (upd (upd (upd (upd (upd (upd (upd (upd (upd (upd e 2 (SV.val (Value.int .i64 x2))) 1 (SV.val (Value.int .i64 x1))) 0 (SV.val (Value.slice x0a x0n x0c))) 10 (SV.val (Value.slice x0a x0n x0c))) 11 (SV.val (Value.int .i64 (x0n : Nat)))) 12 (SV.val (Value.bool (decide (((x0n : Nat) : Int) < 1))))) 13 (SV.val (Value.bool false))) 14 (SV.val (Value.slice x0a x0n x0c))) 15 (SV.val (Value.int .i64 (x0n : Nat)))) 16 (SV.val (Value.bool (decide (((x0n : Nat) : Int) > 4))))) 17 (SV.val (Value.bool (decide (((x0n : Nat) : Int) > 4))))) 18 (SV.val (Value.bool true))) 19 (SV.val undef)) 20 (SV.val undef)) 21 (SV.val undef)) 22 (SV.val (Value.bool true))) 23 (SV.val (Value.bool true))) 24 (SV.val undef)) 25 (SV.val undef)) 26 (SV.val undef)) 27 (SV.val (Value.bool true))) 28 (SV.val (Value.bool true))) 29 (SV.val undef)) 30 (SV.val undef)) 31 (SV.val undef)) 32 (SV.val (Value.bool true))) 33 (SV.val (Value.bool true))) 34 (SV.val undef)) 35 (SV.val undef)) 36 (SV.val undef)) 37 (SV.val undef)) 38 (SV.val (Value.bool true))) V0 hp) (CF Try.prog 74 [(Value.int .i64 x1)] hp fun u1 h2 => (boolV u1 fun q3 => (ite2 (!q3) (K (upd (upd (upd (upd (upd (upd (upd (upd (upd (upd (upd (upd (upd (upd (upd (upd (upd (upd (upd (upd (upd (upd (upd (upd (upd (upd (upd (upd (upd (upd (upd (upd e 2 (SV.val (Value.int .i64 x2))) 1 (SV.val (Value.int .i64 x1))) 0 (SV.val (Value.slice x0a x0n x0c))) 10 (SV.val (Value.slice x0a x0n x0c))) 11 (SV.val (Value.int .i64 (x0n : Nat)))) 12 (SV.val (Value.bool (decide (((x0n : Nat) : Int) < 1))))) 13 (SV.val (Value.bool false))) 14 (SV.val (Value.slice x0a x0n x0c))) 15 (SV.val (Value.int .i64 (x0n : Nat)))) 16 (SV.val (Value.bool (decide (((x0n : Nat) : Int) > 4))))) 17 (SV.val (Value.bool (decide (((x0n : Nat) : Int) > 4))))) 18 (SV.val (Value.bool false))) 19 (SV.val (Value.int .i64 x1))) 20 (SV.val (Value.bool q3))) 21 (SV.val (Value.bool (!q3)))) 22 (SV.val (Value.bool (!q3)))) 23 (SV.val (Value.bool true))) 24 (SV.val undef)) 25 (SV.val undef)) 26 (SV.val undef)) 27 (SV.val (Value.bool true))) 28 (SV.val (Value.bool true))) 29 (SV.val undef)) 30 (SV.val undef)) 31 (SV.val undef)) 32 (SV.val (Value.bool true))) 33 (SV.val (Value.bool true))) 34 (SV.val undef)) 35 (SV.val undef)) 36 (SV.val undef)) 37 (SV.val undef)) 38 (SV.val (Value.bool true))) V0 h2) (CF Try.prog 74 [(Value.int .i64 x2)] h2 fun u4 h5 => (boolV u4 fun q6 => (ite2 (!q6) (K (upd (upd (upd (upd (upd (upd (upd (upd (upd (upd (upd (upd (upd (upd (upd (upd (upd (upd (upd (upd (upd (upd (upd (upd (upd (upd (upd (upd (upd (upd (upd (upd e 2 (SV.val (Value.int .i64 x2))) 1 (SV.val (Value.int .i64 x1))) 0 (SV.val (Value.slice x0a x0n x0c))) 10 (SV.val (Value.slice x0a x0n x0c))) 11 (SV.val (Value.int .i64 (x0n : Nat)))) 12 (SV.val (Value.bool (decide (((x0n : Nat) : Int) < 1))))) 13 (SV.val (Value.bool false))) 14 (SV.val (Value.slice x0a x0n x0c))) 15 (SV.val (Value.int .i64 (x0n : Nat)))) 16 (SV.val (Value.bool (decide (((x0n : Nat) : Int) > 4))))) 17 (SV.val (Value.bool (decide (((x0n : Nat) : Int) > 4))))) 18 (SV.val (Value.bool false))) 19 (SV.val (Value.int .i64 x1))) 20 (SV.val (Value.bool q3))) 21 (SV.val (Value.bool (!q3)))) 22 (SV.val (Value.bool (!q3)))) 23 (SV.val (Value.bool false))) 24 (SV.val (Value.int .i64 x2))) 25 (SV.val (Value.bool q6))) 26 (SV.val (Value.bool (!q6)))) 27 (SV.val (Value.bool (!q6)))) 28 (SV.val (Value.bool true))) 29 (SV.val undef)) 30 (SV.val undef)) 31 (SV.val undef)) 32 (SV.val (Value.bool true))) 33 (SV.val (Value.bool true))) 34 (SV.val undef)) 35 (SV.val undef)) 36 (SV.val undef)) 37 (SV.val undef)) 38 (SV.val (Value.bool true))) V0 h5) (ite2 (decide ((x2 : Int) < x1)) (K (upd (upd (upd (upd (upd (upd (upd (upd (upd (upd (upd (upd (upd (upd (upd (upd (upd (upd (upd (upd (upd (upd (upd (upd (upd (upd (upd (upd (upd (upd (upd (upd e 2 (SV.val (Value.int .i64 x2))) 1 (SV.val (Value.int .i64 x1))) 0 (SV.val (Value.slice x0a x0n x0c))) 10 (SV.val (Value.slice x0a x0n x0c))) 11 (SV.val (Value.int .i64 (x0n : Nat)))) 12 (SV.val (Value.bool (decide (((x0n : Nat) : Int) < 1))))) 13 (SV.val (Value.bool false))) 14 (SV.val (Value.slice x0a x0n x0c))) 15 (SV.val (Value.int .i64 (x0n : Nat)))) 16 (SV.val (Value.bool (decide (((x0n : Nat) : Int) > 4))))) 17 (SV.val (Value.bool (decide (((x0n : Nat) : Int) > 4))))) 18 (SV.val (Value.bool false))) 19 (SV.val (Value.int .i64 x1))) 20 (SV.val (Value.bool q3))) 21 (SV.val (Value.bool (!q3)))) 22 (SV.val (Value.bool (!q3)))) 23 (SV.val (Value.bool false))) 24 (SV.val (Value.int .i64 x2))) 25 (SV.val (Value.bool q6))) 26 (SV.val (Value.bool (!q6)))) 27 (SV.val (Value.bool (!q6)))) 28 (SV.val (Value.bool false))) 29 (SV.val (Value.int .i64 x2))) 30 (SV.val (Value.int .i64 x1))) 31 (SV.val (Value.bool (decide ((x2 : Int) < x1))))) 32 (SV.val (Value.bool (decide ((x2 : Int) < x1))))) 33 (SV.val (Value.bool true))) 34 (SV.val undef)) 35 (SV.val undef)) 36 (SV.val undef)) 37 (SV.val undef)) 38 (SV.val (Value.bool true))) V0 h5) (K (upd (upd (upd (upd (upd (upd (upd (upd (upd (upd (upd (upd (upd (upd (upd (upd (upd (upd (upd (upd (upd (upd (upd (upd (upd (upd (upd (upd (upd (upd (upd (upd e 2 (SV.val (Value.int .i64 x2))) 1 (SV.val (Value.int .i64 x1))) 0 (SV.val (Value.slice x0a x0n x0c))) 10 (SV.val (Value.slice x0a x0n x0c))) 11 (SV.val (Value.int .i64 (x0n : Nat)))) 12 (SV.val (Value.bool (decide (((x0n : Nat) : Int) < 1))))) 13 (SV.val (Value.bool false))) 14 (SV.val (Value.slice x0a x0n x0c))) 15 (SV.val (Value.int .i64 (x0n : Nat)))) 16 (SV.val (Value.bool (decide (((x0n : Nat) : Int) > 4))))) 17 (SV.val (Value.bool (decide (((x0n : Nat) : Int) > 4))))) 18 (SV.val (Value.bool false))) 19 (SV.val (Value.int .i64 x1))) 20 (SV.val (Value.bool q3))) 21 (SV.val (Value.bool (!q3)))) 22 (SV.val (Value.bool (!q3)))) 23 (SV.val (Value.bool false))) 24 (SV.val (Value.int .i64 x2))) 25 (SV.val (Value.bool q6))) 26 (SV.val (Value.bool (!q6)))) 27 (SV.val (Value.bool (!q6)))) 28 (SV.val (Value.bool false))) 29 (SV.val (Value.int .i64 x2))) 30 (SV.val (Value.int .i64 x1))) 31 (SV.val (Value.bool (decide ((x2 : Int) < x1))))) 32 (SV.val (Value.bool (decide ((x2 : Int) < x1))))) 33 (SV.val (Value.bool false))) 34 (SV.val (Value.int .i64 x2))) 35 (SV.val (Value.int .i64 x1))) 36 (SV.val (Value.int .i64 (IntKind.wrap .i64 (x2 - x1))))) 37 (SV.val (Value.bool (decide (((IntKind.wrap .i64 (x2 - x1)) : Int) ≥ 1024))))) 38 (SV.val (Value.bool (decide (((IntKind.wrap .i64 (x2 - x1)) : Int) ≥ 1024))))) V0 h5)))))))))) := by kernel_rfl
def F44 (x0a : Option Addr) (x0n : Nat) (x0c : Nat) (x1 : Int) (x2 : Int) (hp : HP) (K : Value → HP → Prop) : Prop :=
  (ite2 (decide (((x0n : Nat) : Int) < 1)) (F44_j1 x0a x0n x0c x1 x2 true hp  K) (ite2 (decide (((x0n : Nat) : Int) > 4)) (F44_j1 x0a x0n x0c x1 x2 true hp  K) (CF Try.prog 74 [(Value.int .i64 x1)] hp fun u_15 h_16 => (boolV u_15 fun q_17 => (ite2 (!q_17) (F44_j1 x0a x0n x0c x1 x2 true h_16  K) (CF Try.prog 74 [(Value.int .i64 x2)] h_16 fun u_18 h_19 => (boolV u_18 fun q_20 => (ite2 (!q_20) (F44_j1 x0a x0n x0c x1 x2 true h_19  K) (ite2 (decide ((x2 : Int) < x1)) (F44_j1 x0a x0n x0c x1 x2 true h_19  K) (F44_j1 x0a x0n x0c x1 x2 (decide (((IntKind.wrap .i64 (x2 - x1)) : Int) ≥ 1024)) h_19  K))))))))))
noncomputable def F44_code : Code := (.seq (.region 0 (opsAt Try.f44 [0]) false) (.seq (.seq (.region 1 (opsAt Try.f44 [1, 0, 0]) false) (.cond (.tmp 38) (.seq (.region 2 (opsAt Try.f44 [1, 0, 1, 0, 0]) false) .ret) .skip)) (.seq (.seq (.region 3 (opsAt Try.f44 [1, 1, 0, 0]) false) (.block 0 (.loop (.seq (.region 4 (opsAt Try.f44 [1, 1, 0, 1, 0, 0, 0]) false) (.seq (.cond (.tmp 42) .skip (.exit 0)) (.seq (.block 1 (.seq (.region 5 (opsAt Try.f44 [1, 1, 0, 1, 0, 0, 1, 1, 0, 0, 0]) false) (.seq (.region 6 (opsAt Try.f44 [1, 1, 0, 1, 0, 0, 1, 1, 0, 0, 1, 0]) true) (.cond (.tmp 50) (.seq (.region 7 (opsAt Try.f44 [1, 1, 0, 1, 0, 0, 1, 1, 0, 0, 1, 1, 0, 0]) false) .ret) .skip)))) (.region 8 (opsAt Try.f44 [1, 1, 0, 1, 0, 0, 1, 1, 1]) false))))))) (.seq (.region 9 (opsAt Try.f44 [1, 1, 1, 0]) false) .ret))))
theorem F44_body : Try.f44.body = some F44_code := by kernel_rfl
theorem F44_ok (x0a : Option Addr) (x0n : Nat) (x0c : Nat) (x1 : Int) (x2 : Int) (hp : HP) (K : Value → HP → Prop) (h : F44 x0a x0n x0c x1 x2 hp K) : CF Try.prog 44 [(Value.slice x0a x0n x0c), (Value.int .i64 x1), (Value.int .i64 x2)] hp K := by
  refine ⟨by kernel_rfl, AC.intro (N := 59) Try.func44 F44_body rfl (Nat.le_of_ble_eq_true rfl) ?_⟩
  unfold F44 at h
  unfold F44_code
  refine AWP.seq' ?_
  refine AWP.rgn (F44_r0 (upd (upd (upd E0 2 (SV.val (Value.int .i64 x2))) 1 (SV.val (Value.int .i64 x1))) 0 (SV.val (Value.slice x0a x0n x0c)))  hp _) ?_ (RefOk.v 0 _ (RefOk.v 1 _ (RefOk.v 2 _ (RefOk.nil _)))) (Sub.cons rfl (Sub.cons rfl (Sub.cons rfl (Sub.nil _)))) (Sub.nil _)
  refine AWP.seq' ?_
  refine AWP.seq (fun env pv hp => ∃ (x0a : Option Addr) (x0n : Nat) (x0c : Nat) (x1 : Int) (x2 : Int) (x38 : Bool), Sub (upd (upd (upd (upd E0 38 (SV.val (Value.bool x38))) 2 (SV.val (Value.int .i64 x2))) 1 (SV.val (Value.int .i64 x1))) 0 (SV.val (Value.slice x0a x0n x0c))) env ∧ Sub V0 pv ∧ (F44_j1 x0a x0n x0c x1 x2 x38 hp  K)) ?_ ?_
  · refine AWP.rgn (F44_r9 E0 x0a x0n x0c x1 x2 hp _) ?_ (RefOk.v 0 _ (RefOk.v 1 _ (RefOk.v 2 _ (RefOk.nil _)))) (Sub.cons rfl (Sub.cons rfl (Sub.cons rfl (Sub.nil _)))) (Sub.nil _)
    refine ite2_mono h (fun h => ?_) (fun h => ?_)
    · exact ⟨x0a, x0n, x0c, x1, x2, true, (Sub.cons rfl (Sub.cons rfl (Sub.cons rfl (Sub.cons rfl (Sub.nil _))))), (Sub.nil _), h⟩
    · refine ite2_mono h (fun h => ?_) (fun h => ?_)
      · exact ⟨x0a, x0n, x0c, x1, x2, true, (Sub.cons rfl (Sub.cons rfl (Sub.cons rfl (Sub.cons rfl (Sub.nil _))))), (Sub.nil _), h⟩
      · refine CF_mono h (fun u_15 h_16 h => ?_)
        refine boolV_mono h (fun q_17 h => ?_)
        refine ite2_mono h (fun h => ?_) (fun h => ?_)
        · exact ⟨x0a, x0n, x0c, x1, x2, true, (Sub.cons rfl (Sub.cons rfl (Sub.cons rfl (Sub.cons rfl (Sub.nil _))))), (Sub.nil _), h⟩
        · refine CF_mono h (fun u_18 h_19 h => ?_)
          refine boolV_mono h (fun q_20 h => ?_)
          refine ite2_mono h (fun h => ?_) (fun h => ?_)
          · exact ⟨x0a, x0n, x0c, x1, x2, true, (Sub.cons rfl (Sub.cons rfl (Sub.cons rfl (Sub.cons rfl (Sub.nil _))))), (Sub.nil _), h⟩
          · refine ite2_mono h (fun h => ?_) (fun h => ?_)
            · exact ⟨x0a, x0n, x0c, x1, x2, true, (Sub.cons rfl (Sub.cons rfl (Sub.cons rfl (Sub.cons rfl (Sub.nil _))))), (Sub.nil _), h⟩
            · exact ⟨x0a, x0n, x0c, x1, x2, (decide (((IntKind.wrap .i64 (x2 - x1)) : Int) ≥ 1024)), (Sub.cons rfl (Sub.cons rfl (Sub.cons rfl (Sub.cons rfl (Sub.nil _))))), (Sub.nil _), h⟩
  · rintro env pv hp ⟨x0a, x0n, x0c, x1, x2, x38, he, hv, h⟩
    refine AWP.sub (env' := (upd (upd (upd (upd E0 38 (SV.val (Value.bool x38))) 2 (SV.val (Value.int .i64 x2))) 1 (SV.val (Value.int .i64 x1))) 0 (SV.val (Value.slice x0a x0n x0c)))) (pv' := V0) ?_ (RefOk.v 0 _ (RefOk.v 1 _ (RefOk.v 2 _ (RefOk.v 38 _ (RefOk.nil _))))) he hv (HSub.refl _)
    clear he hv
    unfold F44_j1 at h
    refine AWP.cond (t := x38) rfl (fun e => ?_) (fun e => ?_)
    · replace h := ite2_t h e
      refine AWP.seq' ?_
      refine AWP.rgn (F44_r1 E0  hp _) ?_ (RefOk.nil _) (Sub.nil _) (Sub.nil _)
      refine AWP.ret ?_
      exact h
    · replace h := ite2_f h e
      refine AWP.skip ?_
      refine AWP.seq (fun env pv hp => ∃ (x0a : Option Addr) (x0n : Nat) (x0c : Nat) (x1 : Int) (x2 : Int), Sub (upd (upd (upd E0 2 (SV.val (Value.int .i64 x2))) 1 (SV.val (Value.int .i64 x1))) 0 (SV.val (Value.slice x0a x0n x0c))) env ∧ Sub V0 pv ∧ (F44_j2 x0a x0n x0c x1 x2 hp  K)) ?_ ?_
      · refine AWP.seq (fun env pv hp => ∃ (x0a : Option Addr) (x0n : Nat) (x0c : Nat) (x1 : Int) (x2 : Int) (x39a : Option Addr) (x39n : Nat) (x39c : Nat) (x40 : Int) (x41 : Int), Sub (upd (upd (upd (upd (upd (upd E0 41 (SV.val (Value.int .i64 x41))) 40 (SV.val (Value.int .i64 x40))) 39 (SV.val (Value.slice x39a x39n x39c))) 2 (SV.val (Value.int .i64 x2))) 1 (SV.val (Value.int .i64 x1))) 0 (SV.val (Value.slice x0a x0n x0c))) env ∧ Sub V0 pv ∧ (F44_j3 x0a x0n x0c x1 x2 x39a x39n x39c x40 x41 hp  K)) ?_ ?_
        · refine AWP.rgn (F44_r8 (upd (upd E0 2 (SV.val (Value.int .i64 x2))) 1 (SV.val (Value.int .i64 x1))) x0a x0n x0c hp _) ?_ (RefOk.v 0 _ (RefOk.v 1 _ (RefOk.v 2 _ (RefOk.nil _)))) (Sub.cons rfl (Sub.cons rfl (Sub.cons rfl (Sub.nil _)))) (Sub.nil _)
          exact ⟨x0a, x0n, x0c, x1, x2, x0a, x0n, x0c, (x0n : Nat), 0, (Sub.cons rfl (Sub.cons rfl (Sub.cons rfl (Sub.cons rfl (Sub.cons rfl (Sub.cons rfl (Sub.nil _))))))), (Sub.nil _), h⟩
        · rintro env pv hp ⟨x0a, x0n, x0c, x1, x2, x39a, x39n, x39c, x40, x41, he, hv, h⟩
          refine AWP.sub (env' := (upd (upd (upd (upd (upd (upd E0 41 (SV.val (Value.int .i64 x41))) 40 (SV.val (Value.int .i64 x40))) 39 (SV.val (Value.slice x39a x39n x39c))) 2 (SV.val (Value.int .i64 x2))) 1 (SV.val (Value.int .i64 x1))) 0 (SV.val (Value.slice x0a x0n x0c)))) (pv' := V0) ?_ (RefOk.v 0 _ (RefOk.v 1 _ (RefOk.v 2 _ (RefOk.v 39 _ (RefOk.v 40 _ (RefOk.v 41 _ (RefOk.nil _))))))) he hv (HSub.refl _)
          clear he hv
          unfold F44_j3 at h
          refine AWP.block ?_
          refine AWP.loop (σ := Int) (fun I s hp => F44_l4 x0a x0n x0c x1 x2 x39a x39n x39c x40  K I s hp) (fun s => (upd (upd (upd (upd (upd (upd E0 41 (SV.val (Value.int .i64 s))) 40 (SV.val (Value.int .i64 x40))) 39 (SV.val (Value.slice x39a x39n x39c))) 2 (SV.val (Value.int .i64 x2))) 1 (SV.val (Value.int .i64 x1))) 0 (SV.val (Value.slice x0a x0n x0c)))) (fun s => V0) x41 h (fun s => (RefOk.v 0 _ (RefOk.v 1 _ (RefOk.v 2 _ (RefOk.v 39 _ (RefOk.v 40 _ (RefOk.v 41 _ (RefOk.nil _)))))))) (Sub.cons rfl (Sub.cons rfl (Sub.cons rfl (Sub.cons rfl (Sub.cons rfl (Sub.cons rfl (Sub.nil _))))))) (Sub.nil _) ?_
          intro I4 s hp h
          obtain ⟨x41, hs⟩ : ∃ x, x = s := ⟨s, rfl⟩
          subst hs
          replace h : F44_l4 x0a x0n x0c x1 x2 x39a x39n x39c x40  K I4 x41 hp := h
          unfold F44_l4 at h
          refine AWP.seq' ?_
          refine AWP.rgn (F44_r3 (upd (upd (upd (upd E0 39 (SV.val (Value.slice x39a x39n x39c))) 2 (SV.val (Value.int .i64 x2))) 1 (SV.val (Value.int .i64 x1))) 0 (SV.val (Value.slice x0a x0n x0c))) x40 x41 hp _) ?_ (RefOk.v 40 _ (RefOk.v 41 _ (RefOk.v 0 _ (RefOk.v 1 _ (RefOk.v 2 _ (RefOk.v 39 _ (RefOk.nil _))))))) (Sub.cons rfl (Sub.cons rfl (Sub.cons rfl (Sub.cons rfl (Sub.cons rfl (Sub.cons rfl (Sub.nil _))))))) (Sub.nil _)
          refine AWP.seq' ?_
          refine AWP.cond (t := (decide ((x41 : Int) < x40))) rfl (fun e => ?_) (fun e => ?_)
          · replace h := ite2_t h e
            refine AWP.skip ?_
            refine AWP.seq' ?_
            refine AWP.block ?_
            refine AWP.seq' ?_
            refine AWP.rgn (F44_r4 (upd (upd (upd (upd E0 40 (SV.val (Value.int .i64 x40))) 2 (SV.val (Value.int .i64 x2))) 1 (SV.val (Value.int .i64 x1))) 0 (SV.val (Value.slice x0a x0n x0c))) x39a x39n x39c x41 hp _) ?_ (RefOk.v 39 _ (RefOk.v 41 _ (RefOk.v 0 _ (RefOk.v 1 _ (RefOk.v 2 _ (RefOk.v 40 _ (RefOk.nil _))))))) (Sub.cons rfl (Sub.cons rfl (Sub.cons rfl (Sub.cons rfl (Sub.cons rfl (Sub.cons rfl (Sub.nil _))))))) (Sub.nil _)
            refine ⟨h.1, h.2.1, ?_⟩
            replace h := h.2.2
            refine ptrN_mono h (fun b_8 o_9 h => ?_)
            refine ldL_mono h (fun l_10 h => ?_)
            refine if_mono h (fun h => ?_)
            refine if_mono h (fun h => ?_)
            refine if_mono h (fun h => ?_)
            refine AWP.seq' ?_
            refine AWP.rgnD (by kernel_rfl) (by kernel_rfl) (F44_r5 (upd (upd (upd (upd (upd E0 41 (SV.val (Value.int .i64 x41))) 40 (SV.val (Value.int .i64 x40))) 39 (SV.val (Value.slice x39a x39n x39c))) 2 (SV.val (Value.int .i64 x2))) 1 (SV.val (Value.int .i64 x1))) x0a x0n x0c x41 (splice [(Value.int .u8 0), (Value.int .u8 0), (Value.int .u8 0), (Value.int .u8 0)] 0 l_10) hp _) ?_ (RefOk.v 0 _ (RefOk.v 8 _ (RefOk.p 9 9 0 (RefOk.v 1 _ (RefOk.v 2 _ (RefOk.v 39 _ (RefOk.v 40 _ (RefOk.v 41 _ (RefOk.nil _)))))) (fun e => by cases e)))) (Sub.cons rfl (Sub.cons rfl (Sub.cons rfl (Sub.cons rfl (Sub.cons rfl (Sub.cons rfl (Sub.cons rfl (Sub.cons rfl (Sub.nil _))))))))) (Sub.cons rfl (Sub.nil _))
            refine ⟨h.1, h.2.1, ?_⟩
            replace h := h.2.2
            refine ldL_mono h (fun l_11 h => ?_)
            refine CF_mono h (fun u_12 h_13 h => ?_)
            refine boolV_mono h (fun q_14 h => ?_)
            refine AWP.cond (t := q_14) rfl (fun e => ?_) (fun e => ?_)
            · replace h := ite2_t h e
              refine AWP.seq' ?_
              refine AWP.rgn (F44_r6 E0  h_13 _) ?_ (RefOk.nil _) (Sub.nil _) (Sub.nil _)
              refine AWP.ret ?_
              exact h
            · replace h := ite2_f h e
              refine AWP.skip ?_
              refine AWP.rgn (F44_r7 (upd (upd (upd (upd (upd E0 40 (SV.val (Value.int .i64 x40))) 39 (SV.val (Value.slice x39a x39n x39c))) 2 (SV.val (Value.int .i64 x2))) 1 (SV.val (Value.int .i64 x1))) 0 (SV.val (Value.slice x0a x0n x0c))) x41 h_13 _) ?_ (RefOk.v 41 _ (RefOk.v 0 _ (RefOk.v 1 _ (RefOk.v 2 _ (RefOk.v 39 _ (RefOk.v 40 _ (RefOk.nil _))))))) (Sub.cons rfl (Sub.cons rfl (Sub.cons rfl (Sub.cons rfl (Sub.cons rfl (Sub.cons rfl (Sub.nil _))))))) (Sub.nil _)
              exact ⟨(IntKind.wrap .i64 (x41 + 1)), (Sub.cons rfl (Sub.cons rfl (Sub.cons rfl (Sub.cons rfl (Sub.cons rfl (Sub.cons rfl (Sub.nil _))))))), (Sub.nil _), h⟩
          · replace h := ite2_f h e
            refine AWP.exit ?_
            exact ⟨x0a, x0n, x0c, x1, x2, (Sub.cons rfl (Sub.cons rfl (Sub.cons rfl (Sub.nil _)))), (Sub.nil _), h⟩
      · rintro env pv hp ⟨x0a, x0n, x0c, x1, x2, he, hv, h⟩
        refine AWP.sub (env' := (upd (upd (upd E0 2 (SV.val (Value.int .i64 x2))) 1 (SV.val (Value.int .i64 x1))) 0 (SV.val (Value.slice x0a x0n x0c)))) (pv' := V0) ?_ (RefOk.v 0 _ (RefOk.v 1 _ (RefOk.v 2 _ (RefOk.nil _)))) he hv (HSub.refl _)
        clear he hv
        unfold F44_j2 at h
        refine AWP.seq' ?_
        refine AWP.rgn (F44_r2 E0 x0a x0n x0c x1 x2 hp _) ?_ (RefOk.v 0 _ (RefOk.v 1 _ (RefOk.v 2 _ (RefOk.nil _)))) (Sub.cons rfl (Sub.cons rfl (Sub.cons rfl (Sub.nil _)))) (Sub.nil _)
        refine CF_mono h (fun u_1 h_2 h => ?_)
        refine slcV_mono h (fun a_3 n_4 c_5 h => ?_)
        refine fun b_6 hb_b_6 => ?_
        replace h := h b_6 hb_b_6
        refine fun b_7 hb_b_7 => ?_
        replace h := h b_7 hb_b_7
        refine AWP.ret ?_
        exact h

-- 46 (*interpreter/pool.Pool).Take
theorem F46_r0 (e : Env) (x1 : List Value) (hp : HP) (K : Env → PV → HP → Prop) : RW Try.prog 80 [5, 8, 11, 13] (opsAt Try.f46 [0]) (List.range 3) (upd e 1 (SV.val (Value.agg ⟨x1⟩))) V0 hp K =
    (K (upd (upd (upd (upd e 1 (SV.val (Value.agg ⟨x1⟩))) 5 (SV.priv 5 0)) 8 (SV.priv 8 0)) 9 (SV.val (Value.int .i64 0))) (upd (upd V0 5 (73, x1)) 8 (75, [(Value.int .u8 0), (Value.int .u8 0), (Value.int .u8 0), (Value.int .u8 0), (Value.int .i64 0)])) hp) := by kernel_rfl
theorem F46_r1 (e : Env) (k8 : List Value) (hp : HP) (K : Env → PV → HP → Prop) : RW Try.prog 80 [5, 8, 11, 13] (opsAt Try.f46 [1, 0, 1, 0, 0]) (List.range 3) (upd e 8 (SV.priv 8 0)) (upd V0 8 (75, k8)) hp K =
    (if List.length [(Value.int .u8 0), (Value.int .u8 0), (Value.int .u8 0), (Value.int .u8 0), (Value.int .i64 0)] = 5 then (if List.all [(Value.int .u8 0), (Value.int .u8 0), (Value.int .u8 0), (Value.int .u8 0), (Value.int .i64 0)] one = true then (if 0 + List.length [(Value.int .u8 0), (Value.int .u8 0), (Value.int .u8 0), (Value.int .u8 0), (Value.int .i64 0)] ≤ List.length k8 then (K (upd (upd (upd e 8 (SV.priv 8 0)) 25 (SV.val (Value.agg ⟨[(Value.int .u8 0), (Value.int .u8 0), (Value.int .u8 0), (Value.int .u8 0), (Value.int .i64 0)]⟩))) 9 (SV.val (Value.int .i64 2))) (upd (upd V0 8 (75, k8)) 8 (75, (splice k8 0 [(Value.int .u8 0), (Value.int .u8 0), (Value.int .u8 0), (Value.int .u8 0), (Value.int .i64 0)]))) hp) else False) else False) else False) := by kernel_rfl
theorem F46_r2 (e : Env) (x2 : Int) (k5 : List Value) (k8 : List Value) (hp : HP) (K : Env → PV → HP → Prop) : RW Try.prog 80 [5, 8, 11, 13] (opsAt Try.f46 [1, 1, 0, 0]) (List.range 3) (upd e 2 (SV.val (Value.int .i64 x2))) (upd (upd V0 8 (75, k8)) 5 (73, k5)) hp K =
    (CF Try.prog 74 [(Value.int .i64 x2)] hp fun u1 h2 => (boolV u1 fun q3 => (K (upd (upd (upd (upd e 2 (SV.val (Value.int .i64 x2))) 26 (SV.val (Value.int .i64 x2))) 27 (SV.val (Value.bool q3))) 28 (SV.val (Value.bool (!q3)))) (upd (upd V0 8 (75, k8)) 5 (73, k5)) h2))) := by kernel_rfl
theorem F46_r3 (e : Env) (k8 : List Value) (hp : HP) (K : Env → PV → HP → Prop) : RW Try.prog 80 [5, 8, 11, 13] (opsAt Try.f46 [1, 1, 0, 1, 0, 0]) (List.range 3) (upd e 8 (SV.priv 8 0)) (upd V0 8 (75, k8)) hp K =
    (if List.length [(Value.int .u8 0), (Value.int .u8 0), (Value.int .u8 0), (Value.int .u8 0), (Value.int .i64 0)] = 5 then (if List.all [(Value.int .u8 0), (Value.int .u8 0), (Value.int .u8 0), (Value.int .u8 0), (Value.int .i64 0)] one = true then (if 0 + List.length [(Value.int .u8 0), (Value.int .u8 0), (Value.int .u8 0), (Value.int .u8 0), (Value.int .i64 0)] ≤ List.length k8 then (K (upd (upd (upd e 8 (SV.priv 8 0)) 29 (SV.val (Value.agg ⟨[(Value.int .u8 0), (Value.int .u8 0), (Value.int .u8 0), (Value.int .u8 0), (Value.int .i64 0)]⟩))) 9 (SV.val (Value.int .i64 1))) (upd (upd V0 8 (75, k8)) 8 (75, (splice k8 0 [(Value.int .u8 0), (Value.int .u8 0), (Value.int .u8 0), (Value.int .u8 0), (Value.int .i64 0)]))) hp) else False) else False) else False) := by kernel_rfl
theorem F46_r4 (e : Env) (k8 : List Value) (hp : HP) (K : Env → PV → HP → Prop) : RW Try.prog 80 [5, 8, 11, 13] (opsAt Try.f46 [1, 1, 1, 1, 0]) (List.range 3) (upd e 8 (SV.priv 8 0)) (upd V0 8 (75, k8)) hp K =
    (if List.length [(Value.int .u8 0), (Value.int .u8 0), (Value.int .u8 0), (Value.int .u8 0), (Value.int .i64 0)] = 5 then (if List.all [(Value.int .u8 0), (Value.int .u8 0), (Value.int .u8 0), (Value.int .u8 0), (Value.int .i64 0)] one = true then (if 0 + List.length [(Value.int .u8 0), (Value.int .u8 0), (Value.int .u8 0), (Value.int .u8 0), (Value.int .i64 0)] ≤ List.length k8 then (K (upd (upd (upd e 8 (SV.priv 8 0)) 79 (SV.val (Value.agg ⟨[(Value.int .u8 0), (Value.int .u8 0), (Value.int .u8 0), (Value.int .u8 0), (Value.int .i64 0)]⟩))) 9 (SV.val (Value.int .i64 6))) (upd (upd V0 8 (75, k8)) 8 (75, (splice k8 0 [(Value.int .u8 0), (Value.int .u8 0), (Value.int .u8 0), (Value.int .u8 0), (Value.int .i64 0)]))) hp) else False) else False) else False) := by kernel_rfl
def F46_j2 (k8 : List Value) (hp : HP) (K : Value → HP → Prop) : Prop :=
  (if List.length [(Value.int .u8 0), (Value.int .u8 0), (Value.int .u8 0), (Value.int .u8 0), (Value.int .i64 0)] = 5 then (if List.all [(Value.int .u8 0), (Value.int .u8 0), (Value.int .u8 0), (Value.int .u8 0), (Value.int .i64 0)] one = true then (if 0 + List.length [(Value.int .u8 0), (Value.int .u8 0), (Value.int .u8 0), (Value.int .u8 0), (Value.int .i64 0)] ≤ List.length k8 then (ldL (cellsN (splice k8 0 [(Value.int .u8 0), (Value.int .u8 0), (Value.int .u8 0), (Value.int .u8 0), (Value.int .i64 0)]) 0 5) fun l_6 => (K (.tuple ⟨[(.agg ⟨l_6⟩), (Value.int .i64 6)]⟩) hp)) else False) else False) else False)
theorem F46_r5 (e : Env) (x33 : Int) (x34 : Int) (k8 : List Value) (hp : HP) (K : Env → PV → HP → Prop) : RW Try.prog 80 [5, 8, 11, 13] (opsAt Try.f46 [1, 1, 1, 0, 1, 0, 0, 0]) (List.range 1) (upd (upd e 34 (SV.val (Value.int .i64 x34))) 33 (SV.val (Value.int .i64 x33))) (upd V0 8 (75, k8)) hp K =
    (K (upd (upd (upd e 34 (SV.val (Value.int .i64 x34))) 33 (SV.val (Value.int .i64 x33))) 35 (SV.val (Value.bool (decide ((x34 : Int) < x33))))) (upd V0 8 (75, k8)) hp) := by kernel_rfl
theorem F46_r6 (e : Env) (x34 : Int) (k8 : List Value) (hp : HP) (K : Env → PV → HP → Prop) : RW Try.prog 80 [5, 8, 11, 13] (opsAt Try.f46 [1, 1, 1, 0, 1, 0, 0, 1, 1, 1]) (List.range 2) (upd e 34 (SV.val (Value.int .i64 x34))) (upd V0 8 (75, k8)) hp K =
    (K (upd (upd (upd e 34 (SV.val (Value.int .i64 x34))) 78 (SV.val (Value.int .i64 (IntKind.wrap .i64 (x34 + 1))))) 34 (SV.val (Value.int .i64 (IntKind.wrap .i64 (x34 + 1))))) (upd V0 8 (75, k8)) hp) := by kernel_rfl
def F46_j5 (x0 : Option Addr) (x2 : Int) (x3 : Bool) (x32a : Option Addr) (x32n : Nat) (x32c : Nat) (x33 : Int) (x34 : Int) (k8 : List Value) (hp : HP) (I4 : (Int × (List Value)) → HP → Prop) (K : Value → HP → Prop) : Prop :=
  (I4 ((IntKind.wrap .i64 (x34 + 1)), k8) hp)
theorem F46_r7 (e : Env) (x32a : Option Addr) (x32n : Nat) (x32c : Nat) (x34 : Int) (k8 : List Value) (hp : HP) (K : Env → PV → HP → Prop) : RW Try.prog 80 [5, 8, 11, 13] (opsAt Try.f46 [1, 1, 1, 0, 1, 0, 0, 1, 1, 0, 0, 0]) (List.range 4) (upd (upd e 34 (SV.val (Value.int .i64 x34))) 32 (SV.val (Value.slice x32a x32n x32c))) (upd V0 8 (75, k8)) hp K =
    ((0 ≤ (x34 : Int)) ∧ ((x34 : Int) < (x32n : Nat)) ∧ (ptrN x32a fun b1 o2 => (ldL (HP.cellN hp b1 (o2 + Int.toNat x34 * 4) 4) fun l3 => (if List.length l3 = 4 then (if List.all l3 one = true then (if 0 + List.length l3 ≤ List.length [(Value.int .u8 0), (Value.int .u8 0), (Value.int .u8 0), (Value.int .u8 0)] then (K (upd (upd (upd (upd (upd e 34 (SV.val (Value.int .i64 x34))) 32 (SV.val (Value.slice x32a x32n x32c))) 36 (SV.val (ptr b1 (o2 + Int.toNat x34 * 4)))) 37 (SV.val (Value.agg ⟨l3⟩))) 11 (SV.priv 11 0)) (upd (upd (upd V0 8 (75, k8)) 11 (73, [(Value.int .u8 0), (Value.int .u8 0), (Value.int .u8 0), (Value.int .u8 0)])) 11 (73, (splice [(Value.int .u8 0), (Value.int .u8 0), (Value.int .u8 0), (Value.int .u8 0)] 0 l3))) hp) else False) else False) else False)))) := by kernel_rfl
theorem F46_r8 (e : Env) (x0 : Option Addr) (x12 : Int) (k8 : List Value) (k11 : List Value) (hp : HP) (K : Env → PV → HP → Prop) : RW Try.prog 80 [5, 8, 11, 13] (opsAt Try.f46 [1, 1, 1, 0, 1, 0, 0, 1, 1, 0, 0, 1, 1, 0, 0, 0, 0]) (List.range 6) (upd (upd e 12 (SV.val (Value.int .i64 x12))) 0 (SV.val (Value.pointer x0))) (upd (upd V0 11 (73, k11)) 8 (75, k8)) hp K =
    (ptrN x0 fun b1 o2 => (ldV (HP.cell hp b1 (o2 + 2)) fun v3 => (intV v3 .i64 fun i4 => (K (upd (upd (upd (upd (upd (upd (upd (upd e 12 (SV.val (Value.int .i64 x12))) 0 (SV.val (Value.pointer x0))) 42 (SV.val (Value.int .i64 x12))) 43 (SV.val (Value.pointer x0))) 44 (SV.val (ptr b1 o2))) 45 (SV.val (ptr b1 (o2 + 2)))) 46 (SV.val (Value.int .i64 i4))) 47 (SV.val (Value.bool (decide ((x12 : Int) ≤ i4))))) (upd (upd V0 11 (73, k11)) 8 (75, k8)) hp)))) := by kernel_rfl
theorem F46_r9 (e : Env) (x12 : Int) (k8 : List Value) (k11 : List Value) (hp : HP) (K : Env → PV → HP → Prop) : RW Try.prog 80 [5, 8, 11, 13] (opsAt Try.f46 [1, 1, 1, 0, 1, 0, 0, 1, 1, 0, 0, 1, 1, 0, 0, 1, 0, 0, 0]) (List.range 5) (upd (upd e 12 (SV.val (Value.int .i64 x12))) 11 (SV.priv 11 0)) (upd (upd V0 11 (73, k11)) 8 (75, k8)) hp K =
    (ldL (cellsN k11 0 4) fun l1 => (if List.length l1 = 4 then (if List.length (List.set (splice [(Value.int .u8 0), (Value.int .u8 0), (Value.int .u8 0), (Value.int .u8 0), (Value.int .i64 0)] 0 l1) 4 (Value.int .i64 x12)) = 5 then (if List.all (List.set (splice [(Value.int .u8 0), (Value.int .u8 0), (Value.int .u8 0), (Value.int .u8 0), (Value.int .i64 0)] 0 l1) 4 (Value.int .i64 x12)) one = true then (if 0 + List.length (List.set (splice [(Value.int .u8 0), (Value.int .u8 0), (Value.int .u8 0), (Value.int .u8 0), (Value.int .i64 0)] 0 l1) 4 (Value.int .i64 x12)) ≤ List.length [(Value.int .u8 0), (Value.int .u8 0), (Value.int .u8 0), (Value.int .u8 0), (Value.int .i64 0)] then (K (upd (upd (upd (upd (upd (upd e 12 (SV.val (Value.int .i64 x12))) 11 (SV.priv 11 0)) 50 (SV.val (Value.agg ⟨l1⟩))) 51 (SV.val (Value.int .i64 x12))) 52 (SV.val (Value.agg ⟨(List.set (splice [(Value.int .u8 0), (Value.int .u8 0), (Value.int .u8 0), (Value.int .u8 0), (Value.int .i64 0)] 0 l1) 4 (Value.int .i64 x12))⟩))) 13 (SV.priv 13 0)) (upd (upd (upd (upd V0 11 (73, k11)) 8 (75, k8)) 13 (75, [(Value.int .u8 0), (Value.int .u8 0), (Value.int .u8 0), (Value.int .u8 0), (Value.int .i64 0)])) 13 (75, (splice [(Value.int .u8 0), (Value.int .u8 0), (Value.int .u8 0), (Value.int .u8 0), (Value.int .i64 0)] 0 (List.set (splice [(Value.int .u8 0), (Value.int .u8 0), (Value.int .u8 0), (Value.int .u8 0), (Value.int .i64 0)] 0 l1) 4 (Value.int .i64 x12))))) hp) else False) else False) else False) else False)) := by kernel_rfl
theorem F46_r10 (e : Env) (x0 : Option Addr) (k8 : List Value) (k11 : List Value) (k13 : List Value) (hp : HP) (K : Env → PV → HP → Prop) : RW Try.prog 80 [5, 8, 11, 13] (opsAt Try.f46 [1, 1, 1, 0, 1, 0, 0, 1, 1, 0, 0, 1, 1, 0, 0, 1, 0, 0, 1, 0]) (List.range 11) (upd (upd e 13 (SV.priv 13 0)) 0 (SV.val (Value.pointer x0))) (upd (upd (upd V0 13 (75, k13)) 11 (73, k11)) 8 (75, k8)) hp K =
    (ptrN x0 fun b1 o2 => (ldV (HP.cell hp b1 (o2 + 3)) fun v3 => (mapV v3 fun m4 => (ldL (cellsN k13 0 5) fun l5 => (rdS Try.prog (Instr.lookup 158 (Value.map m4) (Value.agg ⟨l5⟩) true) hp fun u6 => (tup2V u6 fun u7 u8 => (boolV u7 fun q9 => (boolV u8 fun q10 => (K (upd (upd (upd (upd (upd (upd (upd (upd (upd (upd (upd (upd (upd e 13 (SV.priv 13 0)) 0 (SV.val (Value.pointer x0))) 54 (SV.val (Value.pointer x0))) 55 (SV.val (ptr b1 o2))) 56 (SV.val (ptr b1 (o2 + 3)))) 57 (SV.val (Value.map m4))) 58 (SV.val (Value.agg ⟨l5⟩))) 59 (SV.val (Value.tuple ⟨[(Value.bool q9), (Value.bool q10)]⟩))) 53 (SV.val (Value.tuple ⟨[(Value.bool q9), (Value.bool q10)]⟩))) 60 (SV.val (Value.bool q9))) 61 (SV.val (Value.bool q10))) 14 (SV.val (Value.bool q9))) 15 (SV.val (Value.bool q10))) (upd (upd (upd V0 13 (75, k13)) 11 (73, k11)) 8 (75, k8)) hp))))))))) := by kernel_rfl
theorem F46_r11 (e : Env) (x0 : Option Addr) (k8 : List Value) (k13 : List Value) (hp : HP) (K : Env → PV → HP → Prop) : RW Try.prog 80 [5, 8, 11, 13] (opsAt Try.f46 [1, 1, 1, 0, 1, 0, 0, 1, 1, 0, 0, 1, 1, 0, 0, 1, 0, 0, 1, 1, 1, 0, 0]) (List.range 6) (upd (upd e 13 (SV.priv 13 0)) 0 (SV.val (Value.pointer x0))) (upd (upd V0 13 (75, k13)) 8 (75, k8)) hp K =
    (ptrN x0 fun b1 o2 => (ldV (HP.cell hp b1 (o2 + 3)) fun v3 => (mapV v3 fun m4 => (ldL (cellsN k13 0 5) fun l5 => (opS Try.prog (Instr.mapUpdate 158 (Value.map m4) (Value.agg ⟨l5⟩) (Value.bool false)) hp fun u6 h7 => (K (upd (upd (upd (upd (upd (upd (upd e 13 (SV.priv 13 0)) 0 (SV.val (Value.pointer x0))) 72 (SV.val (Value.pointer x0))) 73 (SV.val (ptr b1 o2))) 74 (SV.val (ptr b1 (o2 + 3)))) 75 (SV.val (Value.map m4))) 76 (SV.val (Value.agg ⟨l5⟩))) (upd (upd V0 13 (75, k13)) 8 (75, k8)) h7)))))) := by kernel_rfl
theorem F46_r12 (e : Env) (k8 : List Value) (k13 : List Value) (hp : HP) (K : Env → PV → HP → Prop) : RW Try.prog 80 [5, 8, 11, 13] (opsAt Try.f46 [1, 1, 1, 0, 1, 0, 0, 1, 1, 0, 0, 1, 1, 0, 0, 1, 0, 0, 1, 1, 1, 0, 1, 0]) (List.range 3) (upd (upd e 13 (SV.priv 13 0)) 8 (SV.priv 8 0)) (upd (upd V0 13 (75, k13)) 8 (75, k8)) hp K =
    (ldL (cellsN k13 0 5) fun l1 => (if List.length l1 = 5 then (if List.all l1 one = true then (if 0 + List.length l1 ≤ List.length k8 then (K (upd (upd (upd (upd e 13 (SV.priv 13 0)) 8 (SV.priv 8 0)) 77 (SV.val (Value.agg ⟨l1⟩))) 9 (SV.val (Value.int .i64 0))) (upd (upd (upd V0 13 (75, k13)) 8 (75, k8)) 8 (75, (splice k8 0 l1))) hp) else False) else False) else False)) := by kernel_rfl
theorem F46_r13 (e : Env) (x12 : Int) (k8 : List Value) (k11 : List Value) (hp : HP) (K : Env → PV → HP → Prop) : RW Try.prog 80 [5, 8, 11, 13] (opsAt Try.f46 [1, 1, 1, 0, 1, 0, 0, 1, 1, 0, 0, 1, 1, 0, 0, 1, 1]) (List.range 3) (upd e 12 (SV.val (Value.int .i64 x12))) (upd (upd V0 11 (73, k11)) 8 (75, k8)) hp K =
    (K (upd (upd (upd (upd e 12 (SV.val (Value.int .i64 x12))) 48 (SV.val (Value.int .i64 x12))) 49 (SV.val (Value.int .i64 (IntKind.wrap .i64 (x12 + 1))))) 12 (SV.val (Value.int .i64 (IntKind.wrap .i64 (x12 + 1))))) (upd (upd V0 11 (73, k11)) 8 (75, k8)) hp) := by kernel_rfl
def F46_j8 (x0 : Option Addr) (x2 : Int) (x3 : Bool) (x12 : Int) (x32a : Option Addr) (x32n : Nat) (x32c : Nat) (x33 : Int) (x34 : Int) (x71 : Bool) (k8 : List Value) (k11 : List Value) (k13 : List Value) (hp : HP) (I4 : (Int × (List Value)) → HP → Prop) (I7 : (Int × (List Value)) → HP → Prop) (K : Value → HP → Prop) : Prop :=
  (ite2 x71 (ptrN x0 fun b_25 o_26 => (ldV (HP.cell hp b_25 (o_26 + 3)) fun v_27 => (mapV v_27 fun m_28 => (ldL (cellsN k13 0 5) fun l_29 => (opS Try.prog (Instr.mapUpdate 158 (Value.map m_28) (Value.agg ⟨l_29⟩) (Value.bool false)) hp fun u_30 h_31 => (ldL (cellsN k13 0 5) fun l_32 => (if List.length l_32 = 5 then (if List.all l_32 one = true then (if 0 + List.length l_32 ≤ List.length k8 then (ldL (cellsN (splice k8 0 l_32) 0 5) fun l_33 => (K (.tuple ⟨[(.agg ⟨l_33⟩), (Value.int .i64 0)]⟩) h_31)) else False) else False) else False))))))) (I7 ((IntKind.wrap .i64 (x12 + 1)), k8) hp))
theorem F46_r14 (e : Env) (x2 : Int) (x3 : Bool) (x12 : Int) (x15 : Bool) (k8 : List Value) (k11 : List Value) (k13 : List Value) (hp : HP) (K : Env → PV → HP → Prop) : RW Try.prog 80 [5, 8, 11, 13] (opsAt Try.f46 [1, 1, 1, 0, 1, 0, 0, 1, 1, 0, 0, 1, 1, 0, 0, 1, 0, 0, 1, 1, 0]) (List.range 10) (upd (upd (upd (upd e 15 (SV.val (Value.bool x15))) 12 (SV.val (Value.int .i64 x12))) 3 (SV.val (Value.bool x3))) 2 (SV.val (Value.int .i64 x2))) (upd (upd (upd V0 13 (75, k13)) 11 (73, k11)) 8 (75, k8)) hp K =
    (ite2 (!x15) (ite2 x3 (K (upd (upd (upd (upd (upd (upd (upd (upd (upd (upd (upd (upd (upd (upd e 15 (SV.val (Value.bool x15))) 12 (SV.val (Value.int .i64 x12))) 3 (SV.val (Value.bool x3))) 2 (SV.val (Value.int .i64 x2))) 62 (SV.val (Value.bool x15))) 63 (SV.val (Value.bool (!x15)))) 64 (SV.val (Value.bool true))) 65 (SV.val (Value.bool x3))) 66 (SV.val (Value.bool true))) 67 (SV.val undef)) 68 (SV.val undef)) 69 (SV.val undef)) 70 (SV.val (Value.bool true))) 71 (SV.val (Value.bool true))) (upd (upd (upd V0 13 (75, k13)) 11 (73, k11)) 8 (75, k8)) hp) (CF Try.prog 20 [(Value.int .i64 x2), (Value.int .i64 x12)] hp fun u1 h2 => (boolV u1 fun q3 => (K (upd (upd (upd (upd (upd (upd (upd (upd (upd (upd (upd (upd (upd (upd e 15 (SV.val (Value.bool x15))) 12 (SV.val (Value.int .i64 x12))) 3 (SV.val (Value.bool x3))) 2 (SV.val (Value.int .i64 x2))) 62 (SV.val (Value.bool x15))) 63 (SV.val (Value.bool (!x15)))) 64 (SV.val (Value.bool true))) 65 (SV.val (Value.bool x3))) 66 (SV.val (Value.bool false))) 67 (SV.val (Value.int .i64 x2))) 68 (SV.val (Value.int .i64 x12))) 69 (SV.val (Value.bool q3))) 70 (SV.val (Value.bool q3))) 71 (SV.val (Value.bool q3))) (upd (upd (upd V0 13 (75, k13)) 11 (73, k11)) 8 (75, k8)) h2)))) (K (upd (upd (upd (upd (upd (upd (upd (upd (upd (upd (upd (upd (upd (upd e 15 (SV.val (Value.bool x15))) 12 (SV.val (Value.int .i64 x12))) 3 (SV.val (Value.bool x3))) 2 (SV.val (Value.int .i64 x2))) 62 (SV.val (Value.bool x15))) 63 (SV.val (Value.bool (!x15)))) 64 (SV.val (Value.bool false))) 65 (SV.val undef)) 66 (SV.val undef)) 67 (SV.val undef)) 68 (SV.val undef)) 69 (SV.val undef)) 70 (SV.val undef)) 71 (SV.val (Value.bool false))) (upd (upd (upd V0 13 (75, k13)) 11 (73, k11)) 8 (75, k8)) hp)) := by kernel_rfl
def F46_l7 (x0 : Option Addr) (x2 : Int) (x3 : Bool) (x32a : Option Addr) (x32n : Nat) (x32c : Nat) (x33 : Int) (x34 : Int) (k11 : List Value) (I4 : (Int × (List Value)) → HP → Prop) (K : Value → HP → Prop) (I7 : (Int × (List Value)) → HP → Prop) (x12 : Int) (k8 : List Value) (hp : HP) : Prop :=
  (ptrN x0 fun b_10 o_11 => (ldV (HP.cell hp b_10 (o_11 + 2)) fun v_12 => (intV v_12 .i64 fun i_13 => (ite2 (decide ((x12 : Int) ≤ i_13)) (ldL (cellsN k11 0 4) fun l_14 => (if List.length l_14 = 4 then (if List.length (List.set (splice [(Value.int .u8 0), (Value.int .u8 0), (Value.int .u8 0), (Value.int .u8 0), (Value.int .i64 0)] 0 l_14) 4 (Value.int .i64 x12)) = 5 then (if List.all (List.set (splice [(Value.int .u8 0), (Value.int .u8 0), (Value.int .u8 0), (Value.int .u8 0), (Value.int .i64 0)] 0 l_14) 4 (Value.int .i64 x12)) one = true then (if 0 + List.length (List.set (splice [(Value.int .u8 0), (Value.int .u8 0), (Value.int .u8 0), (Value.int .u8 0), (Value.int .i64 0)] 0 l_14) 4 (Value.int .i64 x12)) ≤ List.length [(Value.int .u8 0), (Value.int .u8 0), (Value.int .u8 0), (Value.int .u8 0), (Value.int .i64 0)] then (ptrN x0 fun b_15 o_16 => (ldV (HP.cell hp b_15 (o_16 + 3)) fun v_17 => (mapV v_17 fun m_18 => (ldL (cellsN (splice [(Value.int .u8 0), (Value.int .u8 0), (Value.int .u8 0), (Value.int .u8 0), (Value.int .i64 0)] 0 (List.set (splice [(Value.int .u8 0), (Value.int .u8 0), (Value.int .u8 0), (Value.int .u8 0), (Value.int .i64 0)] 0 l_14) 4 (Value.int .i64 x12))) 0 5) fun l_19 => (rdS Try.prog (Instr.lookup 158 (Value.map m_18) (Value.agg ⟨l_19⟩) true) hp fun u_20 => (tup2V u_20 fun u_21 u_22 => (boolV u_21 fun q_23 => (boolV u_22 fun q_24 => (ite2 (!q_24) (ite2 x3 (F46_j8 x0 x2 x3 x12 x32a x32n x32c x33 x34 true k8 k11 (splice [(Value.int .u8 0), (Value.int .u8 0), (Value.int .u8 0), (Value.int .u8 0), (Value.int .i64 0)] 0 (List.set (splice [(Value.int .u8 0), (Value.int .u8 0), (Value.int .u8 0), (Value.int .u8 0), (Value.int .i64 0)] 0 l_14) 4 (Value.int .i64 x12))) hp I4 I7 K) (CF Try.prog 20 [(Value.int .i64 x2), (Value.int .i64 x12)] hp fun u_34 h_35 => (boolV u_34 fun q_36 => (F46_j8 x0 x2 x3 x12 x32a x32n x32c x33 x34 q_36 k8 k11 (splice [(Value.int .u8 0), (Value.int .u8 0), (Value.int .u8 0), (Value.int .u8 0), (Value.int .i64 0)] 0 (List.set (splice [(Value.int .u8 0), (Value.int .u8 0), (Value.int .u8 0), (Value.int .u8 0), (Value.int .i64 0)] 0 l_14) 4 (Value.int .i64 x12))) h_35 I4 I7 K)))) (F46_j8 x0 x2 x3 x12 x32a x32n x32c x33 x34 false k8 k11 (splice [(Value.int .u8 0), (Value.int .u8 0), (Value.int .u8 0), (Value.int .u8 0), (Value.int .i64 0)] 0 (List.set (splice [(Value.int .u8 0), (Value.int .u8 0), (Value.int .u8 0), (Value.int .u8 0), (Value.int .i64 0)] 0 l_14) 4 (Value.int .i64 x12))) hp I4 I7 K)))))))))) else False) else False) else False) else False)) (F46_j5 x0 x2 x3 x32a x32n x32c x33 x34 k8 hp I4 K)))))
def F46_j6 (x0 : Option Addr) (x2 : Int) (x3 : Bool) (x12 : Int) (x32a : Option Addr) (x32n : Nat) (x32c : Nat) (x33 : Int) (x34 : Int) (k8 : List Value) (k11 : List Value) (hp : HP) (I4 : (Int × (List Value)) → HP → Prop) (K : Value → HP → Prop) : Prop :=
  (LoopP (σ := Int × (List Value)) (fun I s hp => F46_l7 x0 x2 x3 x32a x32n x32c x33 x34 k11 I4 K I s.1 s.2 hp) (x12, k8) hp)
theorem F46_r15 (e : Env) (x0 : Option Addr) (k8 : List Value) (k11 : List Value) (hp : HP) (K : Env → PV → HP → Prop) : RW Try.prog 80 [5, 8, 11, 13] (opsAt Try.f46 [1, 1, 1, 0, 1, 0, 0, 1, 1, 0, 0, 1, 0]) (List.range 5) (upd e 0 (SV.val (Value.pointer x0))) (upd (upd V0 11 (73, k11)) 8 (75, k8)) hp K =
    (ptrN x0 fun b1 o2 => (ldV (HP.cell hp b1 (o2 + 1)) fun v3 => (intV v3 .i64 fun i4 => (K (upd (upd (upd (upd (upd (upd e 0 (SV.val (Value.pointer x0))) 38 (SV.val (Value.pointer x0))) 39 (SV.val (ptr b1 o2))) 40 (SV.val (ptr b1 (o2 + 1)))) 41 (SV.val (Value.int .i64 i4))) 12 (SV.val (Value.int .i64 i4))) (upd (upd V0 11 (73, k11)) 8 (75, k8)) hp)))) := by kernel_rfl
def F46_l4 (x0 : Option Addr) (x2 : Int) (x3 : Bool) (x32a : Option Addr) (x32n : Nat) (x32c : Nat) (x33 : Int) (K : Value → HP → Prop) (I4 : (Int × (List Value)) → HP → Prop) (x34 : Int) (k8 : List Value) (hp : HP) : Prop :=
  (ite2 (decide ((x34 : Int) < x33)) ((0 ≤ (x34 : Int)) ∧ ((x34 : Int) < (x32n : Nat)) ∧ (ptrN x32a fun b_7 o_8 => (ldL (HP.cellN hp b_7 (o_8 + Int.toNat x34 * 4) 4) fun l_9 => (if List.length l_9 = 4 then (if List.all l_9 one = true then (if 0 + List.length l_9 ≤ List.length [(Value.int .u8 0), (Value.int .u8 0), (Value.int .u8 0), (Value.int .u8 0)] then (ptrN x0 fun b_37 o_38 => (ldV (HP.cell hp b_37 (o_38 + 1)) fun v_39 => (intV v_39 .i64 fun i_40 => (F46_j6 x0 x2 x3 i_40 x32a x32n x32c x33 x34 k8 (splice [(Value.int .u8 0), (Value.int .u8 0), (Value.int .u8 0), (Value.int .u8 0)] 0 l_9) hp I4 K)))) else False) else False) else False)))) (F46_j2 k8 hp  K))
def F46_j3 (x0 : Option Addr) (x2 : Int) (x3 : Bool) (x32a : Option Addr) (x32n : Nat) (x32c : Nat) (x33 : Int) (x34 : Int) (k8 : List Value) (hp : HP) (K : Value → HP → Prop) : Prop :=
  (LoopP (σ := Int × (List Value)) (fun I s hp => F46_l4 x0 x2 x3 x32a x32n x32c x33  K I s.1 s.2 hp) (x34, k8) hp)
theorem F46_r16 (e : Env) (x0 : Option Addr) (k5 : List Value) (k8 : List Value) (hp : HP) (K : Env → PV → HP → Prop) : RW Try.prog 80 [5, 8, 11, 13] (opsAt Try.f46 [1, 1, 1, 0, 0]) (List.range 5) (upd (upd e 5 (SV.priv 5 0)) 0 (SV.val (Value.pointer x0))) (upd (upd V0 8 (75, k8)) 5 (73, k5)) hp K =
    (ldL (cellsN k5 0 4) fun l1 => (CF Try.prog 99 [(Value.pointer x0), (Value.agg ⟨l1⟩)] hp fun u2 h3 => (slcV u2 fun a4 n5 c6 => (K (upd (upd (upd (upd (upd (upd (upd e 5 (SV.priv 5 0)) 0 (SV.val (Value.pointer x0))) 30 (SV.val (Value.pointer x0))) 31 (SV.val (Value.agg ⟨l1⟩))) 32 (SV.val (Value.slice a4 n5 c6))) 33 (SV.val (Value.int .i64 (n5 : Nat)))) 34 (SV.val (Value.int .i64 0))) (upd (upd V0 8 (75, k8)) 5 (73, k5)) h3)))) := by kernel_rfl
def F46_j1 (x0 : Option Addr) (x2 : Int) (x3 : Bool) (x24 : Bool) (k5 : List Value) (k8 : List Value) (hp : HP) (K : Value → HP → Prop) : Prop :=
  (ite2 x24 (if List.length [(Value.int .u8 0), (Value.int .u8 0), (Value.int .u8 0), (Value.int .u8 0), (Value.int .i64 0)] = 5 then (if List.all [(Value.int .u8 0), (Value.int .u8 0), (Value.int .u8 0), (Value.int .u8 0), (Value.int .i64 0)] one = true then (if 0 + List.length [(Value.int .u8 0), (Value.int .u8 0), (Value.int .u8 0), (Value.int .u8 0), (Value.int .i64 0)] ≤ List.length k8 then (ldL (cellsN (splice k8 0 [(Value.int .u8 0), (Value.int .u8 0), (Value.int .u8 0), (Value.int .u8 0), (Value.int .i64 0)]) 0 5) fun l_1 => (K (.tuple ⟨[(.agg ⟨l_1⟩), (Value.int .i64 2)]⟩) hp)) else False) else False) else False) (CF Try.prog 74 [(Value.int .i64 x2)] hp fun u_2 h_3 => (boolV u_2 fun q_4 => (ite2 (!q_4) (if List.length [(Value.int .u8 0), (Value.int .u8 0), (Value.int .u8 0), (Value.int .u8 0), (Value.int .i64 0)] = 5 then (if List.all [(Value.int .u8 0), (Value.int .u8 0), (Value.int .u8 0), (Value.int .u8 0), (Value.int .i64 0)] one = true then (if 0 + List.length [(Value.int .u8 0), (Value.int .u8 0), (Value.int .u8 0), (Value.int .u8 0), (Value.int .i64 0)] ≤ List.length k8 then (ldL (cellsN (splice k8 0 [(Value.int .u8 0), (Value.int .u8 0), (Value.int .u8 0), (Value.int .u8 0), (Value.int .i64 0)]) 0 5) fun l_5 => (K (.tuple ⟨[(.agg ⟨l_5⟩), (Value.int .i64 1)]⟩) h_3)) else False) else False) else False) (ldL (cellsN k5 0 4) fun l_41 => (CF Try.prog 99 [(Value.pointer x0), (Value.agg ⟨l_41⟩)] h_3 fun u_42 h_43 => (slcV u_42 fun a_44 n_45 c_46 => (F46_j3 x0 x2 x3 a_44 n_45 c_46 (n_45 : Nat) 0 k8 h_43  K))))))))
theorem F46_r17 (e : Env) (x0 : Option Addr) (k5 : List Value) (k8 : List Value) (hp : HP) (K : Env → PV → HP → Prop) : RW Try.prog 80 [5, 8, 11, 13] (opsAt Try.f46 [1, 0, 0]) (List.range 9) (upd e 0 (SV.val (Value.pointer x0))) (upd (upd V0 8 (75, k8)) 5 (73, k5)) hp K =
    (ite2 (Option.isNone x0) (K (upd (upd (upd (upd (upd (upd (upd (upd (upd (upd e 0 (SV.val (Value.pointer x0))) 16 (SV.val (Value.pointer x0))) 17 (SV.val (Value.bool (Option.isNone x0)))) 18 (SV.val (Value.bool true))) 19 (SV.val undef)) 20 (SV.val undef)) 21 (SV.val undef)) 22 (SV.val undef)) 23 (SV.val undef)) 24 (SV.val (Value.bool true))) (upd (upd V0 8 (75, k8)) 5 (73, k5)) hp) (ptrN x0 fun b1 o2 => (ldV (HP.cell hp b1 (o2 + 3)) fun v3 => (mapV v3 fun m4 => (K (upd (upd (upd (upd (upd (upd (upd (upd (upd (upd e 0 (SV.val (Value.pointer x0))) 16 (SV.val (Value.pointer x0))) 17 (SV.val (Value.bool (Option.isNone x0)))) 18 (SV.val (Value.bool false))) 19 (SV.val (Value.pointer x0))) 20 (SV.val (ptr b1 o2))) 21 (SV.val (ptr b1 (o2 + 3)))) 22 (SV.val (Value.map m4))) 23 (SV.val (Value.bool (Option.isNone m4)))) 24 (SV.val (Value.bool (Option.isNone m4)))) (upd (upd V0 8 (75, k8)) 5 (73, k5)) hp))))) := by kernel_rfl
def F46 (x0 : Option Addr) (x1 : List Value) (x2 : Int) (x3 : Bool) (hp : HP) (K : Value → HP → Prop) : Prop :=
  (ite2 (Option.isNone x0) (F46_j1 x0 x2 x3 true x1 [(Value.int .u8 0), (Value.int .u8 0), (Value.int .u8 0), (Value.int .u8 0), (Value.int .i64 0)] hp  K) (ptrN x0 fun b_47 o_48 => (ldV (HP.cell hp b_47 (o_48 + 3)) fun v_49 => (mapV v_49 fun m_50 => (F46_j1 x0 x2 x3 (Option.isNone m_50) x1 [(Value.int .u8 0), (Value.int .u8 0), (Value.int .u8 0), (Value.int .u8 0), (Value.int .i64 0)] hp  K)))))
noncomputable def F46_code : Code := (.seq (.region 0 (opsAt Try.f46 [0]) false) (.seq (.seq (.region 1 (opsAt Try.f46 [1, 0, 0]) false) (.cond (.tmp 24) (.seq (.region 2 (opsAt Try.f46 [1, 0, 1, 0, 0]) false) .ret) .skip)) (.seq (.seq (.region 3 (opsAt Try.f46 [1, 1, 0, 0]) false) (.cond (.tmp 28) (.seq (.region 4 (opsAt Try.f46 [1, 1, 0, 1, 0, 0]) false) .ret) .skip)) (.seq (.seq (.region 5 (opsAt Try.f46 [1, 1, 1, 0, 0]) false) (.block 0 (.loop (.seq (.region 6 (opsAt Try.f46 [1, 1, 1, 0, 1, 0, 0, 0]) false) (.seq (.cond (.tmp 35) .skip (.exit 0)) (.seq (.block 1 (.seq (.region 7 (opsAt Try.f46 [1, 1, 1, 0, 1, 0, 0, 1, 1, 0, 0, 0]) false) (.seq (.region 8 (opsAt Try.f46 [1, 1, 1, 0, 1, 0, 0, 1, 1, 0, 0, 1, 0]) false) (.block 2 (.loop (.seq (.seq (.region 9 (opsAt Try.f46 [1, 1, 1, 0, 1, 0, 0, 1, 1, 0, 0, 1, 1, 0, 0, 0, 0]) false) (.cond (.tmp 47) .skip (.exit 2))) (.seq (.block 3 (.seq (.region 11 (opsAt Try.f46 [1, 1, 1, 0, 1, 0, 0, 1, 1, 0, 0, 1, 1, 0, 0, 1, 0, 0, 0]) false) (.seq (.region 12 (opsAt Try.f46 [1, 1, 1, 0, 1, 0, 0, 1, 1, 0, 0, 1, 1, 0, 0, 1, 0, 0, 1, 0]) true) (.seq (.region 13 (opsAt Try.f46 [1, 1, 1, 0, 1, 0, 0, 1, 1, 0, 0, 1, 1, 0, 0, 1, 0, 0, 1, 1, 0]) false) (.cond (.tmp 71) (.seq (.region 14 (opsAt Try.f46 [1, 1, 1, 0, 1, 0, 0, 1, 1, 0, 0, 1, 1, 0, 0, 1, 0, 0, 1, 1, 1, 0, 0]) true) (.seq (.region 15 (opsAt Try.f46 [1, 1, 1, 0, 1, 0, 0, 1, 1, 0, 0, 1, 1, 0, 0, 1, 0, 0, 1, 1, 1, 0, 1, 0]) false) .ret)) .skip))))) (.region 10 (opsAt Try.f46 [1, 1, 1, 0, 1, 0, 0, 1, 1, 0, 0, 1, 1, 0, 0, 1, 1]) false)))))))) (.region 16 (opsAt Try.f46 [1, 1, 1, 0, 1, 0, 0, 1, 1, 1]) false))))))) (.seq (.region 17 (opsAt Try.f46 [1, 1, 1, 1, 0]) false) .ret)))))
theorem F46_body : Try.f46.body = some F46_code := by kernel_rfl
theorem F46_ok (x0 : Option Addr) (x1 : List Value) (x2 : Int) (x3 : Bool) (hp : HP) (K : Value → HP → Prop) (h : F46 x0 x1 x2 x3 hp K) : CF Try.prog 46 [(Value.pointer x0), (Value.agg ⟨x1⟩), (Value.int .i64 x2), (Value.bool x3)] hp K := by
  refine ⟨by kernel_rfl, AC.intro (N := 80) Try.func46 F46_body rfl (Nat.le_of_ble_eq_true rfl) ?_⟩
  unfold F46 at h
  unfold F46_code
  refine AWP.seq' ?_
  refine AWP.rgn (F46_r0 (upd (upd (upd E0 3 (SV.val (Value.bool x3))) 2 (SV.val (Value.int .i64 x2))) 0 (SV.val (Value.pointer x0))) x1 hp _) ?_ (RefOk.v 1 _ (RefOk.v 0 _ (RefOk.v 2 _ (RefOk.v 3 _ (RefOk.nil _))))) (Sub.cons rfl (Sub.cons rfl (Sub.cons rfl (Sub.cons rfl (Sub.nil _))))) (Sub.nil _)
  refine AWP.seq' ?_
  refine AWP.seq (fun env pv hp => ∃ (x0 : Option Addr) (x2 : Int) (x3 : Bool) (x24 : Bool) (k5 : List Value) (k8 : List Value), Sub (upd (upd (upd (upd (upd (upd E0 24 (SV.val (Value.bool x24))) 8 (SV.priv 8 0)) 5 (SV.priv 5 0)) 3 (SV.val (Value.bool x3))) 2 (SV.val (Value.int .i64 x2))) 0 (SV.val (Value.pointer x0))) env ∧ Sub (upd (upd V0 8 (75, k8)) 5 (73, k5)) pv ∧ (F46_j1 x0 x2 x3 x24 k5 k8 hp  K)) ?_ ?_
  · refine AWP.rgn (F46_r17 (upd (upd (upd (upd E0 8 (SV.priv 8 0)) 5 (SV.priv 5 0)) 3 (SV.val (Value.bool x3))) 2 (SV.val (Value.int .i64 x2))) x0 x1 [(Value.int .u8 0), (Value.int .u8 0), (Value.int .u8 0), (Value.int .u8 0), (Value.int .i64 0)] hp _) ?_ (RefOk.v 0 _ (RefOk.v 2 _ (RefOk.v 3 _ (RefOk.p 5 5 0 (RefOk.p 8 8 0 (RefOk.nil _) (fun e => by cases e)) (fun e => by cases e))))) (Sub.cons rfl (Sub.cons rfl (Sub.cons rfl (Sub.cons rfl (Sub.cons rfl (Sub.nil _)))))) (Sub.cons rfl (Sub.cons rfl (Sub.nil _)))
    refine ite2_mono h (fun h => ?_) (fun h => ?_)
    · exact ⟨x0, x2, x3, true, x1, [(Value.int .u8 0), (Value.int .u8 0), (Value.int .u8 0), (Value.int .u8 0), (Value.int .i64 0)], (Sub.cons rfl (Sub.cons rfl (Sub.cons rfl (Sub.cons rfl (Sub.cons rfl (Sub.cons rfl (Sub.nil _))))))), (Sub.cons rfl (Sub.cons rfl (Sub.nil _))), h⟩
    · refine ptrN_mono h (fun b_47 o_48 h => ?_)
      refine ldV_mono h (fun v_49 h => ?_)
      refine mapV_mono h (fun m_50 h => ?_)
      exact ⟨x0, x2, x3, (Option.isNone m_50), x1, [(Value.int .u8 0), (Value.int .u8 0), (Value.int .u8 0), (Value.int .u8 0), (Value.int .i64 0)], (Sub.cons rfl (Sub.cons rfl (Sub.cons rfl (Sub.cons rfl (Sub.cons rfl (Sub.cons rfl (Sub.nil _))))))), (Sub.cons rfl (Sub.cons rfl (Sub.nil _))), h⟩
  · rintro env pv hp ⟨x0, x2, x3, x24, k5, k8, he, hv, h⟩
    refine AWP.sub (env' := (upd (upd (upd (upd (upd (upd E0 24 (SV.val (Value.bool x24))) 8 (SV.priv 8 0)) 5 (SV.priv 5 0)) 3 (SV.val (Value.bool x3))) 2 (SV.val (Value.int .i64 x2))) 0 (SV.val (Value.pointer x0)))) (pv' := (upd (upd V0 8 (75, k8)) 5 (73, k5))) ?_ (RefOk.v 0 _ (RefOk.v 2 _ (RefOk.v 3 _ (RefOk.p 5 5 0 (RefOk.p 8 8 0 (RefOk.v 24 _ (RefOk.nil _)) (fun e => by cases e)) (fun e => by cases e))))) he hv (HSub.refl _)
    clear he hv
    unfold F46_j1 at h
    refine AWP.cond (t := x24) rfl (fun e => ?_) (fun e => ?_)
    · replace h := ite2_t h e
      refine AWP.seq' ?_
      refine AWP.rgn (F46_r1 E0 k8 hp _) ?_ (RefOk.p 8 8 0 (RefOk.nil _) (fun e => by cases e)) (Sub.cons rfl (Sub.nil _)) (Sub.cons rfl (Sub.nil _))
      refine if_mono h (fun h => ?_)
      refine if_mono h (fun h => ?_)
      refine if_mono h (fun h => ?_)
      refine AWP.ret ?_
      exact h
    · replace h := ite2_f h e
      refine AWP.skip ?_
      refine AWP.seq' ?_
      refine AWP.seq' ?_
      refine AWP.rgn (F46_r2 (upd (upd (upd (upd E0 8 (SV.priv 8 0)) 5 (SV.priv 5 0)) 3 (SV.val (Value.bool x3))) 0 (SV.val (Value.pointer x0))) x2 k5 k8 hp _) ?_ (RefOk.v 2 _ (RefOk.v 0 _ (RefOk.v 3 _ (RefOk.p 5 5 0 (RefOk.p 8 8 0 (RefOk.nil _) (fun e => by cases e)) (fun e => by cases e))))) (Sub.cons rfl (Sub.cons rfl (Sub.cons rfl (Sub.cons rfl (Sub.cons rfl (Sub.nil _)))))) (Sub.cons rfl (Sub.cons rfl (Sub.nil _)))
      refine CF_mono h (fun u_2 h_3 h => ?_)
      refine boolV_mono h (fun q_4 h => ?_)
      refine AWP.cond (t := (!q_4)) rfl (fun e => ?_) (fun e => ?_)
      · replace h := ite2_t h e
        refine AWP.seq' ?_
        refine AWP.rgn (F46_r3 E0 k8 h_3 _) ?_ (RefOk.p 8 8 0 (RefOk.nil _) (fun e => by cases e)) (Sub.cons rfl (Sub.nil _)) (Sub.cons rfl (Sub.nil _))
        refine if_mono h (fun h => ?_)
        refine if_mono h (fun h => ?_)
        refine if_mono h (fun h => ?_)
        refine AWP.ret ?_
        exact h
      · replace h := ite2_f h e
        refine AWP.skip ?_
        refine AWP.seq (fun env pv hp => ∃ (k8 : List Value), Sub (upd E0 8 (SV.priv 8 0)) env ∧ Sub (upd V0 8 (75, k8)) pv ∧ (F46_j2 k8 hp  K)) ?_ ?_
        · refine AWP.seq (fun env pv hp => ∃ (x0 : Option Addr) (x2 : Int) (x3 : Bool) (x32a : Option Addr) (x32n : Nat) (x32c : Nat) (x33 : Int) (x34 : Int) (k8 : List Value), Sub (upd (upd (upd (upd (upd (upd (upd E0 34 (SV.val (Value.int .i64 x34))) 33 (SV.val (Value.int .i64 x33))) 32 (SV.val (Value.slice x32a x32n x32c))) 8 (SV.priv 8 0)) 3 (SV.val (Value.bool x3))) 2 (SV.val (Value.int .i64 x2))) 0 (SV.val (Value.pointer x0))) env ∧ Sub (upd V0 8 (75, k8)) pv ∧ (F46_j3 x0 x2 x3 x32a x32n x32c x33 x34 k8 hp  K)) ?_ ?_
          · refine AWP.rgn (F46_r16 (upd (upd (upd E0 8 (SV.priv 8 0)) 3 (SV.val (Value.bool x3))) 2 (SV.val (Value.int .i64 x2))) x0 k5 k8 h_3 _) ?_ (RefOk.v 0 _ (RefOk.p 5 5 0 (RefOk.v 2 _ (RefOk.v 3 _ (RefOk.p 8 8 0 (RefOk.nil _) (fun e => by cases e)))) (fun e => by cases e))) (Sub.cons rfl (Sub.cons rfl (Sub.cons rfl (Sub.cons rfl (Sub.cons rfl (Sub.nil _)))))) (Sub.cons rfl (Sub.cons rfl (Sub.nil _)))
            refine ldL_mono h (fun l_41 h => ?_)
            refine CF_mono h (fun u_42 h_43 h => ?_)
            refine slcV_mono h (fun a_44 n_45 c_46 h => ?_)
            exact ⟨x0, x2, x3, a_44, n_45, c_46, (n_45 : Nat), 0, k8, (Sub.cons rfl (Sub.cons rfl (Sub.cons rfl (Sub.cons rfl (Sub.cons rfl (Sub.cons rfl (Sub.cons rfl (Sub.nil _)))))))), (Sub.cons rfl (Sub.nil _)), h⟩
          · rintro env pv hp ⟨x0, x2, x3, x32a, x32n, x32c, x33, x34, k8, he, hv, h⟩
            refine AWP.sub (env' := (upd (upd (upd (upd (upd (upd (upd E0 34 (SV.val (Value.int .i64 x34))) 33 (SV.val (Value.int .i64 x33))) 32 (SV.val (Value.slice x32a x32n x32c))) 8 (SV.priv 8 0)) 3 (SV.val (Value.bool x3))) 2 (SV.val (Value.int .i64 x2))) 0 (SV.val (Value.pointer x0)))) (pv' := (upd V0 8 (75, k8))) ?_ (RefOk.v 0 _ (RefOk.v 2 _ (RefOk.v 3 _ (RefOk.p 8 8 0 (RefOk.v 32 _ (RefOk.v 33 _ (RefOk.v 34 _ (RefOk.nil _)))) (fun e => by cases e))))) he hv (HSub.refl _)
            clear he hv
            unfold F46_j3 at h
            refine AWP.block ?_
            refine AWP.loop (σ := Int × (List Value)) (fun I s hp => F46_l4 x0 x2 x3 x32a x32n x32c x33  K I s.1 s.2 hp) (fun s => (upd (upd (upd (upd (upd (upd (upd E0 34 (SV.val (Value.int .i64 s.1))) 33 (SV.val (Value.int .i64 x33))) 32 (SV.val (Value.slice x32a x32n x32c))) 8 (SV.priv 8 0)) 3 (SV.val (Value.bool x3))) 2 (SV.val (Value.int .i64 x2))) 0 (SV.val (Value.pointer x0)))) (fun s => (upd V0 8 (75, s.2))) (x34, k8) h (fun s => (RefOk.v 0 _ (RefOk.v 2 _ (RefOk.v 3 _ (RefOk.p 8 8 0 (RefOk.v 32 _ (RefOk.v 33 _ (RefOk.v 34 _ (RefOk.nil _)))) (fun e => by cases e)))))) (Sub.cons rfl (Sub.cons rfl (Sub.cons rfl (Sub.cons rfl (Sub.cons rfl (Sub.cons rfl (Sub.cons rfl (Sub.nil _)))))))) (Sub.cons rfl (Sub.nil _)) ?_
            intro I4 s hp h
            obtain ⟨x34, k8⟩ := s
            replace h : F46_l4 x0 x2 x3 x32a x32n x32c x33  K I4 x34 k8 hp := h
            unfold F46_l4 at h
            refine AWP.seq' ?_
            refine AWP.rgn (F46_r5 (upd (upd (upd (upd (upd E0 32 (SV.val (Value.slice x32a x32n x32c))) 8 (SV.priv 8 0)) 3 (SV.val (Value.bool x3))) 2 (SV.val (Value.int .i64 x2))) 0 (SV.val (Value.pointer x0))) x33 x34 k8 hp _) ?_ (RefOk.v 33 _ (RefOk.v 34 _ (RefOk.v 0 _ (RefOk.v 2 _ (RefOk.v 3 _ (RefOk.p 8 8 0 (RefOk.v 32 _ (RefOk.nil _)) (fun e => by cases e))))))) (Sub.cons rfl (Sub.cons rfl (Sub.cons rfl (Sub.cons rfl (Sub.cons rfl (Sub.cons rfl (Sub.cons rfl (Sub.nil _)))))))) (Sub.cons rfl (Sub.nil _))
            refine AWP.seq' ?_
            refine AWP.cond (t := (decide ((x34 : Int) < x33))) rfl (fun e => ?_) (fun e => ?_)
            · replace h := ite2_t h e
              refine AWP.skip ?_
              refine AWP.seq (fun env pv hp => ∃ (x34 : Int) (k8 : List Value), Sub (upd (upd (upd (upd (upd (upd (upd E0 34 (SV.val (Value.int .i64 x34))) 33 (SV.val (Value.int .i64 x33))) 32 (SV.val (Value.slice x32a x32n x32c))) 8 (SV.priv 8 0)) 3 (SV.val (Value.bool x3))) 2 (SV.val (Value.int .i64 x2))) 0 (SV.val (Value.pointer x0))) env ∧ Sub (upd V0 8 (75, k8)) pv ∧ (F46_j5 x0 x2 x3 x32a x32n x32c x33 x34 k8 hp I4 K)) ?_ ?_
              · refine AWP.block ?_
                refine AWP.seq' ?_
                refine AWP.rgn (F46_r7 (upd (upd (upd (upd (upd E0 33 (SV.val (Value.int .i64 x33))) 8 (SV.priv 8 0)) 3 (SV.val (Value.bool x3))) 2 (SV.val (Value.int .i64 x2))) 0 (SV.val (Value.pointer x0))) x32a x32n x32c x34 k8 hp _) ?_ (RefOk.v 32 _ (RefOk.v 34 _ (RefOk.v 0 _ (RefOk.v 2 _ (RefOk.v 3 _ (RefOk.p 8 8 0 (RefOk.v 33 _ (RefOk.nil _)) (fun e => by cases e))))))) (Sub.cons rfl (Sub.cons rfl (Sub.cons rfl (Sub.cons rfl (Sub.cons rfl (Sub.cons rfl (Sub.cons rfl (Sub.nil _)))))))) (Sub.cons rfl (Sub.nil _))
                refine ⟨h.1, h.2.1, ?_⟩
                replace h := h.2.2
                refine ptrN_mono h (fun b_7 o_8 h => ?_)
                refine ldL_mono h (fun l_9 h => ?_)
                refine if_mono h (fun h => ?_)
                refine if_mono h (fun h => ?_)
                refine if_mono h (fun h => ?_)
                refine AWP.seq (fun env pv hp => ∃ (x12 : Int) (x34 : Int) (k8 : List Value) (k11 : List Value), Sub (upd (upd (upd (upd (upd (upd (upd (upd (upd E0 34 (SV.val (Value.int .i64 x34))) 33 (SV.val (Value.int .i64 x33))) 32 (SV.val (Value.slice x32a x32n x32c))) 12 (SV.val (Value.int .i64 x12))) 11 (SV.priv 11 0)) 8 (SV.priv 8 0)) 3 (SV.val (Value.bool x3))) 2 (SV.val (Value.int .i64 x2))) 0 (SV.val (Value.pointer x0))) env ∧ Sub (upd (upd V0 11 (73, k11)) 8 (75, k8)) pv ∧ (F46_j6 x0 x2 x3 x12 x32a x32n x32c x33 x34 k8 k11 hp I4 K)) ?_ ?_
                · refine AWP.rgn (F46_r15 (upd (upd (upd (upd (upd (upd (upd E0 34 (SV.val (Value.int .i64 x34))) 33 (SV.val (Value.int .i64 x33))) 32 (SV.val (Value.slice x32a x32n x32c))) 11 (SV.priv 11 0)) 8 (SV.priv 8 0)) 3 (SV.val (Value.bool x3))) 2 (SV.val (Value.int .i64 x2))) x0 k8 (splice [(Value.int .u8 0), (Value.int .u8 0), (Value.int .u8 0), (Value.int .u8 0)] 0 l_9) hp _) ?_ (RefOk.v 0 _ (RefOk.v 2 _ (RefOk.v 3 _ (RefOk.p 8 8 0 (RefOk.p 11 11 0 (RefOk.v 32 _ (RefOk.v 33 _ (RefOk.v 34 _ (RefOk.nil _)))) (fun e => by cases e)) (fun e => by cases e))))) (Sub.cons rfl (Sub.cons rfl (Sub.cons rfl (Sub.cons rfl (Sub.cons rfl (Sub.cons rfl (Sub.cons rfl (Sub.cons rfl (Sub.nil _))))))))) (Sub.cons rfl (Sub.cons rfl (Sub.nil _)))
                  refine ptrN_mono h (fun b_37 o_38 h => ?_)
                  refine ldV_mono h (fun v_39 h => ?_)
                  refine intV_mono h (fun i_40 h => ?_)
                  exact ⟨i_40, x34, k8, (splice [(Value.int .u8 0), (Value.int .u8 0), (Value.int .u8 0), (Value.int .u8 0)] 0 l_9), (Sub.cons rfl (Sub.cons rfl (Sub.cons rfl (Sub.cons rfl (Sub.cons rfl (Sub.cons rfl (Sub.cons rfl (Sub.cons rfl (Sub.cons rfl (Sub.nil _)))))))))), (Sub.cons rfl (Sub.cons rfl (Sub.nil _))), h⟩
                · rintro env pv hp ⟨x12, x34, k8, k11, he, hv, h⟩
                  refine AWP.sub (env' := (upd (upd (upd (upd (upd (upd (upd (upd (upd E0 34 (SV.val (Value.int .i64 x34))) 33 (SV.val (Value.int .i64 x33))) 32 (SV.val (Value.slice x32a x32n x32c))) 12 (SV.val (Value.int .i64 x12))) 11 (SV.priv 11 0)) 8 (SV.priv 8 0)) 3 (SV.val (Value.bool x3))) 2 (SV.val (Value.int .i64 x2))) 0 (SV.val (Value.pointer x0)))) (pv' := (upd (upd V0 11 (73, k11)) 8 (75, k8))) ?_ (RefOk.v 0 _ (RefOk.v 2 _ (RefOk.v 3 _ (RefOk.p 8 8 0 (RefOk.p 11 11 0 (RefOk.v 12 _ (RefOk.v 32 _ (RefOk.v 33 _ (RefOk.v 34 _ (RefOk.nil _))))) (fun e => by cases e)) (fun e => by cases e))))) he hv (HSub.refl _)
                  clear he hv
                  unfold F46_j6 at h
                  refine AWP.block ?_
                  refine AWP.loop (σ := Int × (List Value)) (fun I s hp => F46_l7 x0 x2 x3 x32a x32n x32c x33 x34 k11 I4 K I s.1 s.2 hp) (fun s => (upd (upd (upd (upd (upd (upd (upd (upd (upd E0 34 (SV.val (Value.int .i64 x34))) 33 (SV.val (Value.int .i64 x33))) 32 (SV.val (Value.slice x32a x32n x32c))) 12 (SV.val (Value.int .i64 s.1))) 11 (SV.priv 11 0)) 8 (SV.priv 8 0)) 3 (SV.val (Value.bool x3))) 2 (SV.val (Value.int .i64 x2))) 0 (SV.val (Value.pointer x0)))) (fun s => (upd (upd V0 11 (73, k11)) 8 (75, s.2))) (x12, k8) h (fun s => (RefOk.v 0 _ (RefOk.v 2 _ (RefOk.v 3 _ (RefOk.p 8 8 0 (RefOk.p 11 11 0 (RefOk.v 12 _ (RefOk.v 32 _ (RefOk.v 33 _ (RefOk.v 34 _ (RefOk.nil _))))) (fun e => by cases e)) (fun e => by cases e)))))) (Sub.cons rfl (Sub.cons rfl (Sub.cons rfl (Sub.cons rfl (Sub.cons rfl (Sub.cons rfl (Sub.cons rfl (Sub.cons rfl (Sub.cons rfl (Sub.nil _)))))))))) (Sub.cons rfl (Sub.cons rfl (Sub.nil _))) ?_
                  intro I7 s hp h
                  obtain ⟨x12, k8⟩ := s
                  replace h : F46_l7 x0 x2 x3 x32a x32n x32c x33 x34 k11 I4 K I7 x12 k8 hp := h
                  unfold F46_l7 at h
                  refine AWP.seq' ?_
                  refine AWP.seq' ?_
                  refine AWP.rgn (F46_r8 (upd (upd (upd (upd (upd (upd (upd E0 34 (SV.val (Value.int .i64 x34))) 33 (SV.val (Value.int .i64 x33))) 32 (SV.val (Value.slice x32a x32n x32c))) 11 (SV.priv 11 0)) 8 (SV.priv 8 0)) 3 (SV.val (Value.bool x3))) 2 (SV.val (Value.int .i64 x2))) x0 x12 k8 k11 hp _) ?_ (RefOk.v 0 _ (RefOk.v 12 _ (RefOk.v 2 _ (RefOk.v 3 _ (RefOk.p 8 8 0 (RefOk.p 11 11 0 (RefOk.v 32 _ (RefOk.v 33 _ (RefOk.v 34 _ (RefOk.nil _)))) (fun e => by cases e)) (fun e => by cases e)))))) (Sub.cons rfl (Sub.cons rfl (Sub.cons rfl (Sub.cons rfl (Sub.cons rfl (Sub.cons rfl (Sub.cons rfl (Sub.cons rfl (Sub.cons rfl (Sub.nil _)))))))))) (Sub.cons rfl (Sub.cons rfl (Sub.nil _)))
                  refine ptrN_mono h (fun b_10 o_11 h => ?_)
                  refine ldV_mono h (fun v_12 h => ?_)
                  refine intV_mono h (fun i_13 h => ?_)
                  refine AWP.cond (t := (decide ((x12 : Int) ≤ i_13))) rfl (fun e => ?_) (fun e => ?_)
                  · replace h := ite2_t h e
                    refine AWP.skip ?_
                    refine AWP.seq' ?_
                    refine AWP.block ?_
                    refine AWP.seq' ?_
                    refine AWP.rgn (F46_r9 (upd (upd (upd (upd (upd (upd (upd E0 34 (SV.val (Value.int .i64 x34))) 33 (SV.val (Value.int .i64 x33))) 32 (SV.val (Value.slice x32a x32n x32c))) 8 (SV.priv 8 0)) 3 (SV.val (Value.bool x3))) 2 (SV.val (Value.int .i64 x2))) 0 (SV.val (Value.pointer x0))) x12 k8 k11 hp _) ?_ (RefOk.p 11 11 0 (RefOk.v 12 _ (RefOk.v 0 _ (RefOk.v 2 _ (RefOk.v 3 _ (RefOk.p 8 8 0 (RefOk.v 32 _ (RefOk.v 33 _ (RefOk.v 34 _ (RefOk.nil _)))) (fun e => by cases e)))))) (fun e => by cases e)) (Sub.cons rfl (Sub.cons rfl (Sub.cons rfl (Sub.cons rfl (Sub.cons rfl (Sub.cons rfl (Sub.cons rfl (Sub.cons rfl (Sub.cons rfl (Sub.nil _)))))))))) (Sub.cons rfl (Sub.cons rfl (Sub.nil _)))
                    refine ldL_mono h (fun l_14 h => ?_)
                    refine if_mono h (fun h => ?_)
                    refine if_mono h (fun h => ?_)
                    refine if_mono h (fun h => ?_)
                    refine if_mono h (fun h => ?_)
                    refine AWP.seq' ?_
                    refine AWP.rgnD (by kernel_rfl) (by kernel_rfl) (F46_r10 (upd (upd (upd (upd (upd (upd (upd (upd E0 34 (SV.val (Value.int .i64 x34))) 33 (SV.val (Value.int .i64 x33))) 32 (SV.val (Value.slice x32a x32n x32c))) 12 (SV.val (Value.int .i64 x12))) 11 (SV.priv 11 0)) 8 (SV.priv 8 0)) 3 (SV.val (Value.bool x3))) 2 (SV.val (Value.int .i64 x2))) x0 k8 k11 (splice [(Value.int .u8 0), (Value.int .u8 0), (Value.int .u8 0), (Value.int .u8 0), (Value.int .i64 0)] 0 (List.set (splice [(Value.int .u8 0), (Value.int .u8 0), (Value.int .u8 0), (Value.int .u8 0), (Value.int .i64 0)] 0 l_14) 4 (Value.int .i64 x12))) hp _) ?_ (RefOk.v 0 _ (RefOk.p 13 13 0 (RefOk.v 2 _ (RefOk.v 3 _ (RefOk.p 8 8 0 (RefOk.p 11 11 0 (RefOk.v 12 _ (RefOk.v 32 _ (RefOk.v 33 _ (RefOk.v 34 _ (RefOk.nil _))))) (fun e => by cases e)) (fun e => by cases e)))) (fun e => by cases e))) (Sub.cons rfl (Sub.cons rfl (Sub.cons rfl (Sub.cons rfl (Sub.cons rfl (Sub.cons rfl (Sub.cons rfl (Sub.cons rfl (Sub.cons rfl (Sub.cons rfl (Sub.nil _))))))))))) (Sub.cons rfl (Sub.cons rfl (Sub.cons rfl (Sub.nil _))))
                    refine ptrN_mono h (fun b_15 o_16 h => ?_)
                    refine ldV_mono h (fun v_17 h => ?_)
                    refine mapV_mono h (fun m_18 h => ?_)
                    refine ldL_mono h (fun l_19 h => ?_)
                    refine rdS_mono h (fun u_20 h => ?_)
                    refine tup2V_mono h (fun u_21 u_22 h => ?_)
                    refine boolV_mono h (fun q_23 h => ?_)
                    refine boolV_mono h (fun q_24 h => ?_)
                    refine AWP.seq (fun env pv hp => ∃ (x12 : Int) (x71 : Bool) (k8 : List Value) (k13 : List Value), Sub (upd (upd (upd (upd (upd (upd (upd (upd (upd (upd (upd E0 71 (SV.val (Value.bool x71))) 34 (SV.val (Value.int .i64 x34))) 33 (SV.val (Value.int .i64 x33))) 32 (SV.val (Value.slice x32a x32n x32c))) 13 (SV.priv 13 0)) 12 (SV.val (Value.int .i64 x12))) 11 (SV.priv 11 0)) 8 (SV.priv 8 0)) 3 (SV.val (Value.bool x3))) 2 (SV.val (Value.int .i64 x2))) 0 (SV.val (Value.pointer x0))) env ∧ Sub (upd (upd (upd V0 13 (75, k13)) 11 (73, k11)) 8 (75, k8)) pv ∧ (F46_j8 x0 x2 x3 x12 x32a x32n x32c x33 x34 x71 k8 k11 k13 hp I4 I7 K)) ?_ ?_
                    · refine AWP.rgn (F46_r14 (upd (upd (upd (upd (upd (upd (upd E0 34 (SV.val (Value.int .i64 x34))) 33 (SV.val (Value.int .i64 x33))) 32 (SV.val (Value.slice x32a x32n x32c))) 13 (SV.priv 13 0)) 11 (SV.priv 11 0)) 8 (SV.priv 8 0)) 0 (SV.val (Value.pointer x0))) x2 x3 x12 q_24 k8 k11 (splice [(Value.int .u8 0), (Value.int .u8 0), (Value.int .u8 0), (Value.int .u8 0), (Value.int .i64 0)] 0 (List.set (splice [(Value.int .u8 0), (Value.int .u8 0), (Value.int .u8 0), (Value.int .u8 0), (Value.int .i64 0)] 0 l_14) 4 (Value.int .i64 x12))) hp _) ?_ (RefOk.v 2 _ (RefOk.v 3 _ (RefOk.v 12 _ (RefOk.v 15 _ (RefOk.v 0 _ (RefOk.p 8 8 0 (RefOk.p 11 11 0 (RefOk.p 13 13 0 (RefOk.v 32 _ (RefOk.v 33 _ (RefOk.v 34 _ (RefOk.nil _)))) (fun e => by cases e)) (fun e => by cases e)) (fun e => by cases e))))))) (Sub.cons rfl (Sub.cons rfl (Sub.cons rfl (Sub.cons rfl (Sub.cons rfl (Sub.cons rfl (Sub.cons rfl (Sub.cons rfl (Sub.cons rfl (Sub.cons rfl (Sub.cons rfl (Sub.nil _)))))))))))) (Sub.cons rfl (Sub.cons rfl (Sub.cons rfl (Sub.nil _))))
                      refine ite2_mono h (fun h => ?_) (fun h => ?_)
                      · refine ite2_mono h (fun h => ?_) (fun h => ?_)
                        · exact ⟨x12, true, k8, (splice [(Value.int .u8 0), (Value.int .u8 0), (Value.int .u8 0), (Value.int .u8 0), (Value.int .i64 0)] 0 (List.set (splice [(Value.int .u8 0), (Value.int .u8 0), (Value.int .u8 0), (Value.int .u8 0), (Value.int .i64 0)] 0 l_14) 4 (Value.int .i64 x12))), (Sub.cons rfl (Sub.cons rfl (Sub.cons rfl (Sub.cons rfl (Sub.cons rfl (Sub.cons rfl (Sub.cons rfl (Sub.cons rfl (Sub.cons rfl (Sub.cons rfl (Sub.cons rfl (Sub.nil _)))))))))))), (Sub.cons rfl (Sub.cons rfl (Sub.cons rfl (Sub.nil _)))), h⟩
                        · refine CF_mono h (fun u_34 h_35 h => ?_)
                          refine boolV_mono h (fun q_36 h => ?_)
                          exact ⟨x12, q_36, k8, (splice [(Value.int .u8 0), (Value.int .u8 0), (Value.int .u8 0), (Value.int .u8 0), (Value.int .i64 0)] 0 (List.set (splice [(Value.int .u8 0), (Value.int .u8 0), (Value.int .u8 0), (Value.int .u8 0), (Value.int .i64 0)] 0 l_14) 4 (Value.int .i64 x12))), (Sub.cons rfl (Sub.cons rfl (Sub.cons rfl (Sub.cons rfl (Sub.cons rfl (Sub.cons rfl (Sub.cons rfl (Sub.cons rfl (Sub.cons rfl (Sub.cons rfl (Sub.cons rfl (Sub.nil _)))))))))))), (Sub.cons rfl (Sub.cons rfl (Sub.cons rfl (Sub.nil _)))), h⟩
                      · exact ⟨x12, false, k8, (splice [(Value.int .u8 0), (Value.int .u8 0), (Value.int .u8 0), (Value.int .u8 0), (Value.int .i64 0)] 0 (List.set (splice [(Value.int .u8 0), (Value.int .u8 0), (Value.int .u8 0), (Value.int .u8 0), (Value.int .i64 0)] 0 l_14) 4 (Value.int .i64 x12))), (Sub.cons rfl (Sub.cons rfl (Sub.cons rfl (Sub.cons rfl (Sub.cons rfl (Sub.cons rfl (Sub.cons rfl (Sub.cons rfl (Sub.cons rfl (Sub.cons rfl (Sub.cons rfl (Sub.nil _)))))))))))), (Sub.cons rfl (Sub.cons rfl (Sub.cons rfl (Sub.nil _)))), h⟩
                    · rintro env pv hp ⟨x12, x71, k8, k13, he, hv, h⟩
                      refine AWP.sub (env' := (upd (upd (upd (upd (upd (upd (upd (upd (upd (upd (upd E0 71 (SV.val (Value.bool x71))) 34 (SV.val (Value.int .i64 x34))) 33 (SV.val (Value.int .i64 x33))) 32 (SV.val (Value.slice x32a x32n x32c))) 13 (SV.priv 13 0)) 12 (SV.val (Value.int .i64 x12))) 11 (SV.priv 11 0)) 8 (SV.priv 8 0)) 3 (SV.val (Value.bool x3))) 2 (SV.val (Value.int .i64 x2))) 0 (SV.val (Value.pointer x0)))) (pv' := (upd (upd (upd V0 13 (75, k13)) 11 (73, k11)) 8 (75, k8))) ?_ (RefOk.v 0 _ (RefOk.v 2 _ (RefOk.v 3 _ (RefOk.p 8 8 0 (RefOk.p 11 11 0 (RefOk.v 12 _ (RefOk.p 13 13 0 (RefOk.v 32 _ (RefOk.v 33 _ (RefOk.v 34 _ (RefOk.v 71 _ (RefOk.nil _))))) (fun e => by cases e))) (fun e => by cases e)) (fun e => by cases e))))) he hv (HSub.refl _)
                      clear he hv
                      unfold F46_j8 at h
                      refine AWP.cond (t := x71) rfl (fun e => ?_) (fun e => ?_)
                      · replace h := ite2_t h e
                        refine AWP.seq' ?_
                        refine AWP.rgnD (by kernel_rfl) (by kernel_rfl) (F46_r11 (upd E0 8 (SV.priv 8 0)) x0 k8 k13 hp _) ?_ (RefOk.v 0 _ (RefOk.p 13 13 0 (RefOk.p 8 8 0 (RefOk.nil _) (fun e => by cases e)) (fun e => by cases e))) (Sub.cons rfl (Sub.cons rfl (Sub.cons rfl (Sub.nil _)))) (Sub.cons rfl (Sub.cons rfl (Sub.nil _)))
                        refine ptrN_mono h (fun b_25 o_26 h => ?_)
                        refine ldV_mono h (fun v_27 h => ?_)
                        refine mapV_mono h (fun m_28 h => ?_)
                        refine ldL_mono h (fun l_29 h => ?_)
                        refine opS_mono h (fun u_30 h_31 h => ?_)
                        refine AWP.seq' ?_
                        refine AWP.rgn (F46_r12 E0 k8 k13 h_31 _) ?_ (RefOk.p 8 8 0 (RefOk.p 13 13 0 (RefOk.nil _) (fun e => by cases e)) (fun e => by cases e)) (Sub.cons rfl (Sub.cons rfl (Sub.nil _))) (Sub.cons rfl (Sub.cons rfl (Sub.nil _)))
                        refine ldL_mono h (fun l_32 h => ?_)
                        refine if_mono h (fun h => ?_)
                        refine if_mono h (fun h => ?_)
                        refine if_mono h (fun h => ?_)
                        refine AWP.ret ?_
                        exact h
                      · replace h := ite2_f h e
                        refine AWP.skip ?_
                        refine AWP.rgn (F46_r13 (upd (upd (upd (upd (upd (upd (upd (upd E0 34 (SV.val (Value.int .i64 x34))) 33 (SV.val (Value.int .i64 x33))) 32 (SV.val (Value.slice x32a x32n x32c))) 11 (SV.priv 11 0)) 8 (SV.priv 8 0)) 3 (SV.val (Value.bool x3))) 2 (SV.val (Value.int .i64 x2))) 0 (SV.val (Value.pointer x0))) x12 k8 k11 hp _) ?_ (RefOk.v 12 _ (RefOk.v 0 _ (RefOk.v 2 _ (RefOk.v 3 _ (RefOk.p 8 8 0 (RefOk.p 11 11 0 (RefOk.v 32 _ (RefOk.v 33 _ (RefOk.v 34 _ (RefOk.nil _)))) (fun e => by cases e)) (fun e => by cases e)))))) (Sub.cons rfl (Sub.cons rfl (Sub.cons rfl (Sub.cons rfl (Sub.cons rfl (Sub.cons rfl (Sub.cons rfl (Sub.cons rfl (Sub.cons rfl (Sub.nil _)))))))))) (Sub.cons rfl (Sub.cons rfl (Sub.nil _)))
                        exact ⟨((IntKind.wrap .i64 (x12 + 1)), k8), (Sub.cons rfl (Sub.cons rfl (Sub.cons rfl (Sub.cons rfl (Sub.cons rfl (Sub.cons rfl (Sub.cons rfl (Sub.cons rfl (Sub.cons rfl (Sub.nil _)))))))))), (Sub.cons rfl (Sub.cons rfl (Sub.nil _))), h⟩
                  · replace h := ite2_f h e
                    refine AWP.exit ?_
                    exact ⟨x34, k8, (Sub.cons rfl (Sub.cons rfl (Sub.cons rfl (Sub.cons rfl (Sub.cons rfl (Sub.cons rfl (Sub.cons rfl (Sub.nil _)))))))), (Sub.cons rfl (Sub.nil _)), h⟩
              · rintro env pv hp ⟨x34, k8, he, hv, h⟩
                refine AWP.sub (env' := (upd (upd (upd (upd (upd (upd (upd E0 34 (SV.val (Value.int .i64 x34))) 33 (SV.val (Value.int .i64 x33))) 32 (SV.val (Value.slice x32a x32n x32c))) 8 (SV.priv 8 0)) 3 (SV.val (Value.bool x3))) 2 (SV.val (Value.int .i64 x2))) 0 (SV.val (Value.pointer x0)))) (pv' := (upd V0 8 (75, k8))) ?_ (RefOk.v 0 _ (RefOk.v 2 _ (RefOk.v 3 _ (RefOk.p 8 8 0 (RefOk.v 32 _ (RefOk.v 33 _ (RefOk.v 34 _ (RefOk.nil _)))) (fun e => by cases e))))) he hv (HSub.refl _)
                clear he hv
                unfold F46_j5 at h
                refine AWP.rgn (F46_r6 (upd (upd (upd (upd (upd (upd E0 33 (SV.val (Value.int .i64 x33))) 32 (SV.val (Value.slice x32a x32n x32c))) 8 (SV.priv 8 0)) 3 (SV.val (Value.bool x3))) 2 (SV.val (Value.int .i64 x2))) 0 (SV.val (Value.pointer x0))) x34 k8 hp _) ?_ (RefOk.v 34 _ (RefOk.v 0 _ (RefOk.v 2 _ (RefOk.v 3 _ (RefOk.p 8 8 0 (RefOk.v 32 _ (RefOk.v 33 _ (RefOk.nil _))) (fun e => by cases e)))))) (Sub.cons rfl (Sub.cons rfl (Sub.cons rfl (Sub.cons rfl (Sub.cons rfl (Sub.cons rfl (Sub.cons rfl (Sub.nil _)))))))) (Sub.cons rfl (Sub.nil _))
                exact ⟨((IntKind.wrap .i64 (x34 + 1)), k8), (Sub.cons rfl (Sub.cons rfl (Sub.cons rfl (Sub.cons rfl (Sub.cons rfl (Sub.cons rfl (Sub.cons rfl (Sub.nil _)))))))), (Sub.cons rfl (Sub.nil _)), h⟩
            · replace h := ite2_f h e
              refine AWP.exit ?_
              exact ⟨k8, (Sub.cons rfl (Sub.nil _)), (Sub.cons rfl (Sub.nil _)), h⟩
        · rintro env pv hp ⟨k8, he, hv, h⟩
          refine AWP.sub (env' := (upd E0 8 (SV.priv 8 0))) (pv' := (upd V0 8 (75, k8))) ?_ (RefOk.p 8 8 0 (RefOk.nil _) (fun e => by cases e)) he hv (HSub.refl _)
          clear he hv
          unfold F46_j2 at h
          refine AWP.seq' ?_
          refine AWP.rgn (F46_r4 E0 k8 hp _) ?_ (RefOk.p 8 8 0 (RefOk.nil _) (fun e => by cases e)) (Sub.cons rfl (Sub.nil _)) (Sub.cons rfl (Sub.nil _))
          refine if_mono h (fun h => ?_)
          refine if_mono h (fun h => ?_)
          refine if_mono h (fun h => ?_)
          refine AWP.ret ?_
          exact h

-- 52 interpreter/interpreterlaw18.one
theorem F52_r0 (e : Env) (hp : HP) (K : Env → PV → HP → Prop) : RW Try.prog 2 [0] (opsAt Try.f52 [0]) (List.range 1) e V0 hp K =
    (K (upd e 0 (SV.priv 0 0)) (upd V0 0 (73, [(Value.int .u8 0), (Value.int .u8 0), (Value.int .u8 0), (Value.int .u8 0)])) hp) := by kernel_rfl
theorem F52_r1 (e : Env) (k0 : List Value) (hp : HP) (K : Env → PV → HP → Prop) : RW Try.prog 2 [0] (opsAt Try.f52 [1, 0]) (List.range 2) (upd e 0 (SV.priv 0 0)) (upd V0 0 (73, k0)) hp K =
    (if List.length [(Value.int .u8 1), (Value.int .u8 0), (Value.int .u8 0), (Value.int .u8 1)] = 4 then (if List.all [(Value.int .u8 1), (Value.int .u8 0), (Value.int .u8 0), (Value.int .u8 1)] one = true then (if 0 + List.length [(Value.int .u8 1), (Value.int .u8 0), (Value.int .u8 0), (Value.int .u8 1)] ≤ List.length k0 then (K (upd (upd e 0 (SV.priv 0 0)) 1 (SV.val (Value.agg ⟨[(Value.int .u8 1), (Value.int .u8 0), (Value.int .u8 0), (Value.int .u8 1)]⟩))) (upd (upd V0 0 (73, k0)) 0 (73, (splice k0 0 [(Value.int .u8 1), (Value.int .u8 0), (Value.int .u8 0), (Value.int .u8 1)]))) hp) else False) else False) else False) := by kernel_rfl
def F52 (hp : HP) (K : Value → HP → Prop) : Prop :=
  (if List.length [(Value.int .u8 1), (Value.int .u8 0), (Value.int .u8 0), (Value.int .u8 1)] = 4 then (if List.all [(Value.int .u8 1), (Value.int .u8 0), (Value.int .u8 0), (Value.int .u8 1)] one = true then (if 0 + List.length [(Value.int .u8 1), (Value.int .u8 0), (Value.int .u8 0), (Value.int .u8 1)] ≤ List.length [(Value.int .u8 0), (Value.int .u8 0), (Value.int .u8 0), (Value.int .u8 0)] then (ldL (cellsN (splice [(Value.int .u8 0), (Value.int .u8 0), (Value.int .u8 0), (Value.int .u8 0)] 0 [(Value.int .u8 1), (Value.int .u8 0), (Value.int .u8 0), (Value.int .u8 1)]) 0 4) fun l_1 => (K (.agg ⟨l_1⟩) hp)) else False) else False) else False)
noncomputable def F52_code : Code := (.seq (.region 0 (opsAt Try.f52 [0]) false) (.seq (.region 1 (opsAt Try.f52 [1, 0]) false) .ret))
theorem F52_body : Try.f52.body = some F52_code := by kernel_rfl
theorem F52_ok (hp : HP) (K : Value → HP → Prop) (h : F52  hp K) : CF Try.prog 52 [] hp K := by
  refine ⟨by kernel_rfl, AC.intro (N := 2) Try.func52 F52_body rfl (Nat.le_of_ble_eq_true rfl) ?_⟩
  unfold F52 at h
  unfold F52_code
  refine AWP.seq' ?_
  refine AWP.rgn (F52_r0 E0  hp _) ?_ (RefOk.nil _) (Sub.nil _) (Sub.nil _)
  refine AWP.seq' ?_
  refine AWP.rgn (F52_r1 E0 [(Value.int .u8 0), (Value.int .u8 0), (Value.int .u8 0), (Value.int .u8 0)] hp _) ?_ (RefOk.p 0 0 0 (RefOk.nil _) (fun e => by cases e)) (Sub.cons rfl (Sub.nil _)) (Sub.cons rfl (Sub.nil _))
  refine if_mono h (fun h => ?_)
  refine if_mono h (fun h => ?_)
  refine if_mono h (fun h => ?_)
  refine AWP.ret ?_
  exact h

-- 53 interpreter/interpreterlaw18.two
theorem F53_r0 (e : Env) (hp : HP) (K : Env → PV → HP → Prop) : RW Try.prog 2 [0] (opsAt Try.f53 [0]) (List.range 1) e V0 hp K =
    (K (upd e 0 (SV.priv 0 0)) (upd V0 0 (73, [(Value.int .u8 0), (Value.int .u8 0), (Value.int .u8 0), (Value.int .u8 0)])) hp) := by kernel_rfl
theorem F53_r1 (e : Env) (k0 : List Value) (hp : HP) (K : Env → PV → HP → Prop) : RW Try.prog 2 [0] (opsAt Try.f53 [1, 0]) (List.range 2) (upd e 0 (SV.priv 0 0)) (upd V0 0 (73, k0)) hp K =
    (if List.length [(Value.int .u8 1), (Value.int .u8 0), (Value.int .u8 0), (Value.int .u8 2)] = 4 then (if List.all [(Value.int .u8 1), (Value.int .u8 0), (Value.int .u8 0), (Value.int .u8 2)] one = true then (if 0 + List.length [(Value.int .u8 1), (Value.int .u8 0), (Value.int .u8 0), (Value.int .u8 2)] ≤ List.length k0 then (K (upd (upd e 0 (SV.priv 0 0)) 1 (SV.val (Value.agg ⟨[(Value.int .u8 1), (Value.int .u8 0), (Value.int .u8 0), (Value.int .u8 2)]⟩))) (upd (upd V0 0 (73, k0)) 0 (73, (splice k0 0 [(Value.int .u8 1), (Value.int .u8 0), (Value.int .u8 0), (Value.int .u8 2)]))) hp) else False) else False) else False) := by kernel_rfl
def F53 (hp : HP) (K : Value → HP → Prop) : Prop :=
  (if List.length [(Value.int .u8 1), (Value.int .u8 0), (Value.int .u8 0), (Value.int .u8 2)] = 4 then (if List.all [(Value.int .u8 1), (Value.int .u8 0), (Value.int .u8 0), (Value.int .u8 2)] one = true then (if 0 + List.length [(Value.int .u8 1), (Value.int .u8 0), (Value.int .u8 0), (Value.int .u8 2)] ≤ List.length [(Value.int .u8 0), (Value.int .u8 0), (Value.int .u8 0), (Value.int .u8 0)] then (ldL (cellsN (splice [(Value.int .u8 0), (Value.int .u8 0), (Value.int .u8 0), (Value.int .u8 0)] 0 [(Value.int .u8 1), (Value.int .u8 0), (Value.int .u8 0), (Value.int .u8 2)]) 0 4) fun l_1 => (K (.agg ⟨l_1⟩) hp)) else False) else False) else False)
noncomputable def F53_code : Code := (.seq (.region 0 (opsAt Try.f53 [0]) false) (.seq (.region 1 (opsAt Try.f53 [1, 0]) false) .ret))
theorem F53_body : Try.f53.body = some F53_code := by kernel_rfl
theorem F53_ok (hp : HP) (K : Value → HP → Prop) (h : F53  hp K) : CF Try.prog 53 [] hp K := by
  refine ⟨by kernel_rfl, AC.intro (N := 2) Try.func53 F53_body rfl (Nat.le_of_ble_eq_true rfl) ?_⟩
  unfold F53 at h
  unfold F53_code
  refine AWP.seq' ?_
  refine AWP.rgn (F53_r0 E0  hp _) ?_ (RefOk.nil _) (Sub.nil _) (Sub.nil _)
  refine AWP.seq' ?_
  refine AWP.rgn (F53_r1 E0 [(Value.int .u8 0), (Value.int .u8 0), (Value.int .u8 0), (Value.int .u8 0)] hp _) ?_ (RefOk.p 0 0 0 (RefOk.nil _) (fun e => by cases e)) (Sub.cons rfl (Sub.nil _)) (Sub.cons rfl (Sub.nil _))
  refine if_mono h (fun h => ?_)
  refine if_mono h (fun h => ?_)
  refine if_mono h (fun h => ?_)
  refine AWP.ret ?_
  exact h

-- 74 interpreter/pool.port
theorem F74_r0 (e : Env) (hp : HP) (K : Env → PV → HP → Prop) : RW Try.prog 9 [] (opsAt Try.f74 [0]) (List.range 1) e V0 hp K =
    (K (upd e 2 (SV.val (Value.bool false))) V0 hp) := by kernel_rfl
theorem F74_r1 (e : Env) (x0 : Int) (hp : HP) (K : Env → PV → HP → Prop) : RW Try.prog 9 [] (opsAt Try.f74 [1, 0]) (List.range 7) (upd e 0 (SV.val (Value.int .i64 x0))) V0 hp K =
    (ite2 (decide ((x0 : Int) ≥ 0)) (K (upd (upd (upd (upd (upd (upd (upd (upd e 0 (SV.val (Value.int .i64 x0))) 3 (SV.val (Value.int .i64 x0))) 4 (SV.val (Value.bool (decide ((x0 : Int) ≥ 0))))) 5 (SV.val (Value.bool true))) 6 (SV.val (Value.int .i64 x0))) 7 (SV.val (Value.bool (decide ((x0 : Int) ≤ 65535))))) 8 (SV.val (Value.bool (decide ((x0 : Int) ≤ 65535))))) 2 (SV.val (Value.bool (decide ((x0 : Int) ≤ 65535))))) V0 hp) (K (upd (upd (upd (upd (upd (upd (upd (upd e 0 (SV.val (Value.int .i64 x0))) 3 (SV.val (Value.int .i64 x0))) 4 (SV.val (Value.bool (decide ((x0 : Int) ≥ 0))))) 5 (SV.val (Value.bool false))) 6 (SV.val undef)) 7 (SV.val undef)) 8 (SV.val (Value.bool false))) 2 (SV.val (Value.bool false))) V0 hp)) := by kernel_rfl
def F74 (x0 : Int) (hp : HP) (K : Value → HP → Prop) : Prop :=
  (ite2 (decide ((x0 : Int) ≥ 0)) (K (Value.bool (decide ((x0 : Int) ≤ 65535))) hp) (K (Value.bool false) hp))
noncomputable def F74_code : Code := (.seq (.region 0 (opsAt Try.f74 [0]) false) (.seq (.region 1 (opsAt Try.f74 [1, 0]) false) .ret))
theorem F74_body : Try.f74.body = some F74_code := by kernel_rfl
theorem F74_ok (x0 : Int) (hp : HP) (K : Value → HP → Prop) (h : F74 x0 hp K) : CF Try.prog 74 [(Value.int .i64 x0)] hp K := by
  refine ⟨by kernel_rfl, AC.intro (N := 9) Try.func74 F74_body rfl (Nat.le_of_ble_eq_true rfl) ?_⟩
  unfold F74 at h
  unfold F74_code
  refine AWP.seq' ?_
  refine AWP.rgn (F74_r0 (upd E0 0 (SV.val (Value.int .i64 x0)))  hp _) ?_ (RefOk.v 0 _ (RefOk.nil _)) (Sub.cons rfl (Sub.nil _)) (Sub.nil _)
  refine AWP.seq' ?_
  refine AWP.rgn (F74_r1 E0 x0 hp _) ?_ (RefOk.v 0 _ (RefOk.nil _)) (Sub.cons rfl (Sub.nil _)) (Sub.nil _)
  refine ite2_mono h (fun h => ?_) (fun h => ?_)
  · refine AWP.ret ?_
    exact h
  · refine AWP.ret ?_
    exact h

-- 92 slices.Contains[[]interpreter/api.V4,interpreter/api.V4]
theorem F92_r0 (e : Env) (x1 : List Value) (hp : HP) (K : Env → PV → HP → Prop) : RW Try.prog 9 [3] (opsAt Try.f92 [0]) (List.range 2) (upd e 1 (SV.val (Value.agg ⟨x1⟩))) V0 hp K =
    (K (upd (upd (upd e 1 (SV.val (Value.agg ⟨x1⟩))) 3 (SV.priv 3 0)) 4 (SV.val (Value.bool false))) (upd V0 3 (73, x1)) hp) := by kernel_rfl
theorem F92_r1 (e : Env) (x0a : Option Addr) (x0n : Nat) (x0c : Nat) (k3 : List Value) (hp : HP) (K : Env → PV → HP → Prop) : RW Try.prog 9 [3] (opsAt Try.f92 [1, 0]) (List.range 5) (upd (upd e 3 (SV.priv 3 0)) 0 (SV.val (Value.slice x0a x0n x0c))) (upd V0 3 (73, k3)) hp K =
    (ldL (cellsN k3 0 4) fun l1 => (CF Try.prog 98 [(Value.slice x0a x0n x0c), (Value.agg ⟨l1⟩)] hp fun u2 h3 => (intV u2 .i64 fun i4 => (K (upd (upd (upd (upd (upd (upd (upd e 3 (SV.priv 3 0)) 0 (SV.val (Value.slice x0a x0n x0c))) 5 (SV.val (Value.slice x0a x0n x0c))) 6 (SV.val (Value.agg ⟨l1⟩))) 7 (SV.val (Value.int .i64 i4))) 8 (SV.val (Value.bool (decide ((i4 : Int) ≥ 0))))) 4 (SV.val (Value.bool (decide ((i4 : Int) ≥ 0))))) (upd V0 3 (73, k3)) h3)))) := by kernel_rfl
def F92 (x0a : Option Addr) (x0n : Nat) (x0c : Nat) (x1 : List Value) (hp : HP) (K : Value → HP → Prop) : Prop :=
  (ldL (cellsN x1 0 4) fun l_1 => (CF Try.prog 98 [(Value.slice x0a x0n x0c), (Value.agg ⟨l_1⟩)] hp fun u_2 h_3 => (intV u_2 .i64 fun i_4 => (K (Value.bool (decide ((i_4 : Int) ≥ 0))) h_3))))
noncomputable def F92_code : Code := (.seq (.region 0 (opsAt Try.f92 [0]) false) (.seq (.region 1 (opsAt Try.f92 [1, 0]) false) .ret))
theorem F92_body : Try.f92.body = some F92_code := by kernel_rfl
theorem F92_ok (x0a : Option Addr) (x0n : Nat) (x0c : Nat) (x1 : List Value) (hp : HP) (K : Value → HP → Prop) (h : F92 x0a x0n x0c x1 hp K) : CF Try.prog 92 [(Value.slice x0a x0n x0c), (Value.agg ⟨x1⟩)] hp K := by
  refine ⟨by kernel_rfl, AC.intro (N := 9) Try.func92 F92_body rfl (Nat.le_of_ble_eq_true rfl) ?_⟩
  unfold F92 at h
  unfold F92_code
  refine AWP.seq' ?_
  refine AWP.rgn (F92_r0 (upd E0 0 (SV.val (Value.slice x0a x0n x0c))) x1 hp _) ?_ (RefOk.v 1 _ (RefOk.v 0 _ (RefOk.nil _))) (Sub.cons rfl (Sub.cons rfl (Sub.nil _))) (Sub.nil _)
  refine AWP.seq' ?_
  refine AWP.rgn (F92_r1 E0 x0a x0n x0c x1 hp _) ?_ (RefOk.v 0 _ (RefOk.p 3 3 0 (RefOk.nil _) (fun e => by cases e))) (Sub.cons rfl (Sub.cons rfl (Sub.nil _))) (Sub.cons rfl (Sub.nil _))
  refine ldL_mono h (fun l_1 h => ?_)
  refine CF_mono h (fun u_2 h_3 h => ?_)
  refine intV_mono h (fun i_4 h => ?_)
  refine AWP.ret ?_
  exact h

-- 93 slices.Clone[[]interpreter/api.V4,interpreter/api.V4]
theorem F93_r0 (e : Env) (hp : HP) (K : Env → PV → HP → Prop) : RW Try.prog 8 [] (opsAt Try.f93 [0]) (List.range 1) e V0 hp K =
    (K (upd e 2 (SV.val (Value.slice none 0 0))) V0 hp) := by kernel_rfl
theorem F93_r1 (e : Env) (x0a : Option Addr) (x0n : Nat) (x0c : Nat) (hp : HP) (K : Env → PV → HP → Prop) : RW Try.prog 8 [] (opsAt Try.f93 [1, 0, 0]) (List.range 2) (upd e 0 (SV.val (Value.slice x0a x0n x0c))) V0 hp K =
    (K (upd (upd (upd e 0 (SV.val (Value.slice x0a x0n x0c))) 3 (SV.val (Value.slice x0a x0n x0c))) 4 (SV.val (Value.bool (Option.isNone x0a)))) V0 hp) := by kernel_rfl
theorem F93_r2 (e : Env) (hp : HP) (K : Env → PV → HP → Prop) : RW Try.prog 8 [] (opsAt Try.f93 [1, 0, 1, 0, 0]) (List.range 1) e V0 hp K =
    (K (upd e 2 (SV.val (Value.slice none 0 0))) V0 hp) := by kernel_rfl
theorem F93_r3 (e : Env) (x0a : Option Addr) (x0n : Nat) (x0c : Nat) (hp : HP) (K : Env → PV → HP → Prop) : RW Try.prog 8 [] (opsAt Try.f93 [1, 1, 0]) (List.range 4) (upd e 0 (SV.val (Value.slice x0a x0n x0c))) V0 hp K =
    (∀ b1 : Nat, hp b1 = .none → (opS Try.prog (Builtin.append_ #[66, 66] 66 ⟨[(Value.slice (some ⟨b1, 0, none⟩) 0 0), (Value.slice x0a x0n x0c)]⟩) (HP.set hp b1 (.cells 73 [] 0)) fun u2 h3 => (slcV u2 fun a4 n5 c6 => (K (upd (upd (upd (upd (upd e 0 (SV.val (Value.slice x0a x0n x0c))) 5 (SV.val (Value.slice (some ⟨b1, 0, none⟩) 0 0))) 6 (SV.val (Value.slice x0a x0n x0c))) 7 (SV.val (Value.slice a4 n5 c6))) 2 (SV.val (Value.slice a4 n5 c6))) V0 h3)))) := by kernel_rfl
def F93 (x0a : Option Addr) (x0n : Nat) (x0c : Nat) (hp : HP) (K : Value → HP → Prop) : Prop :=
  (ite2 (Option.isNone x0a) (K (Value.slice none 0 0) hp) (∀ b_1 : Nat, hp b_1 = .none → (opS Try.prog (Builtin.append_ #[66, 66] 66 ⟨[(Value.slice (some ⟨b_1, 0, none⟩) 0 0), (Value.slice x0a x0n x0c)]⟩) (HP.set hp b_1 (.cells 73 [] 0)) fun u_2 h_3 => (slcV u_2 fun a_4 n_5 c_6 => (K (Value.slice a_4 n_5 c_6) h_3)))))
noncomputable def F93_code : Code := (.seq (.region 0 (opsAt Try.f93 [0]) false) (.seq (.seq (.region 1 (opsAt Try.f93 [1, 0, 0]) false) (.cond (.tmp 4) (.seq (.region 2 (opsAt Try.f93 [1, 0, 1, 0, 0]) false) .ret) .skip)) (.seq (.region 3 (opsAt Try.f93 [1, 1, 0]) false) .ret)))
theorem F93_body : Try.f93.body = some F93_code := by kernel_rfl
theorem F93_ok (x0a : Option Addr) (x0n : Nat) (x0c : Nat) (hp : HP) (K : Value → HP → Prop) (h : F93 x0a x0n x0c hp K) : CF Try.prog 93 [(Value.slice x0a x0n x0c)] hp K := by
  refine ⟨by kernel_rfl, AC.intro (N := 8) Try.func93 F93_body rfl (Nat.le_of_ble_eq_true rfl) ?_⟩
  unfold F93 at h
  unfold F93_code
  refine AWP.seq' ?_
  refine AWP.rgn (F93_r0 (upd E0 0 (SV.val (Value.slice x0a x0n x0c)))  hp _) ?_ (RefOk.v 0 _ (RefOk.nil _)) (Sub.cons rfl (Sub.nil _)) (Sub.nil _)
  refine AWP.seq' ?_
  refine AWP.seq' ?_
  refine AWP.rgn (F93_r1 E0 x0a x0n x0c hp _) ?_ (RefOk.v 0 _ (RefOk.nil _)) (Sub.cons rfl (Sub.nil _)) (Sub.nil _)
  refine AWP.cond (t := (Option.isNone x0a)) rfl (fun e => ?_) (fun e => ?_)
  · replace h := ite2_t h e
    refine AWP.seq' ?_
    refine AWP.rgn (F93_r2 E0  hp _) ?_ (RefOk.nil _) (Sub.nil _) (Sub.nil _)
    refine AWP.ret ?_
    exact h
  · replace h := ite2_f h e
    refine AWP.skip ?_
    refine AWP.seq' ?_
    refine AWP.rgn (F93_r3 E0 x0a x0n x0c hp _) ?_ (RefOk.v 0 _ (RefOk.nil _)) (Sub.cons rfl (Sub.nil _)) (Sub.nil _)
    refine fun b_1 hb_b_1 => ?_
    replace h := h b_1 hb_b_1
    refine opS_mono h (fun u_2 h_3 h => ?_)
    refine slcV_mono h (fun a_4 n_5 c_6 h => ?_)
    refine AWP.ret ?_
    exact h

-- 98 slices.Index[[]interpreter/api.V4,interpreter/api.V4]
theorem F98_r0 (e : Env) (x1 : List Value) (hp : HP) (K : Env → PV → HP → Prop) : RW Try.prog 19 [3] (opsAt Try.f98 [0]) (List.range 2) (upd e 1 (SV.val (Value.agg ⟨x1⟩))) V0 hp K =
    (K (upd (upd (upd e 1 (SV.val (Value.agg ⟨x1⟩))) 3 (SV.priv 3 0)) 4 (SV.val (Value.int .i64 0))) (upd V0 3 (73, x1)) hp) := by kernel_rfl
theorem F98_r1 (e : Env) (x7 : Int) (x8 : Int) (k3 : List Value) (hp : HP) (K : Env → PV → HP → Prop) : RW Try.prog 19 [3] (opsAt Try.f98 [1, 0, 1, 0, 0, 0]) (List.range 1) (upd (upd e 8 (SV.val (Value.int .i64 x8))) 7 (SV.val (Value.int .i64 x7))) (upd V0 3 (73, k3)) hp K =
    (K (upd (upd (upd e 8 (SV.val (Value.int .i64 x8))) 7 (SV.val (Value.int .i64 x7))) 9 (SV.val (Value.bool (decide ((x8 : Int) < x7))))) (upd V0 3 (73, k3)) hp) := by kernel_rfl
theorem F98_r2 (e : Env) (x8 : Int) (k3 : List Value) (hp : HP) (K : Env → PV → HP → Prop) : RW Try.prog 19 [3] (opsAt Try.f98 [1, 0, 1, 0, 0, 1, 1, 0, 0, 0]) (List.range 2) (upd e 8 (SV.val (Value.int .i64 x8))) (upd V0 3 (73, k3)) hp K =
    (K (upd (upd (upd e 8 (SV.val (Value.int .i64 x8))) 10 (SV.val (Value.int .i64 x8))) 5 (SV.val (Value.int .i64 x8))) (upd V0 3 (73, k3)) hp) := by kernel_rfl
theorem F98_r3 (e : Env) (x0a : Option Addr) (x0n : Nat) (x0c : Nat) (x5 : Int) (k3 : List Value) (hp : HP) (K : Env → PV → HP → Prop) : RW Try.prog 19 [3] (opsAt Try.f98 [1, 0, 1, 0, 0, 1, 1, 0, 0, 1, 0]) (List.range 6) (upd (upd (upd e 5 (SV.val (Value.int .i64 x5))) 3 (SV.priv 3 0)) 0 (SV.val (Value.slice x0a x0n x0c))) (upd V0 3 (73, k3)) hp K =
    (ldL (cellsN k3 0 4) fun l1 => ((0 ≤ (x5 : Int)) ∧ ((x5 : Int) < (x0n : Nat)) ∧ (ptrN x0a fun b2 o3 => (ldL (HP.cellN hp b2 (o3 + Int.toNat x5 * 4) 4) fun l4 => (eqAgg Try.prog 73 l1 l4 fun q5 => (K (upd (upd (upd (upd (upd (upd (upd (upd (upd e 5 (SV.val (Value.int .i64 x5))) 3 (SV.priv 3 0)) 0 (SV.val (Value.slice x0a x0n x0c))) 11 (SV.val (Value.agg ⟨l1⟩))) 12 (SV.val (Value.slice x0a x0n x0c))) 13 (SV.val (Value.int .i64 x5))) 14 (SV.val (ptr b2 (o3 + Int.toNat x5 * 4)))) 15 (SV.val (Value.agg ⟨l4⟩))) 16 (SV.val (Value.bool q5))) (upd V0 3 (73, k3)) hp)))))) := by kernel_rfl
theorem F98_r4 (e : Env) (x5 : Int) (hp : HP) (K : Env → PV → HP → Prop) : RW Try.prog 19 [3] (opsAt Try.f98 [1, 0, 1, 0, 0, 1, 1, 0, 0, 1, 1, 0, 0]) (List.range 2) (upd e 5 (SV.val (Value.int .i64 x5))) V0 hp K =
    (K (upd (upd (upd e 5 (SV.val (Value.int .i64 x5))) 17 (SV.val (Value.int .i64 x5))) 4 (SV.val (Value.int .i64 x5))) V0 hp) := by kernel_rfl
theorem F98_r5 (e : Env) (x8 : Int) (k3 : List Value) (hp : HP) (K : Env → PV → HP → Prop) : RW Try.prog 19 [3] (opsAt Try.f98 [1, 0, 1, 0, 0, 1, 1, 1]) (List.range 2) (upd e 8 (SV.val (Value.int .i64 x8))) (upd V0 3 (73, k3)) hp K =
    (K (upd (upd (upd e 8 (SV.val (Value.int .i64 x8))) 18 (SV.val (Value.int .i64 (IntKind.wrap .i64 (x8 + 1))))) 8 (SV.val (Value.int .i64 (IntKind.wrap .i64 (x8 + 1))))) (upd V0 3 (73, k3)) hp) := by kernel_rfl
theorem F98_r6 (e : Env) (hp : HP) (K : Env → PV → HP → Prop) : RW Try.prog 19 [3] (opsAt Try.f98 [1, 1, 0]) (List.range 1) e V0 hp K =
    (K (upd e 4 (SV.val (Value.int .i64 (-1)))) V0 hp) := by kernel_rfl
def F98_l2 (x0a : Option Addr) (x0n : Nat) (x0c : Nat) (x7 : Int) (k3 : List Value) (K : Value → HP → Prop) (I2 : (Int) → HP → Prop) (x8 : Int) (hp : HP) : Prop :=
  (ite2 (decide ((x8 : Int) < x7)) (ldL (cellsN k3 0 4) fun l_1 => ((0 ≤ (x8 : Int)) ∧ ((x8 : Int) < (x0n : Nat)) ∧ (ptrN x0a fun b_2 o_3 => (ldL (HP.cellN hp b_2 (o_3 + Int.toNat x8 * 4) 4) fun l_4 => (eqAgg Try.prog 73 l_1 l_4 fun q_5 => (ite2 q_5 (K (Value.int .i64 x8) hp) (I2 (IntKind.wrap .i64 (x8 + 1)) hp))))))) (K (Value.int .i64 (-1)) hp))
def F98_j1 (x0a : Option Addr) (x0n : Nat) (x0c : Nat) (x7 : Int) (x8 : Int) (k3 : List Value) (hp : HP) (K : Value → HP → Prop) : Prop :=
  (LoopP (σ := Int) (fun I s hp => F98_l2 x0a x0n x0c x7 k3  K I s hp) x8 hp)
theorem F98_r7 (e : Env) (x0a : Option Addr) (x0n : Nat) (x0c : Nat) (k3 : List Value) (hp : HP) (K : Env → PV → HP → Prop) : RW Try.prog 19 [3] (opsAt Try.f98 [1, 0, 0]) (List.range 3) (upd e 0 (SV.val (Value.slice x0a x0n x0c))) (upd V0 3 (73, k3)) hp K =
    (K (upd (upd (upd (upd e 0 (SV.val (Value.slice x0a x0n x0c))) 6 (SV.val (Value.slice x0a x0n x0c))) 7 (SV.val (Value.int .i64 (x0n : Nat)))) 8 (SV.val (Value.int .i64 0))) (upd V0 3 (73, k3)) hp) := by kernel_rfl
def F98 (x0a : Option Addr) (x0n : Nat) (x0c : Nat) (x1 : List Value) (hp : HP) (K : Value → HP → Prop) : Prop :=
  (F98_j1 x0a x0n x0c (x0n : Nat) 0 x1 hp  K)
noncomputable def F98_code : Code := (.seq (.region 0 (opsAt Try.f98 [0]) false) (.seq (.seq (.region 1 (opsAt Try.f98 [1, 0, 0]) false) (.block 0 (.loop (.seq (.region 2 (opsAt Try.f98 [1, 0, 1, 0, 0, 0]) false) (.seq (.cond (.tmp 9) .skip (.exit 0)) (.seq (.block 1 (.seq (.region 3 (opsAt Try.f98 [1, 0, 1, 0, 0, 1, 1, 0, 0, 0]) false) (.seq (.region 4 (opsAt Try.f98 [1, 0, 1, 0, 0, 1, 1, 0, 0, 1, 0]) true) (.cond (.tmp 16) (.seq (.region 5 (opsAt Try.f98 [1, 0, 1, 0, 0, 1, 1, 0, 0, 1, 1, 0, 0]) false) .ret) .skip)))) (.region 6 (opsAt Try.f98 [1, 0, 1, 0, 0, 1, 1, 1]) false))))))) (.seq (.region 7 (opsAt Try.f98 [1, 1, 0]) false) .ret)))
theorem F98_body : Try.f98.body = some F98_code := by kernel_rfl
theorem F98_ok (x0a : Option Addr) (x0n : Nat) (x0c : Nat) (x1 : List Value) (hp : HP) (K : Value → HP → Prop) (h : F98 x0a x0n x0c x1 hp K) : CF Try.prog 98 [(Value.slice x0a x0n x0c), (Value.agg ⟨x1⟩)] hp K := by
  refine ⟨by kernel_rfl, AC.intro (N := 19) Try.func98 F98_body rfl (Nat.le_of_ble_eq_true rfl) ?_⟩
  unfold F98 at h
  unfold F98_code
  refine AWP.seq' ?_
  refine AWP.rgn (F98_r0 (upd E0 0 (SV.val (Value.slice x0a x0n x0c))) x1 hp _) ?_ (RefOk.v 1 _ (RefOk.v 0 _ (RefOk.nil _))) (Sub.cons rfl (Sub.cons rfl (Sub.nil _))) (Sub.nil _)
  refine AWP.seq' ?_
  refine AWP.seq (fun env pv hp => ∃ (x0a : Option Addr) (x0n : Nat) (x0c : Nat) (x7 : Int) (x8 : Int) (k3 : List Value), Sub (upd (upd (upd (upd E0 8 (SV.val (Value.int .i64 x8))) 7 (SV.val (Value.int .i64 x7))) 3 (SV.priv 3 0)) 0 (SV.val (Value.slice x0a x0n x0c))) env ∧ Sub (upd V0 3 (73, k3)) pv ∧ (F98_j1 x0a x0n x0c x7 x8 k3 hp  K)) ?_ ?_
  · refine AWP.rgn (F98_r7 (upd E0 3 (SV.priv 3 0)) x0a x0n x0c x1 hp _) ?_ (RefOk.v 0 _ (RefOk.p 3 3 0 (RefOk.nil _) (fun e => by cases e))) (Sub.cons rfl (Sub.cons rfl (Sub.nil _))) (Sub.cons rfl (Sub.nil _))
    exact ⟨x0a, x0n, x0c, (x0n : Nat), 0, x1, (Sub.cons rfl (Sub.cons rfl (Sub.cons rfl (Sub.cons rfl (Sub.nil _))))), (Sub.cons rfl (Sub.nil _)), h⟩
  · rintro env pv hp ⟨x0a, x0n, x0c, x7, x8, k3, he, hv, h⟩
    refine AWP.sub (env' := (upd (upd (upd (upd E0 8 (SV.val (Value.int .i64 x8))) 7 (SV.val (Value.int .i64 x7))) 3 (SV.priv 3 0)) 0 (SV.val (Value.slice x0a x0n x0c)))) (pv' := (upd V0 3 (73, k3))) ?_ (RefOk.v 0 _ (RefOk.p 3 3 0 (RefOk.v 7 _ (RefOk.v 8 _ (RefOk.nil _))) (fun e => by cases e))) he hv (HSub.refl _)
    clear he hv
    unfold F98_j1 at h
    refine AWP.block ?_
    refine AWP.loop (σ := Int) (fun I s hp => F98_l2 x0a x0n x0c x7 k3  K I s hp) (fun s => (upd (upd (upd (upd E0 8 (SV.val (Value.int .i64 s))) 7 (SV.val (Value.int .i64 x7))) 3 (SV.priv 3 0)) 0 (SV.val (Value.slice x0a x0n x0c)))) (fun s => (upd V0 3 (73, k3))) x8 h (fun s => (RefOk.v 0 _ (RefOk.p 3 3 0 (RefOk.v 7 _ (RefOk.v 8 _ (RefOk.nil _))) (fun e => by cases e)))) (Sub.cons rfl (Sub.cons rfl (Sub.cons rfl (Sub.cons rfl (Sub.nil _))))) (Sub.cons rfl (Sub.nil _)) ?_
    intro I2 s hp h
    obtain ⟨x8, hs⟩ : ∃ x, x = s := ⟨s, rfl⟩
    subst hs
    replace h : F98_l2 x0a x0n x0c x7 k3  K I2 x8 hp := h
    unfold F98_l2 at h
    refine AWP.seq' ?_
    refine AWP.rgn (F98_r1 (upd (upd E0 3 (SV.priv 3 0)) 0 (SV.val (Value.slice x0a x0n x0c))) x7 x8 k3 hp _) ?_ (RefOk.v 7 _ (RefOk.v 8 _ (RefOk.v 0 _ (RefOk.p 3 3 0 (RefOk.nil _) (fun e => by cases e))))) (Sub.cons rfl (Sub.cons rfl (Sub.cons rfl (Sub.cons rfl (Sub.nil _))))) (Sub.cons rfl (Sub.nil _))
    refine AWP.seq' ?_
    refine AWP.cond (t := (decide ((x8 : Int) < x7))) rfl (fun e => ?_) (fun e => ?_)
    · replace h := ite2_t h e
      refine AWP.skip ?_
      refine AWP.seq' ?_
      refine AWP.block ?_
      refine AWP.seq' ?_
      refine AWP.rgn (F98_r2 (upd (upd (upd E0 7 (SV.val (Value.int .i64 x7))) 3 (SV.priv 3 0)) 0 (SV.val (Value.slice x0a x0n x0c))) x8 k3 hp _) ?_ (RefOk.v 8 _ (RefOk.v 0 _ (RefOk.p 3 3 0 (RefOk.v 7 _ (RefOk.nil _)) (fun e => by cases e)))) (Sub.cons rfl (Sub.cons rfl (Sub.cons rfl (Sub.cons rfl (Sub.nil _))))) (Sub.cons rfl (Sub.nil _))
      refine AWP.seq' ?_
      refine AWP.rgnD (by kernel_rfl) (by kernel_rfl) (F98_r3 (upd (upd E0 8 (SV.val (Value.int .i64 x8))) 7 (SV.val (Value.int .i64 x7))) x0a x0n x0c x8 k3 hp _) ?_ (RefOk.v 0 _ (RefOk.p 3 3 0 (RefOk.v 5 _ (RefOk.v 7 _ (RefOk.v 8 _ (RefOk.nil _)))) (fun e => by cases e))) (Sub.cons rfl (Sub.cons rfl (Sub.cons rfl (Sub.cons rfl (Sub.cons rfl (Sub.nil _)))))) (Sub.cons rfl (Sub.nil _))
      refine ldL_mono h (fun l_1 h => ?_)
      refine ⟨h.1, h.2.1, ?_⟩
      replace h := h.2.2
      refine ptrN_mono h (fun b_2 o_3 h => ?_)
      refine ldL_mono h (fun l_4 h => ?_)
      refine eqAgg_mono h (fun q_5 h => ?_)
      refine AWP.cond (t := q_5) rfl (fun e => ?_) (fun e => ?_)
      · replace h := ite2_t h e
        refine AWP.seq' ?_
        refine AWP.rgn (F98_r4 E0 x8 hp _) ?_ (RefOk.v 5 _ (RefOk.nil _)) (Sub.cons rfl (Sub.nil _)) (Sub.nil _)
        refine AWP.ret ?_
        exact h
      · replace h := ite2_f h e
        refine AWP.skip ?_
        refine AWP.rgn (F98_r5 (upd (upd (upd E0 7 (SV.val (Value.int .i64 x7))) 3 (SV.priv 3 0)) 0 (SV.val (Value.slice x0a x0n x0c))) x8 k3 hp _) ?_ (RefOk.v 8 _ (RefOk.v 0 _ (RefOk.p 3 3 0 (RefOk.v 7 _ (RefOk.nil _)) (fun e => by cases e)))) (Sub.cons rfl (Sub.cons rfl (Sub.cons rfl (Sub.cons rfl (Sub.nil _))))) (Sub.cons rfl (Sub.nil _))
        exact ⟨(IntKind.wrap .i64 (x8 + 1)), (Sub.cons rfl (Sub.cons rfl (Sub.cons rfl (Sub.cons rfl (Sub.nil _))))), (Sub.cons rfl (Sub.nil _)), h⟩
    · replace h := ite2_f h e
      refine AWP.exit ?_
      refine AWP.seq' ?_
      refine AWP.rgn (F98_r6 E0  hp _) ?_ (RefOk.nil _) (Sub.nil _) (Sub.nil _)
      refine AWP.ret ?_
      exact h

-- 99 (*interpreter/pool.Pool).order
theorem F99_r0 (e : Env) (x1 : List Value) (hp : HP) (K : Env → PV → HP → Prop) : RW Try.prog 26 [3] (opsAt Try.f99 [0]) (List.range 2) (upd e 1 (SV.val (Value.agg ⟨x1⟩))) V0 hp K =
    (K (upd (upd (upd e 1 (SV.val (Value.agg ⟨x1⟩))) 3 (SV.priv 3 0)) 4 (SV.val (Value.slice none 0 0))) (upd V0 3 (73, x1)) hp) := by kernel_rfl
theorem F99_r1 (e : Env) (x0 : Option Addr) (k3 : List Value) (hp : HP) (K : Env → PV → HP → Prop) : RW Try.prog 26 [3] (opsAt Try.f99 [1, 0]) (List.range 6) (upd e 0 (SV.val (Value.pointer x0))) (upd V0 3 (73, k3)) hp K =
    (ptrN x0 fun b1 o2 => (ldV (HP.cell hp b1 (o2 + 0)) fun v3 => (slcV v3 fun a4 n5 c6 => (CF Try.prog 93 [(Value.slice a4 n5 c6)] hp fun u7 h8 => (slcV u7 fun a9 n10 c11 => (K (upd (upd (upd (upd (upd (upd (upd e 0 (SV.val (Value.pointer x0))) 7 (SV.val (Value.pointer x0))) 8 (SV.val (ptr b1 o2))) 9 (SV.val (ptr b1 (o2 + 0)))) 10 (SV.val (Value.slice a4 n5 c6))) 11 (SV.val (Value.slice a9 n10 c11))) 5 (SV.val (Value.slice a9 n10 c11))) (upd V0 3 (73, k3)) h8)))))) := by kernel_rfl
theorem F99_r2 (e : Env) (x5a : Option Addr) (x5n : Nat) (x5c : Nat) (hp : HP) (K : Env → PV → HP → Prop) : RW Try.prog 26 [3] (opsAt Try.f99 [1, 1, 1, 0]) (List.range 2) (upd e 5 (SV.val (Value.slice x5a x5n x5c))) V0 hp K =
    (K (upd (upd (upd e 5 (SV.val (Value.slice x5a x5n x5c))) 25 (SV.val (Value.slice x5a x5n x5c))) 4 (SV.val (Value.slice x5a x5n x5c))) V0 hp) := by kernel_rfl
def F99_j1 (x5a : Option Addr) (x5n : Nat) (x5c : Nat) (hp : HP) (K : Value → HP → Prop) : Prop :=
  (K (Value.slice x5a x5n x5c) hp)
theorem F99_r3 (e : Env) (x5a : Option Addr) (x5n : Nat) (x5c : Nat) (k3 : List Value) (hp : HP) (K : Env → PV → HP → Prop) : RW Try.prog 26 [3] (opsAt Try.f99 [1, 1, 0, 0]) (List.range 4) (upd (upd e 5 (SV.val (Value.slice x5a x5n x5c))) 3 (SV.priv 3 0)) (upd V0 3 (73, k3)) hp K =
    (ldL (cellsN k3 0 4) fun l1 => (CF Try.prog 98 [(Value.slice x5a x5n x5c), (Value.agg ⟨l1⟩)] hp fun u2 h3 => (intV u2 .i64 fun i4 => (K (upd (upd (upd (upd (upd (upd e 5 (SV.val (Value.slice x5a x5n x5c))) 3 (SV.priv 3 0)) 12 (SV.val (Value.slice x5a x5n x5c))) 13 (SV.val (Value.agg ⟨l1⟩))) 14 (SV.val (Value.int .i64 i4))) 6 (SV.val (Value.int .i64 i4))) (upd V0 3 (73, k3)) h3)))) := by kernel_rfl
theorem F99_r4 (e : Env) (x6 : Int) (k3 : List Value) (hp : HP) (K : Env → PV → HP → Prop) : RW Try.prog 26 [3] (opsAt Try.f99 [1, 1, 0, 1, 0]) (List.range 2) (upd e 6 (SV.val (Value.int .i64 x6))) (upd V0 3 (73, k3)) hp K =
    (K (upd (upd (upd e 6 (SV.val (Value.int .i64 x6))) 15 (SV.val (Value.int .i64 x6))) 16 (SV.val (Value.bool (decide ((x6 : Int) > 0))))) (upd V0 3 (73, k3)) hp) := by kernel_rfl
theorem F99_r5 (e : Env) (x5a : Option Addr) (x5n : Nat) (x5c : Nat) (x6 : Int) (k3 : List Value) (hp : HP) (K : Env → PV → HP → Prop) : RW Try.prog 26 [3] (opsAt Try.f99 [1, 1, 0, 1, 1, 0]) [0, 1, 2, 3, 4, 5, 6, 7, 8] (upd (upd (upd e 6 (SV.val (Value.int .i64 x6))) 5 (SV.val (Value.slice x5a x5n x5c))) 3 (SV.priv 3 0)) (upd V0 3 (73, k3)) hp K =
    (CF Try.prog 133 [(Value.slice x5a x5n x5c), (Value.int .i64 x6), (Value.int .i64 (IntKind.wrap .i64 (x6 + 1)))] hp fun u1 h2 => (slcV u1 fun a3 n4 c5 => (ldL (cellsN k3 0 4) fun l6 => (if List.length l6 = 4 then (∀ b7 : Nat, h2 b7 = .none → (CF Try.prog 132 [(Value.slice a3 n4 c5), (Value.int .i64 0), (Value.slice (some ⟨b7, 0, none⟩) 1 1)] (HP.set h2 b7 (.cells 73 (splice [(Value.int .u8 0), (Value.int .u8 0), (Value.int .u8 0), (Value.int .u8 0)] 0 l6) 0)) fun u8 h9 => (slcV u8 fun a10 n11 c12 => (K (upd (upd (upd (upd (upd (upd (upd (upd (upd (upd (upd (upd e 6 (SV.val (Value.int .i64 x6))) 5 (SV.val (Value.slice x5a x5n x5c))) 3 (SV.priv 3 0)) 17 (SV.val (Value.slice x5a x5n x5c))) 18 (SV.val (Value.int .i64 x6))) 19 (SV.val (Value.int .i64 x6))) 20 (SV.val (Value.int .i64 (IntKind.wrap .i64 (x6 + 1))))) 21 (SV.val (Value.slice a3 n4 c5))) 22 (SV.val (Value.agg ⟨l6⟩))) 23 (SV.val (Value.slice (some ⟨b7, 0, none⟩) 1 1))) 24 (SV.val (Value.slice a10 n11 c12))) 5 (SV.val (Value.slice a10 n11 c12))) (upd V0 3 (73, k3)) h9)))) else False)))) := by kernel_rfl
theorem F99_r6 (e : Env) (x5a : Option Addr) (x5n : Nat) (x5c : Nat) (x6 : Int) (k3 : List Value) (hp : HP) (K : Env → PV → HP → Prop) : RW Try.prog 26 [3] (opsAt Try.f99 [1, 1, 0, 1, 1, 0]) [0, 1, 2, 3, 5, 6, 4, 7, 8] (upd (upd (upd e 6 (SV.val (Value.int .i64 x6))) 5 (SV.val (Value.slice x5a x5n x5c))) 3 (SV.priv 3 0)) (upd V0 3 (73, k3)) hp K =
    (ldL (cellsN k3 0 4) fun l1 => (if List.length l1 = 4 then (∀ b2 : Nat, hp b2 = .none → (CF Try.prog 133 [(Value.slice x5a x5n x5c), (Value.int .i64 x6), (Value.int .i64 (IntKind.wrap .i64 (x6 + 1)))] (HP.set hp b2 (.cells 73 (splice [(Value.int .u8 0), (Value.int .u8 0), (Value.int .u8 0), (Value.int .u8 0)] 0 l1) 0)) fun u3 h4 => (slcV u3 fun a5 n6 c7 => (CF Try.prog 132 [(Value.slice a5 n6 c7), (Value.int .i64 0), (Value.slice (some ⟨b2, 0, none⟩) 1 1)] h4 fun u8 h9 => (slcV u8 fun a10 n11 c12 => (K (upd (upd (upd (upd (upd (upd (upd (upd (upd (upd (upd (upd e 6 (SV.val (Value.int .i64 x6))) 5 (SV.val (Value.slice x5a x5n x5c))) 3 (SV.priv 3 0)) 17 (SV.val (Value.slice x5a x5n x5c))) 18 (SV.val (Value.int .i64 x6))) 19 (SV.val (Value.int .i64 x6))) 20 (SV.val (Value.int .i64 (IntKind.wrap .i64 (x6 + 1))))) 22 (SV.val (Value.agg ⟨l1⟩))) 23 (SV.val (Value.slice (some ⟨b2, 0, none⟩) 1 1))) 21 (SV.val (Value.slice a5 n6 c7))) 24 (SV.val (Value.slice a10 n11 c12))) 5 (SV.val (Value.slice a10 n11 c12))) (upd V0 3 (73, k3)) h9)))))) else False)) := by kernel_rfl
def F99 (x0 : Option Addr) (x1 : List Value) (hp : HP) (K : Value → HP → Prop) : Prop :=
  (ptrN x0 fun b_1 o_2 => (ldV (HP.cell hp b_1 (o_2 + 0)) fun v_3 => (slcV v_3 fun a_4 n_5 c_6 => (CF Try.prog 93 [(Value.slice a_4 n_5 c_6)] hp fun u_7 h_8 => (slcV u_7 fun a_9 n_10 c_11 => (ldL (cellsN x1 0 4) fun l_12 => (CF Try.prog 98 [(Value.slice a_9 n_10 c_11), (Value.agg ⟨l_12⟩)] h_8 fun u_13 h_14 => (intV u_13 .i64 fun i_15 => (ite2 (decide ((i_15 : Int) > 0)) ((CF Try.prog 133 [(Value.slice a_9 n_10 c_11), (Value.int .i64 i_15), (Value.int .i64 (IntKind.wrap .i64 (i_15 + 1)))] h_14 fun u_16 h_17 => (slcV u_16 fun a_18 n_19 c_20 => (ldL (cellsN x1 0 4) fun l_21 => (if List.length l_21 = 4 then (∀ b_22 : Nat, h_17 b_22 = .none → (CF Try.prog 132 [(Value.slice a_18 n_19 c_20), (Value.int .i64 0), (Value.slice (some ⟨b_22, 0, none⟩) 1 1)] (HP.set h_17 b_22 (.cells 73 (splice [(Value.int .u8 0), (Value.int .u8 0), (Value.int .u8 0), (Value.int .u8 0)] 0 l_21) 0)) fun u_23 h_24 => (slcV u_23 fun a_25 n_26 c_27 => (F99_j1 a_25 n_26 c_27 h_24  K)))) else False)))) ∧ (ldL (cellsN x1 0 4) fun l_28 => (if List.length l_28 = 4 then (∀ b_29 : Nat, h_14 b_29 = .none → (CF Try.prog 133 [(Value.slice a_9 n_10 c_11), (Value.int .i64 i_15), (Value.int .i64 (IntKind.wrap .i64 (i_15 + 1)))] (HP.set h_14 b_29 (.cells 73 (splice [(Value.int .u8 0), (Value.int .u8 0), (Value.int .u8 0), (Value.int .u8 0)] 0 l_28) 0)) fun u_30 h_31 => (slcV u_30 fun a_32 n_33 c_34 => (CF Try.prog 132 [(Value.slice a_32 n_33 c_34), (Value.int .i64 0), (Value.slice (some ⟨b_29, 0, none⟩) 1 1)] h_31 fun u_35 h_36 => (slcV u_35 fun a_37 n_38 c_39 => (F99_j1 a_37 n_38 c_39 h_36  K)))))) else False))) (F99_j1 a_9 n_10 c_11 h_14  K))))))))))
noncomputable def F99_code : Code := (.seq (.region 0 (opsAt Try.f99 [0]) false) (.seq (.region 1 (opsAt Try.f99 [1, 0]) false) (.seq (.seq (.region 2 (opsAt Try.f99 [1, 1, 0, 0]) false) (.seq (.region 3 (opsAt Try.f99 [1, 1, 0, 1, 0]) false) (.cond (.tmp 16) (.region 4 (opsAt Try.f99 [1, 1, 0, 1, 1, 0]) true) .skip))) (.seq (.region 5 (opsAt Try.f99 [1, 1, 1, 0]) false) .ret))))
theorem F99_body : Try.f99.body = some F99_code := by kernel_rfl
theorem F99_ok (x0 : Option Addr) (x1 : List Value) (hp : HP) (K : Value → HP → Prop) (h : F99 x0 x1 hp K) : CF Try.prog 99 [(Value.pointer x0), (Value.agg ⟨x1⟩)] hp K := by
  refine ⟨by kernel_rfl, AC.intro (N := 26) Try.func99 F99_body rfl (Nat.le_of_ble_eq_true rfl) ?_⟩
  unfold F99 at h
  unfold F99_code
  refine AWP.seq' ?_
  refine AWP.rgn (F99_r0 (upd E0 0 (SV.val (Value.pointer x0))) x1 hp _) ?_ (RefOk.v 1 _ (RefOk.v 0 _ (RefOk.nil _))) (Sub.cons rfl (Sub.cons rfl (Sub.nil _))) (Sub.nil _)
  refine AWP.seq' ?_
  refine AWP.rgn (F99_r1 (upd E0 3 (SV.priv 3 0)) x0 x1 hp _) ?_ (RefOk.v 0 _ (RefOk.p 3 3 0 (RefOk.nil _) (fun e => by cases e))) (Sub.cons rfl (Sub.cons rfl (Sub.nil _))) (Sub.cons rfl (Sub.nil _))
  refine ptrN_mono h (fun b_1 o_2 h => ?_)
  refine ldV_mono h (fun v_3 h => ?_)
  refine slcV_mono h (fun a_4 n_5 c_6 h => ?_)
  refine CF_mono h (fun u_7 h_8 h => ?_)
  refine slcV_mono h (fun a_9 n_10 c_11 h => ?_)
  refine AWP.seq (fun env pv hp => ∃ (x5a : Option Addr) (x5n : Nat) (x5c : Nat), Sub (upd E0 5 (SV.val (Value.slice x5a x5n x5c))) env ∧ Sub V0 pv ∧ (F99_j1 x5a x5n x5c hp  K)) ?_ ?_
  · refine AWP.seq' ?_
    refine AWP.rgn (F99_r3 E0 a_9 n_10 c_11 x1 h_8 _) ?_ (RefOk.p 3 3 0 (RefOk.v 5 _ (RefOk.nil _)) (fun e => by cases e)) (Sub.cons rfl (Sub.cons rfl (Sub.nil _))) (Sub.cons rfl (Sub.nil _))
    refine ldL_mono h (fun l_12 h => ?_)
    refine CF_mono h (fun u_13 h_14 h => ?_)
    refine intV_mono h (fun i_15 h => ?_)
    refine AWP.seq' ?_
    refine AWP.rgn (F99_r4 (upd (upd E0 5 (SV.val (Value.slice a_9 n_10 c_11))) 3 (SV.priv 3 0)) i_15 x1 h_14 _) ?_ (RefOk.v 6 _ (RefOk.p 3 3 0 (RefOk.v 5 _ (RefOk.nil _)) (fun e => by cases e))) (Sub.cons rfl (Sub.cons rfl (Sub.cons rfl (Sub.nil _)))) (Sub.cons rfl (Sub.nil _))
    refine AWP.cond (t := (decide ((i_15 : Int) > 0))) rfl (fun e => ?_) (fun e => ?_)
    · replace h := ite2_t h e
      refine AWP.rgnC (cf := [(4, 6)]) (c := [([true], true, [0, 1, 2, 3, 4, 5, 6, 7, 8]), ([false], true, [0, 1, 2, 3, 5, 6, 4, 7, 8])]) (by kernel_rfl) (by kernel_rfl) (by kernel_rfl) (by kernel_rfl) (allO_t (Eq.mpr (F99_r5 E0 a_9 n_10 c_11 i_15 x1 h_14 _) ?_) (allO_t (Eq.mpr (F99_r6 E0 a_9 n_10 c_11 i_15 x1 h_14 _) ?_) trivial)) (RefOk.p 3 3 0 (RefOk.v 5 _ (RefOk.v 6 _ (RefOk.nil _))) (fun e => by cases e)) (Sub.cons rfl (Sub.cons rfl (Sub.cons rfl (Sub.nil _)))) (Sub.cons rfl (Sub.nil _))
      · replace h := h.1
        refine CF_mono h (fun u_16 h_17 h => ?_)
        refine slcV_mono h (fun a_18 n_19 c_20 h => ?_)
        refine ldL_mono h (fun l_21 h => ?_)
        refine if_mono h (fun h => ?_)
        refine fun b_22 hb_b_22 => ?_
        replace h := h b_22 hb_b_22
        refine CF_mono h (fun u_23 h_24 h => ?_)
        refine slcV_mono h (fun a_25 n_26 c_27 h => ?_)
        exact ⟨a_25, n_26, c_27, (Sub.cons rfl (Sub.nil _)), (Sub.nil _), h⟩
      · replace h := h.2
        refine ldL_mono h (fun l_28 h => ?_)
        refine if_mono h (fun h => ?_)
        refine fun b_29 hb_b_29 => ?_
        replace h := h b_29 hb_b_29
        refine CF_mono h (fun u_30 h_31 h => ?_)
        refine slcV_mono h (fun a_32 n_33 c_34 h => ?_)
        refine CF_mono h (fun u_35 h_36 h => ?_)
        refine slcV_mono h (fun a_37 n_38 c_39 h => ?_)
        exact ⟨a_37, n_38, c_39, (Sub.cons rfl (Sub.nil _)), (Sub.nil _), h⟩
    · replace h := ite2_f h e
      refine AWP.skip ?_
      exact ⟨a_9, n_10, c_11, (Sub.cons rfl (Sub.nil _)), (Sub.nil _), h⟩
  · rintro env pv hp ⟨x5a, x5n, x5c, he, hv, h⟩
    refine AWP.sub (env' := (upd E0 5 (SV.val (Value.slice x5a x5n x5c)))) (pv' := V0) ?_ (RefOk.v 5 _ (RefOk.nil _)) he hv (HSub.refl _)
    clear he hv
    unfold F99_j1 at h
    refine AWP.seq' ?_
    refine AWP.rgn (F99_r2 E0 x5a x5n x5c hp _) ?_ (RefOk.v 5 _ (RefOk.nil _)) (Sub.cons rfl (Sub.nil _)) (Sub.nil _)
    refine AWP.ret ?_
    exact h

end Go.Proofs
