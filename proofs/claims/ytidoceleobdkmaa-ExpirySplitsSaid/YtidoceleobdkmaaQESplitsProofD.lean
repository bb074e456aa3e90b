/- Parts of the proof of ESplitsProof: the logic of what is known of memory, functions' contracts. -/
import Derived.Test.YtidoceleobdkmaaQESplitsProofC
import Derived.Test.YtidoceleobdkmaaHlAbb
import Derived.Test.YtidoceleobdkmaaProg
import Derived.Test.YtidoceleobdkmaaHlLib
import Derived.Test.YtidoceleobdkmaaHlArg
import Derived.DataShut
set_option linter.unusedVariables false
set_option maxRecDepth 20000
namespace Go.Proofs
open Go Go.HL
-- 5 interpreter/interpreterlaw20.ExpirySplits
theorem F5_r0 (e : Env) (hp : HP) (K : Env → PV → HP → Prop) : RW Try.prog 94 [] (opsAt Try.f5 [0]) (List.range 1) e V0 hp K =
    (K (upd e 6 (sB (false))) V0 hp) := by kernel_rfl
theorem F5_r1 (e : Env) (hp : HP) (K : Env → PV → HP → Prop) : RW Try.prog 94 [] (opsAt Try.f5 [1, 0, 1, 0, 0]) (List.range 2) e V0 hp K =
    (CF Try.prog 28 [] hp fun u1 h2 => (boolV u1 fun q3 => (K (upd (upd e 21 (sB (q3))) 6 (sB (q3))) V0 h2))) := by kernel_rfl
theorem F5_r2 (e : Env) (hp : HP) (K : Env → PV → HP → Prop) : RW Try.prog 94 [] (opsAt Try.f5 [1, 1, 0]) (List.range 2) e V0 hp K =
    (CF Try.prog 29 [] hp fun u1 h2 => (ptrV u1 fun p3 => (K (upd (upd e 22 (sV (Value.pointer p3))) 7 (sV (Value.pointer p3))) V0 h2))) := by kernel_rfl
theorem F5_r3 (e : Env) (hp : HP) (K : Env → PV → HP → Prop) : RW Try.prog 94 [] (opsAt Try.f5 [1, 1, 1, 0]) (List.range 2) e V0 hp K =
    (CF Try.prog 29 [] hp fun u1 h2 => (ptrV u1 fun p3 => (K (upd (upd e 23 (sV (Value.pointer p3))) 8 (sV (Value.pointer p3))) V0 h2))) := by kernel_rfl
theorem F5_r4 (e : Env) (hp : HP) (K : Env → PV → HP → Prop) : RW Try.prog 94 [] (opsAt Try.f5 [1, 1, 1, 1, 1, 0]) (List.range 1) e V0 hp K =
    (K (upd e 10 (sV (Value.slice none 0 0))) V0 hp) := by kernel_rfl
theorem F5_r5 (e : Env) (hp : HP) (K : Env → PV → HP → Prop) : RW Try.prog 94 [] (opsAt Try.f5 [1, 1, 1, 1, 1, 1, 0]) (List.range 1) e V0 hp K =
    (K (upd e 11 (sI ((-1)))) V0 hp) := by kernel_rfl
theorem F5_r6 (e : Env) (x2 : Int) (x7 : Option Addr) (x10a : Option Addr) (x10n : Nat) (x10c : Nat) (hp : HP) (K : Env → PV → HP → Prop) : RW Try.prog 94 [] (opsAt Try.f5 [1, 1, 1, 1, 1, 1, 1, 1, 0]) (List.range 6) (upd (upd (upd e 10 (sV (Value.slice x10a x10n x10c))) 7 (sV (Value.pointer x7))) 2 (sI (x2))) V0 hp K =
    (CF Try.prog 31 [(Value.pointer x7), (Value.int .i64 x2)] hp fun u1 h2 => (slcV u1 fun a3 n4 c5 => (opS Try.prog (Builtin.append_ #[24, 24] 24 ⟨[(Value.slice x10a x10n x10c), (Value.slice a3 n4 c5)]⟩) h2 fun u6 h7 => (slcV u6 fun a8 n9 c10 => (K (upd (upd (upd (upd (upd (upd (upd (upd (upd e 10 (sV (Value.slice x10a x10n x10c))) 7 (sV (Value.pointer x7))) 2 (sI (x2))) 74 (sV (Value.slice x10a x10n x10c))) 75 (sV (Value.pointer x7))) 76 (sI (x2))) 77 (sV (Value.slice a3 n4 c5))) 78 (sV (Value.slice a8 n9 c10))) 10 (sV (Value.slice a8 n9 c10))) V0 h7))))) := by kernel_rfl
theorem F5_r7 (e : Env) (x2 : Int) (x7 : Option Addr) (x8 : Option Addr) (x10a : Option Addr) (x10n : Nat) (x10c : Nat) (hp : HP) (K : Env → PV → HP → Prop) : RW Try.prog 94 [] (opsAt Try.f5 [1, 1, 1, 1, 1, 1, 1, 1, 1, 0]) (List.range 16) (upd (upd (upd (upd e 10 (sV (Value.slice x10a x10n x10c))) 8 (sV (Value.pointer x8))) 7 (sV (Value.pointer x7))) 2 (sI (x2))) V0 hp K =
    (CF Try.prog 31 [(Value.pointer x8), (Value.int .i64 x2)] hp fun u1 h2 => (slcV u1 fun a3 n4 c5 => (CF Try.prog 32 [(Value.slice x10a x10n x10c), (Value.slice a3 n4 c5)] h2 fun u6 h7 => (boolV u6 fun q8 => (ite2 q8 (CF Try.prog 33 [(Value.pointer x7)] h7 fun u9 h10 => (slcV u9 fun a11 n12 c13 => (CF Try.prog 33 [(Value.pointer x8)] h10 fun u14 h15 => (slcV u14 fun a16 n17 c18 => (CF Try.prog 32 [(Value.slice a11 n12 c13), (Value.slice a16 n17 c18)] h15 fun u19 h20 => (boolV u19 fun q21 => (ite2 q21 (CF Try.prog 28 [] h20 fun u22 h23 => (boolV u22 fun q24 => (K (upd (upd (upd (upd (upd (upd (upd (upd (upd (upd (upd (upd (upd (upd (upd (upd (upd (upd (upd (upd e 10 (sV (Value.slice x10a x10n x10c))) 8 (sV (Value.pointer x8))) 7 (sV (Value.pointer x7))) 2 (sI (x2))) 79 (sV (Value.slice x10a x10n x10c))) 80 (sV (Value.pointer x8))) 81 (sI (x2))) 82 (sV (Value.slice a3 n4 c5))) 83 (sB (q8))) 84 (sB (true))) 85 (sV (Value.pointer x7))) 86 (sV (Value.slice a11 n12 c13))) 87 (sV (Value.pointer x8))) 88 (sV (Value.slice a16 n17 c18))) 89 (sB (q21))) 90 (sB (q21))) 91 (sB (true))) 92 (sB (q24))) 93 (sB (q24))) 6 (sB (q24))) V0 h23))) (K (upd (upd (upd (upd (upd (upd (upd (upd (upd (upd (upd (upd (upd (upd (upd (upd (upd (upd (upd (upd e 10 (sV (Value.slice x10a x10n x10c))) 8 (sV (Value.pointer x8))) 7 (sV (Value.pointer x7))) 2 (sI (x2))) 79 (sV (Value.slice x10a x10n x10c))) 80 (sV (Value.pointer x8))) 81 (sI (x2))) 82 (sV (Value.slice a3 n4 c5))) 83 (sB (q8))) 84 (sB (true))) 85 (sV (Value.pointer x7))) 86 (sV (Value.slice a11 n12 c13))) 87 (sV (Value.pointer x8))) 88 (sV (Value.slice a16 n17 c18))) 89 (sB (q21))) 90 (sB (q21))) 91 (sB (false))) 92 (sV undef)) 93 (sB (false))) 6 (sB (false))) V0 h20)))))))) (K (upd (upd (upd (upd (upd (upd (upd (upd (upd (upd (upd (upd (upd (upd (upd (upd (upd (upd (upd (upd e 10 (sV (Value.slice x10a x10n x10c))) 8 (sV (Value.pointer x8))) 7 (sV (Value.pointer x7))) 2 (sI (x2))) 79 (sV (Value.slice x10a x10n x10c))) 80 (sV (Value.pointer x8))) 81 (sI (x2))) 82 (sV (Value.slice a3 n4 c5))) 83 (sB (q8))) 84 (sB (false))) 85 (sV undef)) 86 (sV undef)) 87 (sV undef)) 88 (sV undef)) 89 (sV undef)) 90 (sB (false))) 91 (sB (false))) 92 (sV undef)) 93 (sB (false))) 6 (sB (false))) V0 h7)))))) := by kernel_rfl
def F5_j3 (x2 : Int) (x7 : Option Addr) (x8 : Option Addr) (x10a : Option Addr) (x10n : Nat) (x10c : Nat) (hp : HP) (K : Value → HP → Prop) : Prop :=
  (CF Try.prog 31 [(Value.pointer x7), (Value.int .i64 x2)] hp fun u_10 h_11 => (slcV u_10 fun a_12 n_13 c_14 => (opS Try.prog (Builtin.append_ #[24, 24] 24 ⟨[(Value.slice x10a x10n x10c), (Value.slice a_12 n_13 c_14)]⟩) h_11 fun u_15 h_16 => (slcV u_15 fun a_17 n_18 c_19 => (CF Try.prog 31 [(Value.pointer x8), (Value.int .i64 x2)] h_16 fun u_20 h_21 => (slcV u_20 fun a_22 n_23 c_24 => (CF Try.prog 32 [(Value.slice a_17 n_18 c_19), (Value.slice a_22 n_23 c_24)] h_21 fun u_25 h_26 => (boolV u_25 fun q_27 => (ite2 q_27 (CF Try.prog 33 [(Value.pointer x7)] h_26 fun u_28 h_29 => (slcV u_28 fun a_30 n_31 c_32 => (CF Try.prog 33 [(Value.pointer x8)] h_29 fun u_33 h_34 => (slcV u_33 fun a_35 n_36 c_37 => (CF Try.prog 32 [(Value.slice a_30 n_31 c_32), (Value.slice a_35 n_36 c_37)] h_34 fun u_38 h_39 => (boolV u_38 fun q_40 => (ite2 q_40 (CF Try.prog 28 [] h_39 fun u_41 h_42 => (boolV u_41 fun q_43 => (K (Value.bool q_43) h_42))) (K (Value.bool false) h_39)))))))) (K (Value.bool false) h_26))))))))))
theorem F5_r8 (e : Env) (x1a : Option Addr) (x1n : Nat) (x1c : Nat) (x12 : Int) (hp : HP) (K : Env → PV → HP → Prop) : RW Try.prog 94 [] (opsAt Try.f5 [1, 1, 1, 1, 1, 1, 1, 0, 1, 0, 0, 0, 0]) (List.range 4) (upd (upd e 12 (sI (x12))) 1 (sV (Value.slice x1a x1n x1c))) V0 hp K =
    (K (upd (upd (upd (upd (upd (upd e 12 (sI (x12))) 1 (sV (Value.slice x1a x1n x1c))) 45 (sI (x12))) 46 (sV (Value.slice x1a x1n x1c))) 47 (sI ((x1n : Nat)))) 48 (sB ((decide ((x12 : Int) < (x1n : Nat)))))) V0 hp) := by kernel_rfl
theorem F5_r9 (e : Env) (x12 : Int) (hp : HP) (K : Env → PV → HP → Prop) : RW Try.prog 94 [] (opsAt Try.f5 [1, 1, 1, 1, 1, 1, 1, 0, 1, 0, 0, 1, 1]) (List.range 3) (upd e 12 (sI (x12))) V0 hp K =
    (K (upd (upd (upd (upd e 12 (sI (x12))) 49 (sI (x12))) 50 (sI ((IntKind.wrap .i64 (x12 + 1))))) 12 (sI ((IntKind.wrap .i64 (x12 + 1))))) V0 hp) := by kernel_rfl
def F5_j6 (x1a : Option Addr) (x1n : Nat) (x1c : Nat) (x2 : Int) (x7 : Option Addr) (x8 : Option Addr) (x10a : Option Addr) (x10n : Nat) (x10c : Nat) (x11 : Int) (x12 : Int) (hp : HP) (I5 : ((Option Addr) × Nat × Nat × Int × Int) → HP → Prop) (K : Value → HP → Prop) : Prop :=
  (I5 (x10a, x10n, x10c, x11, (IntKind.wrap .i64 (x12 + 1))) hp)
theorem F5_r10 (e : Env) (x1a : Option Addr) (x1n : Nat) (x1c : Nat) (x12 : Int) (hp : HP) (K : Env → PV → HP → Prop) : RW Try.prog 94 [] (opsAt Try.f5 [1, 1, 1, 1, 1, 1, 1, 0, 1, 0, 0, 1, 0, 0, 1, 0, 0]) (List.range 5) (upd (upd e 12 (sI (x12))) 1 (sV (Value.slice x1a x1n x1c))) V0 hp K =
    ((0 ≤ (x12 : Int)) ∧ ((x12 : Int) < (x1n : Nat)) ∧ (ptrN x1a fun b1 o2 => (ldV (HP.cell hp b1 (o2 + Int.toNat x12 * 1)) fun v3 => (intV v3 .i64 fun i4 => (K (upd (upd (upd (upd (upd (upd (upd e 12 (sI (x12))) 1 (sV (Value.slice x1a x1n x1c))) 65 (sV (Value.slice x1a x1n x1c))) 66 (sI (x12))) 67 (sV (ptr b1 (o2 + Int.toNat x12 * 1)))) 68 (sI (i4))) 11 (sI (i4))) V0 hp))))) := by kernel_rfl
theorem F5_r11 (e : Env) (x7 : Option Addr) (x10a : Option Addr) (x10n : Nat) (x10c : Nat) (x11 : Int) (hp : HP) (K : Env → PV → HP → Prop) : RW Try.prog 94 [] (opsAt Try.f5 [1, 1, 1, 1, 1, 1, 1, 0, 1, 0, 0, 1, 0, 0, 1, 0, 1]) (List.range 6) (upd (upd (upd e 11 (sI (x11))) 10 (sV (Value.slice x10a x10n x10c))) 7 (sV (Value.pointer x7))) V0 hp K =
    (CF Try.prog 31 [(Value.pointer x7), (Value.int .i64 x11)] hp fun u1 h2 => (slcV u1 fun a3 n4 c5 => (opS Try.prog (Builtin.append_ #[24, 24] 24 ⟨[(Value.slice x10a x10n x10c), (Value.slice a3 n4 c5)]⟩) h2 fun u6 h7 => (slcV u6 fun a8 n9 c10 => (K (upd (upd (upd (upd (upd (upd (upd (upd (upd e 11 (sI (x11))) 10 (sV (Value.slice x10a x10n x10c))) 7 (sV (Value.pointer x7))) 69 (sV (Value.slice x10a x10n x10c))) 70 (sV (Value.pointer x7))) 71 (sI (x11))) 72 (sV (Value.slice a3 n4 c5))) 73 (sV (Value.slice a8 n9 c10))) 10 (sV (Value.slice a8 n9 c10))) V0 h7))))) := by kernel_rfl
def F5_j7 (x1a : Option Addr) (x1n : Nat) (x1c : Nat) (x2 : Int) (x7 : Option Addr) (x8 : Option Addr) (x10a : Option Addr) (x10n : Nat) (x10c : Nat) (x11 : Int) (x12 : Int) (x64 : Bool) (hp : HP) (I5 : ((Option Addr) × Nat × Nat × Int × Int) → HP → Prop) (K : Value → HP → Prop) : Prop :=
  (ite2 x64 ((0 ≤ (x12 : Int)) ∧ ((x12 : Int) < (x1n : Nat)) ∧ (ptrN x1a fun b_44 o_45 => (ldV (HP.cell hp b_44 (o_45 + Int.toNat x12 * 1)) fun v_46 => (intV v_46 .i64 fun i_47 => (CF Try.prog 31 [(Value.pointer x7), (Value.int .i64 i_47)] hp fun u_48 h_49 => (slcV u_48 fun a_50 n_51 c_52 => (opS Try.prog (Builtin.append_ #[24, 24] 24 ⟨[(Value.slice x10a x10n x10c), (Value.slice a_50 n_51 c_52)]⟩) h_49 fun u_53 h_54 => (slcV u_53 fun a_55 n_56 c_57 => (F5_j6 x1a x1n x1c x2 x7 x8 a_55 n_56 c_57 i_47 x12 h_54 I5 K))))))))) (F5_j6 x1a x1n x1c x2 x7 x8 x10a x10n x10c x11 x12 hp I5 K))
theorem F5_r12 (e : Env) (x1a : Option Addr) (x1n : Nat) (x1c : Nat) (x2 : Int) (x11 : Int) (x12 : Int) (hp : HP) (K : Env → PV → HP → Prop) : RW Try.prog 94 [] (opsAt Try.f5 [1, 1, 1, 1, 1, 1, 1, 0, 1, 0, 0, 1, 0, 0, 0]) (List.range 14) (upd (upd (upd (upd e 12 (sI (x12))) 11 (sI (x11))) 2 (sI (x2))) 1 (sV (Value.slice x1a x1n x1c))) V0 hp K =
    ((0 ≤ (x12 : Int)) ∧ ((x12 : Int) < (x1n : Nat)) ∧ (ptrN x1a fun b1 o2 => (ldV (HP.cell hp b1 (o2 + Int.toNat x12 * 1)) fun v3 => (intV v3 .i64 fun i4 => (ite2 (decide ((i4 : Int) > x11)) ((0 ≤ (x12 : Int)) ∧ ((x12 : Int) < (x1n : Nat)) ∧ (ptrN x1a fun b5 o6 => (ldV (HP.cell hp b5 (o6 + Int.toNat x12 * 1)) fun v7 => (intV v7 .i64 fun i8 => (K (upd (upd (upd (upd (upd (upd (upd (upd (upd (upd (upd (upd (upd (upd (upd (upd (upd (upd e 12 (sI (x12))) 11 (sI (x11))) 2 (sI (x2))) 1 (sV (Value.slice x1a x1n x1c))) 51 (sV (Value.slice x1a x1n x1c))) 52 (sI (x12))) 53 (sV (ptr b1 (o2 + Int.toNat x12 * 1)))) 54 (sI (i4))) 55 (sI (x11))) 56 (sB ((decide ((i4 : Int) > x11))))) 57 (sB (true))) 58 (sV (Value.slice x1a x1n x1c))) 59 (sI (x12))) 60 (sV (ptr b5 (o6 + Int.toNat x12 * 1)))) 61 (sI (i8))) 62 (sI (x2))) 63 (sB ((decide ((i8 : Int) ≤ x2))))) 64 (sB ((decide ((i8 : Int) ≤ x2))))) V0 hp))))) (K (upd (upd (upd (upd (upd (upd (upd (upd (upd (upd (upd (upd (upd (upd (upd (upd (upd (upd e 12 (sI (x12))) 11 (sI (x11))) 2 (sI (x2))) 1 (sV (Value.slice x1a x1n x1c))) 51 (sV (Value.slice x1a x1n x1c))) 52 (sI (x12))) 53 (sV (ptr b1 (o2 + Int.toNat x12 * 1)))) 54 (sI (i4))) 55 (sI (x11))) 56 (sB ((decide ((i4 : Int) > x11))))) 57 (sB (false))) 58 (sV undef)) 59 (sV undef)) 60 (sV undef)) 61 (sV undef)) 62 (sV undef)) 63 (sV undef)) 64 (sB (false))) V0 hp)))))) := by kernel_rfl
def F5_l5 (x1a : Option Addr) (x1n : Nat) (x1c : Nat) (x2 : Int) (x7 : Option Addr) (x8 : Option Addr) (K : Value → HP → Prop) (I5 : ((Option Addr) × Nat × Nat × Int × Int) → HP → Prop) (x10a : Option Addr) (x10n : Nat) (x10c : Nat) (x11 : Int) (x12 : Int) (hp : HP) : Prop :=
  (ite2 (decide ((x12 : Int) < (x1n : Nat))) ((0 ≤ (x12 : Int)) ∧ ((x12 : Int) < (x1n : Nat)) ∧ (ptrN x1a fun b_58 o_59 => (ldV (HP.cell hp b_58 (o_59 + Int.toNat x12 * 1)) fun v_60 => (intV v_60 .i64 fun i_61 => (ite2 (decide ((i_61 : Int) > x11)) ((0 ≤ (x12 : Int)) ∧ ((x12 : Int) < (x1n : Nat)) ∧ (ptrN x1a fun b_62 o_63 => (ldV (HP.cell hp b_62 (o_63 + Int.toNat x12 * 1)) fun v_64 => (intV v_64 .i64 fun i_65 => (F5_j7 x1a x1n x1c x2 x7 x8 x10a x10n x10c x11 x12 (decide ((i_65 : Int) ≤ x2)) hp I5 K))))) (F5_j7 x1a x1n x1c x2 x7 x8 x10a x10n x10c x11 x12 false hp I5 K)))))) (F5_j3 x2 x7 x8 x10a x10n x10c hp  K))
def F5_j4 (x1a : Option Addr) (x1n : Nat) (x1c : Nat) (x2 : Int) (x7 : Option Addr) (x8 : Option Addr) (x10a : Option Addr) (x10n : Nat) (x10c : Nat) (x11 : Int) (x12 : Int) (hp : HP) (K : Value → HP → Prop) : Prop :=
  (LoopP (σ := (Option Addr) × Nat × Nat × Int × Int) (fun I s hp => F5_l5 x1a x1n x1c x2 x7 x8  K I s.1 s.2.1 s.2.2.1 s.2.2.2.1 s.2.2.2.2 hp) (x10a, x10n, x10c, x11, x12) hp)
theorem F5_r13 (e : Env) (hp : HP) (K : Env → PV → HP → Prop) : RW Try.prog 94 [] (opsAt Try.f5 [1, 1, 1, 1, 1, 1, 1, 0, 0]) (List.range 1) e V0 hp K =
    (K (upd e 12 (sI (0))) V0 hp) := by kernel_rfl
def F5_j2 (x1a : Option Addr) (x1n : Nat) (x1c : Nat) (x2 : Int) (x7 : Option Addr) (x8 : Option Addr) (hp : HP) (K : Value → HP → Prop) : Prop :=
  (F5_j4 x1a x1n x1c x2 x7 x8 none 0 0 (-1) 0 hp  K)
theorem F5_r14 (e : Env) (x0a : Option Addr) (x0n : Nat) (x0c : Nat) (x9 : Int) (hp : HP) (K : Env → PV → HP → Prop) : RW Try.prog 94 [] (opsAt Try.f5 [1, 1, 1, 1, 0, 1, 0, 0, 0, 0]) (List.range 4) (upd (upd e 9 (sI (x9))) 0 (sV (Value.slice x0a x0n x0c))) V0 hp K =
    (K (upd (upd (upd (upd (upd (upd e 9 (sI (x9))) 0 (sV (Value.slice x0a x0n x0c))) 24 (sI (x9))) 25 (sV (Value.slice x0a x0n x0c))) 26 (sI ((x0n : Nat)))) 27 (sB ((decide ((x9 : Int) < (x0n : Nat)))))) V0 hp) := by kernel_rfl
theorem F5_r15 (e : Env) (hp : HP) (K : Env → PV → HP → Prop) : RW Try.prog 94 [] (opsAt Try.f5 [1, 1, 1, 1, 0, 1, 0, 0, 1, 0, 0, 1, 0, 0]) (List.range 1) e V0 hp K =
    (K (upd e 6 (sB (false))) V0 hp) := by kernel_rfl
theorem F5_r16 (e : Env) (x9 : Int) (hp : HP) (K : Env → PV → HP → Prop) : RW Try.prog 94 [] (opsAt Try.f5 [1, 1, 1, 1, 0, 1, 0, 0, 1, 1]) (List.range 3) (upd e 9 (sI (x9))) V0 hp K =
    (K (upd (upd (upd (upd e 9 (sI (x9))) 28 (sI (x9))) 29 (sI ((IntKind.wrap .i64 (x9 + 1))))) 9 (sI ((IntKind.wrap .i64 (x9 + 1))))) V0 hp) := by kernel_rfl
def F5_j10 (x0a : Option Addr) (x0n : Nat) (x0c : Nat) (x1a : Option Addr) (x1n : Nat) (x1c : Nat) (x2 : Int) (x7 : Option Addr) (x8 : Option Addr) (x9 : Int) (x44 : Bool) (hp : HP) (I9 : (Int) → HP → Prop) (K : Value → HP → Prop) : Prop :=
  (ite2 x44 (K (Value.bool false) hp) (I9 (IntKind.wrap .i64 (x9 + 1)) hp))
theorem F5_r17 (e : Env) (x0a : Option Addr) (x0n : Nat) (x0c : Nat) (x7 : Option Addr) (x8 : Option Addr) (x9 : Int) (hp : HP) (K : Env → PV → HP → Prop) : RW Try.prog 94 [] (opsAt Try.f5 [1, 1, 1, 1, 0, 1, 0, 0, 1, 0, 0, 0]) [0, 1, 2, 3, 4, 5, 6, 7, 8, 9, 10, 11, 12, 13, 14] (upd (upd (upd (upd e 9 (sI (x9))) 8 (sV (Value.pointer x8))) 7 (sV (Value.pointer x7))) 0 (sV (Value.slice x0a x0n x0c))) V0 hp K =
    ((0 ≤ (x9 : Int)) ∧ ((x9 : Int) < (x0n : Nat)) ∧ (ptrN x0a fun b1 o2 => (ldV (HP.cell hp b1 (o2 + Int.toNat x9 * 1)) fun v3 => (intV v3 .i64 fun i4 => (CF Try.prog 30 [(Value.pointer x7), (Value.int .i64 x9), (Value.int .i64 i4)] hp fun u5 h6 => (intV u5 .i64 fun i7 => ((0 ≤ (x9 : Int)) ∧ ((x9 : Int) < (x0n : Nat)) ∧ (ptrN x0a fun b8 o9 => (ldV (HP.cell h6 b8 (o9 + Int.toNat x9 * 1)) fun v10 => (intV v10 .i64 fun i11 => (CF Try.prog 30 [(Value.pointer x8), (Value.int .i64 x9), (Value.int .i64 i11)] h6 fun u12 h13 => (intV u12 .i64 fun i14 => (K (upd (upd (upd (upd (upd (upd (upd (upd (upd (upd (upd (upd (upd (upd (upd (upd (upd (upd (upd e 9 (sI (x9))) 8 (sV (Value.pointer x8))) 7 (sV (Value.pointer x7))) 0 (sV (Value.slice x0a x0n x0c))) 30 (sV (Value.pointer x7))) 31 (sI (x9))) 32 (sV (Value.slice x0a x0n x0c))) 33 (sI (x9))) 34 (sV (ptr b1 (o2 + Int.toNat x9 * 1)))) 35 (sI (i4))) 36 (sI (i7))) 37 (sV (Value.pointer x8))) 38 (sI (x9))) 39 (sV (Value.slice x0a x0n x0c))) 40 (sI (x9))) 41 (sV (ptr b8 (o9 + Int.toNat x9 * 1)))) 42 (sI (i11))) 43 (sI (i14))) 44 (sB (((i7 : Int) != i14)))) V0 h13))))))))))))) := by kernel_rfl
theorem F5_r18 (e : Env) (x0a : Option Addr) (x0n : Nat) (x0c : Nat) (x7 : Option Addr) (x8 : Option Addr) (x9 : Int) (hp : HP) (K : Env → PV → HP → Prop) : RW Try.prog 94 [] (opsAt Try.f5 [1, 1, 1, 1, 0, 1, 0, 0, 1, 0, 0, 0]) [0, 1, 2, 3, 4, 5, 7, 8, 9, 10, 11, 12, 6, 13, 14] (upd (upd (upd (upd e 9 (sI (x9))) 8 (sV (Value.pointer x8))) 7 (sV (Value.pointer x7))) 0 (sV (Value.slice x0a x0n x0c))) V0 hp K =
    ((0 ≤ (x9 : Int)) ∧ ((x9 : Int) < (x0n : Nat)) ∧ (ptrN x0a fun b1 o2 => (ldV (HP.cell hp b1 (o2 + Int.toNat x9 * 1)) fun v3 => (intV v3 .i64 fun i4 => ((0 ≤ (x9 : Int)) ∧ ((x9 : Int) < (x0n : Nat)) ∧ (ptrN x0a fun b5 o6 => (ldV (HP.cell hp b5 (o6 + Int.toNat x9 * 1)) fun v7 => (intV v7 .i64 fun i8 => (CF Try.prog 30 [(Value.pointer x7), (Value.int .i64 x9), (Value.int .i64 i4)] hp fun u9 h10 => (intV u9 .i64 fun i11 => (CF Try.prog 30 [(Value.pointer x8), (Value.int .i64 x9), (Value.int .i64 i8)] h10 fun u12 h13 => (intV u12 .i64 fun i14 => (K (upd (upd (upd (upd (upd (upd (upd (upd (upd (upd (upd (upd (upd (upd (upd (upd (upd (upd (upd e 9 (sI (x9))) 8 (sV (Value.pointer x8))) 7 (sV (Value.pointer x7))) 0 (sV (Value.slice x0a x0n x0c))) 30 (sV (Value.pointer x7))) 31 (sI (x9))) 32 (sV (Value.slice x0a x0n x0c))) 33 (sI (x9))) 34 (sV (ptr b1 (o2 + Int.toNat x9 * 1)))) 35 (sI (i4))) 37 (sV (Value.pointer x8))) 38 (sI (x9))) 39 (sV (Value.slice x0a x0n x0c))) 40 (sI (x9))) 41 (sV (ptr b5 (o6 + Int.toNat x9 * 1)))) 42 (sI (i8))) 36 (sI (i11))) 43 (sI (i14))) 44 (sB (((i11 : Int) != i14)))) V0 h13))))))))))))) := by kernel_rfl
def F5_l9 (x0a : Option Addr) (x0n : Nat) (x0c : Nat) (x1a : Option Addr) (x1n : Nat) (x1c : Nat) (x2 : Int) (x7 : Option Addr) (x8 : Option Addr) (K : Value → HP → Prop) (I9 : (Int) → HP → Prop) (x9 : Int) (hp : HP) : Prop :=
  (ite2 (decide ((x9 : Int) < (x0n : Nat))) (((0 ≤ (x9 : Int)) ∧ ((x9 : Int) < (x0n : Nat)) ∧ (ptrN x0a fun b_66 o_67 => (ldV (HP.cell hp b_66 (o_67 + Int.toNat x9 * 1)) fun v_68 => (intV v_68 .i64 fun i_69 => (CF Try.prog 30 [(Value.pointer x7), (Value.int .i64 x9), (Value.int .i64 i_69)] hp fun u_70 h_71 => (intV u_70 .i64 fun i_72 => ((0 ≤ (x9 : Int)) ∧ ((x9 : Int) < (x0n : Nat)) ∧ (ptrN x0a fun b_73 o_74 => (ldV (HP.cell h_71 b_73 (o_74 + Int.toNat x9 * 1)) fun v_75 => (intV v_75 .i64 fun i_76 => (CF Try.prog 30 [(Value.pointer x8), (Value.int .i64 x9), (Value.int .i64 i_76)] h_71 fun u_77 h_78 => (intV u_77 .i64 fun i_79 => (F5_j10 x0a x0n x0c x1a x1n x1c x2 x7 x8 x9 ((i_72 : Int) != i_79) h_78 I9 K))))))))))))) ∧ ((0 ≤ (x9 : Int)) ∧ ((x9 : Int) < (x0n : Nat)) ∧ (ptrN x0a fun b_80 o_81 => (ldV (HP.cell hp b_80 (o_81 + Int.toNat x9 * 1)) fun v_82 => (intV v_82 .i64 fun i_83 => ((0 ≤ (x9 : Int)) ∧ ((x9 : Int) < (x0n : Nat)) ∧ (ptrN x0a fun b_84 o_85 => (ldV (HP.cell hp b_84 (o_85 + Int.toNat x9 * 1)) fun v_86 => (intV v_86 .i64 fun i_87 => (CF Try.prog 30 [(Value.pointer x7), (Value.int .i64 x9), (Value.int .i64 i_83)] hp fun u_88 h_89 => (intV u_88 .i64 fun i_90 => (CF Try.prog 30 [(Value.pointer x8), (Value.int .i64 x9), (Value.int .i64 i_87)] h_89 fun u_91 h_92 => (intV u_91 .i64 fun i_93 => (F5_j10 x0a x0n x0c x1a x1n x1c x2 x7 x8 x9 ((i_90 : Int) != i_93) h_92 I9 K)))))))))))))) (F5_j2 x1a x1n x1c x2 x7 x8 hp  K))
def F5_j8 (x0a : Option Addr) (x0n : Nat) (x0c : Nat) (x1a : Option Addr) (x1n : Nat) (x1c : Nat) (x2 : Int) (x7 : Option Addr) (x8 : Option Addr) (x9 : Int) (hp : HP) (K : Value → HP → Prop) : Prop :=
  (LoopP (σ := Int) (fun I s hp => F5_l9 x0a x0n x0c x1a x1n x1c x2 x7 x8  K I s hp) x9 hp)
theorem F5_r19 (e : Env) (hp : HP) (K : Env → PV → HP → Prop) : RW Try.prog 94 [] (opsAt Try.f5 [1, 1, 1, 1, 0, 0]) (List.range 1) e V0 hp K =
    (K (upd e 9 (sI (0))) V0 hp) := by kernel_rfl
def F5_j1 (x0a : Option Addr) (x0n : Nat) (x0c : Nat) (x1a : Option Addr) (x1n : Nat) (x1c : Nat) (x2 : Int) (x20 : Bool) (hp : HP) (K : Value → HP → Prop) : Prop :=
  (ite2 x20 (CF Try.prog 28 [] hp fun u_1 h_2 => (boolV u_1 fun q_3 => (K (Value.bool q_3) h_2))) (CF Try.prog 29 [] hp fun u_4 h_5 => (ptrV u_4 fun p_6 => (CF Try.prog 29 [] h_5 fun u_7 h_8 => (ptrV u_7 fun p_9 => (F5_j8 x0a x0n x0c x1a x1n x1c x2 p_6 p_9 0 h_8  K))))))
theorem F5_r20 (e : Env) (x0a : Option Addr) (x0n : Nat) (x0c : Nat) (x1a : Option Addr) (x1n : Nat) (x1c : Nat) (hp : HP) (K : Env → PV → HP → Prop) : RW Try.prog 94 [] (opsAt Try.f5 [1, 0, 0]) (List.range 8) (upd (upd e 1 (sV (Value.slice x1a x1n x1c))) 0 (sV (Value.slice x0a x0n x0c))) V0 hp K =
    (ite2 (decide (((x0n : Nat) : Int) > 200)) (K (upd (upd (upd (upd (upd (upd (upd (upd (upd (upd e 1 (sV (Value.slice x1a x1n x1c))) 0 (sV (Value.slice x0a x0n x0c))) 13 (sV (Value.slice x0a x0n x0c))) 14 (sI ((x0n : Nat)))) 15 (sB ((decide (((x0n : Nat) : Int) > 200))))) 16 (sB (true))) 17 (sV undef)) 18 (sV undef)) 19 (sV undef)) 20 (sB (true))) V0 hp) (K (upd (upd (upd (upd (upd (upd (upd (upd (upd (upd e 1 (sV (Value.slice x1a x1n x1c))) 0 (sV (Value.slice x0a x0n x0c))) 13 (sV (Value.slice x0a x0n x0c))) 14 (sI ((x0n : Nat)))) 15 (sB ((decide (((x0n : Nat) : Int) > 200))))) 16 (sB (false))) 17 (sV (Value.slice x1a x1n x1c))) 18 (sI ((x1n : Nat)))) 19 (sB ((decide (((x1n : Nat) : Int) > 60))))) 20 (sB ((decide (((x1n : Nat) : Int) > 60))))) V0 hp)) := by kernel_rfl
def F5 (x0a : Option Addr) (x0n : Nat) (x0c : Nat) (x1a : Option Addr) (x1n : Nat) (x1c : Nat) (x2 : Int) (hp : HP) (K : Value → HP → Prop) : Prop :=
  (ite2 (decide (((x0n : Nat) : Int) > 200)) (F5_j1 x0a x0n x0c x1a x1n x1c x2 true hp  K) (F5_j1 x0a x0n x0c x1a x1n x1c x2 (decide (((x1n : Nat) : Int) > 60)) hp  K))
noncomputable def F5_code : Code := (.seq (.region 0 (opsAt Try.f5 [0]) false) (.seq (.seq (.region 1 (opsAt Try.f5 [1, 0, 0]) false) (.cond (.tmp 20) (.seq (.region 2 (opsAt Try.f5 [1, 0, 1, 0, 0]) false) .ret) .skip)) (.seq (.region 3 (opsAt Try.f5 [1, 1, 0]) false) (.seq (.region 4 (opsAt Try.f5 [1, 1, 1, 0]) false) (.seq (.seq (.region 5 (opsAt Try.f5 [1, 1, 1, 1, 0, 0]) false) (.block 0 (.loop (.seq (.seq (.region 6 (opsAt Try.f5 [1, 1, 1, 1, 0, 1, 0, 0, 0, 0]) false) (.cond (.tmp 27) .skip (.exit 0))) (.seq (.block 1 (.seq (.region 8 (opsAt Try.f5 [1, 1, 1, 1, 0, 1, 0, 0, 1, 0, 0, 0]) true) (.cond (.tmp 44) (.seq (.region 9 (opsAt Try.f5 [1, 1, 1, 1, 0, 1, 0, 0, 1, 0, 0, 1, 0, 0]) false) .ret) .skip))) (.region 7 (opsAt Try.f5 [1, 1, 1, 1, 0, 1, 0, 0, 1, 1]) false)))))) (.seq (.region 10 (opsAt Try.f5 [1, 1, 1, 1, 1, 0]) false) (.seq (.region 11 (opsAt Try.f5 [1, 1, 1, 1, 1, 1, 0]) false) (.seq (.seq (.region 12 (opsAt Try.f5 [1, 1, 1, 1, 1, 1, 1, 0, 0]) false) (.block 2 (.loop (.seq (.seq (.region 13 (opsAt Try.f5 [1, 1, 1, 1, 1, 1, 1, 0, 1, 0, 0, 0, 0]) false) (.cond (.tmp 48) .skip (.exit 2))) (.seq (.block 3 (.seq (.region 15 (opsAt Try.f5 [1, 1, 1, 1, 1, 1, 1, 0, 1, 0, 0, 1, 0, 0, 0]) false) (.cond (.tmp 64) (.seq (.region 16 (opsAt Try.f5 [1, 1, 1, 1, 1, 1, 1, 0, 1, 0, 0, 1, 0, 0, 1, 0, 0]) false) (.region 17 (opsAt Try.f5 [1, 1, 1, 1, 1, 1, 1, 0, 1, 0, 0, 1, 0, 0, 1, 0, 1]) false)) .skip))) (.region 14 (opsAt Try.f5 [1, 1, 1, 1, 1, 1, 1, 0, 1, 0, 0, 1, 1]) false)))))) (.seq (.region 18 (opsAt Try.f5 [1, 1, 1, 1, 1, 1, 1, 1, 0]) false) (.seq (.region 19 (opsAt Try.f5 [1, 1, 1, 1, 1, 1, 1, 1, 1, 0]) false) .ret))))))))))
theorem F5_body : Try.f5.body = some F5_code := by kernel_rfl
theorem F5_ok (x0a : Option Addr) (x0n : Nat) (x0c : Nat) (x1a : Option Addr) (x1n : Nat) (x1c : Nat) (x2 : Int) (hp : HP) (K : Value → HP → Prop) (h : F5 x0a x0n x0c x1a x1n x1c x2 hp K) : CF Try.prog 5 [(Value.slice x0a x0n x0c), (Value.slice x1a x1n x1c), (Value.int .i64 x2)] hp K := by
 refine .inl ⟨by kernel_rfl, AC.intro (N := 94) Try.func5 F5_body rfl (Nat.le_of_ble_eq_true rfl) ?_⟩
 unfold F5 at h
 unfold F5_code
 refine AWP.seq' ?_
 refine AWP.rgn (F5_r0 (upd (upd (upd E0 2 (sI (x2))) 1 (sV (Value.slice x1a x1n x1c))) 0 (sV (Value.slice x0a x0n x0c)))  hp _) ?_ (Rv 0 _ (Rv 1 _ (Rv 2 _ (Rn)))) (Sc rfl (Sc rfl (Sc rfl (Sn)))) (Sn)
 refine AWP.seq' ?_
 refine AWP.seq (fun env pv hp => ∃ (x0a : Option Addr) (x0n : Nat) (x0c : Nat) (x1a : Option Addr) (x1n : Nat) (x1c : Nat) (x2 : Int) (x20 : Bool), Sub (upd (upd (upd (upd E0 20 (sB (x20))) 2 (sI (x2))) 1 (sV (Value.slice x1a x1n x1c))) 0 (sV (Value.slice x0a x0n x0c))) env ∧ Sub V0 pv ∧ (F5_j1 x0a x0n x0c x1a x1n x1c x2 x20 hp  K)) ?_ ?_
 ·refine AWP.rgn (F5_r20 (upd E0 2 (sI (x2))) x0a x0n x0c x1a x1n x1c hp _) ?_ (Rv 0 _ (Rv 1 _ (Rv 2 _ (Rn)))) (Sc rfl (Sc rfl (Sc rfl (Sn)))) (Sn)
  refine ite2_mono h (fun h => ?_) (fun h => ?_)
  ·exact ⟨x0a, x0n, x0c, x1a, x1n, x1c, x2, true, (Sc rfl (Sc rfl (Sc rfl (Sc rfl (Sn))))), (Sn), h⟩
  ·exact ⟨x0a, x0n, x0c, x1a, x1n, x1c, x2, (decide (((x1n : Nat) : Int) > 60)), (Sc rfl (Sc rfl (Sc rfl (Sc rfl (Sn))))), (Sn), h⟩
 ·rintro env pv hp ⟨x0a, x0n, x0c, x1a, x1n, x1c, x2, x20, he, hv, h⟩
  refine AWP.sub (env' := (upd (upd (upd (upd E0 20 (sB (x20))) 2 (sI (x2))) 1 (sV (Value.slice x1a x1n x1c))) 0 (sV (Value.slice x0a x0n x0c)))) (pv' := V0) ?_ (Rv 0 _ (Rv 1 _ (Rv 2 _ (Rv 20 _ (Rn))))) he hv (HSub.refl _)
  clear he hv
  unfold F5_j1 at h
  refine AWP.cond (t := x20) rfl (fun e => ?_) (fun e => ?_)
  ·replace h := ite2_t h e
   refine AWP.seq' ?_
   refine AWP.rgn (F5_r1 E0  hp _) ?_ (Rn) (Sn) (Sn)
   refine CF_mono h (fun u_1 h_2 h => ?_)
   refine boolV_mono h (fun q_3 h => ?_)
   refine AWP.ret ?_
   exact h
  ·replace h := ite2_f h e
   refine AWP.skip ?_
   refine AWP.seq' ?_
   refine AWP.rgn (F5_r2 (upd (upd (upd E0 2 (sI (x2))) 1 (sV (Value.slice x1a x1n x1c))) 0 (sV (Value.slice x0a x0n x0c)))  hp _) ?_ (Rv 0 _ (Rv 1 _ (Rv 2 _ (Rn)))) (Sc rfl (Sc rfl (Sc rfl (Sn)))) (Sn)
   refine CF_mono h (fun u_4 h_5 h => ?_)
   refine ptrV_mono h (fun p_6 h => ?_)
   refine AWP.seq' ?_
   refine AWP.rgn (F5_r3 (upd (upd (upd (upd E0 7 (sV (Value.pointer p_6))) 2 (sI (x2))) 1 (sV (Value.slice x1a x1n x1c))) 0 (sV (Value.slice x0a x0n x0c)))  h_5 _) ?_ (Rv 0 _ (Rv 1 _ (Rv 2 _ (Rv 7 _ (Rn))))) (Sc rfl (Sc rfl (Sc rfl (Sc rfl (Sn))))) (Sn)
   refine CF_mono h (fun u_7 h_8 h => ?_)
   refine ptrV_mono h (fun p_9 h => ?_)
   refine AWP.seq (fun env pv hp => ∃ (x1a : Option Addr) (x1n : Nat) (x1c : Nat) (x2 : Int) (x7 : Option Addr) (x8 : Option Addr), Sub (upd (upd (upd (upd E0 8 (sV (Value.pointer x8))) 7 (sV (Value.pointer x7))) 2 (sI (x2))) 1 (sV (Value.slice x1a x1n x1c))) env ∧ Sub V0 pv ∧ (F5_j2 x1a x1n x1c x2 x7 x8 hp  K)) ?_ ?_
   ·refine AWP.seq (fun env pv hp => ∃ (x0a : Option Addr) (x0n : Nat) (x0c : Nat) (x1a : Option Addr) (x1n : Nat) (x1c : Nat) (x2 : Int) (x7 : Option Addr) (x8 : Option Addr) (x9 : Int), Sub (upd (upd (upd (upd (upd (upd E0 9 (sI (x9))) 8 (sV (Value.pointer x8))) 7 (sV (Value.pointer x7))) 2 (sI (x2))) 1 (sV (Value.slice x1a x1n x1c))) 0 (sV (Value.slice x0a x0n x0c))) env ∧ Sub V0 pv ∧ (F5_j8 x0a x0n x0c x1a x1n x1c x2 x7 x8 x9 hp  K)) ?_ ?_
    ·refine AWP.rgn (F5_r19 (upd (upd (upd (upd (upd E0 8 (sV (Value.pointer p_9))) 7 (sV (Value.pointer p_6))) 2 (sI (x2))) 1 (sV (Value.slice x1a x1n x1c))) 0 (sV (Value.slice x0a x0n x0c)))  h_8 _) ?_ (Rv 0 _ (Rv 1 _ (Rv 2 _ (Rv 7 _ (Rv 8 _ (Rn)))))) (Sc rfl (Sc rfl (Sc rfl (Sc rfl (Sc rfl (Sn)))))) (Sn)
     exact ⟨x0a, x0n, x0c, x1a, x1n, x1c, x2, p_6, p_9, 0, (Sc rfl (Sc rfl (Sc rfl (Sc rfl (Sc rfl (Sc rfl (Sn))))))), (Sn), h⟩
    ·rintro env pv hp ⟨x0a, x0n, x0c, x1a, x1n, x1c, x2, x7, x8, x9, he, hv, h⟩
     refine AWP.sub (env' := (upd (upd (upd (upd (upd (upd E0 9 (sI (x9))) 8 (sV (Value.pointer x8))) 7 (sV (Value.pointer x7))) 2 (sI (x2))) 1 (sV (Value.slice x1a x1n x1c))) 0 (sV (Value.slice x0a x0n x0c)))) (pv' := V0) ?_ (Rv 0 _ (Rv 1 _ (Rv 2 _ (Rv 7 _ (Rv 8 _ (Rv 9 _ (Rn))))))) he hv (HSub.refl _)
     clear he hv
     unfold F5_j8 at h
     refine AWP.block ?_
     refine AWP.loop (σ := Int) (fun I s hp => F5_l9 x0a x0n x0c x1a x1n x1c x2 x7 x8  K I s hp) (fun s => (upd (upd (upd (upd (upd (upd E0 9 (sI (s))) 8 (sV (Value.pointer x8))) 7 (sV (Value.pointer x7))) 2 (sI (x2))) 1 (sV (Value.slice x1a x1n x1c))) 0 (sV (Value.slice x0a x0n x0c)))) (fun s => V0) x9 h (fun s => (Rv 0 _ (Rv 1 _ (Rv 2 _ (Rv 7 _ (Rv 8 _ (Rv 9 _ (Rn)))))))) (Sc rfl (Sc rfl (Sc rfl (Sc rfl (Sc rfl (Sc rfl (Sn))))))) (Sn) ?_
     intro I9 s hp h
     obtain ⟨x9, hs⟩ : ∃ x, x = s := ⟨s, rfl⟩
     subst hs
     replace h : F5_l9 x0a x0n x0c x1a x1n x1c x2 x7 x8  K I9 x9 hp := h
     unfold F5_l9 at h
     refine AWP.seq' ?_
     refine AWP.seq' ?_
     refine AWP.rgn (F5_r14 (upd (upd (upd (upd E0 8 (sV (Value.pointer x8))) 7 (sV (Value.pointer x7))) 2 (sI (x2))) 1 (sV (Value.slice x1a x1n x1c))) x0a x0n x0c x9 hp _) ?_ (Rv 0 _ (Rv 9 _ (Rv 1 _ (Rv 2 _ (Rv 7 _ (Rv 8 _ (Rn))))))) (Sc rfl (Sc rfl (Sc rfl (Sc rfl (Sc rfl (Sc rfl (Sn))))))) (Sn)
     refine AWP.cond (t := (decide ((x9 : Int) < (x0n : Nat)))) rfl (fun e => ?_) (fun e => ?_)
     ·replace h := ite2_t h e
      refine AWP.skip ?_
      refine AWP.seq' ?_
      refine AWP.block ?_
      refine AWP.seq (fun env pv hp => ∃ (x9 : Int) (x44 : Bool), Sub (upd (upd (upd (upd (upd (upd (upd E0 44 (sB (x44))) 9 (sI (x9))) 8 (sV (Value.pointer x8))) 7 (sV (Value.pointer x7))) 2 (sI (x2))) 1 (sV (Value.slice x1a x1n x1c))) 0 (sV (Value.slice x0a x0n x0c))) env ∧ Sub V0 pv ∧ (F5_j10 x0a x0n x0c x1a x1n x1c x2 x7 x8 x9 x44 hp I9 K)) ?_ ?_
      ·refine AWP.rgnC (cf := [(6, 12)]) (c := [([true], true, [0, 1, 2, 3, 4, 5, 6, 7, 8, 9, 10, 11, 12, 13, 14]), ([false], true, [0, 1, 2, 3, 4, 5, 7, 8, 9, 10, 11, 12, 6, 13, 14])]) (by kernel_rfl) (by kernel_rfl) (by kernel_rfl) (by kernel_rfl) (allO_t (Eq.mpr (F5_r17 (upd (upd E0 2 (sI (x2))) 1 (sV (Value.slice x1a x1n x1c))) x0a x0n x0c x7 x8 x9 hp _) ?_) (allO_t (Eq.mpr (F5_r18 (upd (upd E0 2 (sI (x2))) 1 (sV (Value.slice x1a x1n x1c))) x0a x0n x0c x7 x8 x9 hp _) ?_) trivial)) (Rv 0 _ (Rv 7 _ (Rv 8 _ (Rv 9 _ (Rv 1 _ (Rv 2 _ (Rn))))))) (Sc rfl (Sc rfl (Sc rfl (Sc rfl (Sc rfl (Sc rfl (Sn))))))) (Sn)
       ·replace h := h.1
        refine ⟨h.1, h.2.1, ?_⟩
        replace h := h.2.2
        refine ptrN_mono h (fun b_66 o_67 h => ?_)
        refine ldV_mono h (fun v_68 h => ?_)
        refine intV_mono h (fun i_69 h => ?_)
        refine CF_mono h (fun u_70 h_71 h => ?_)
        refine intV_mono h (fun i_72 h => ?_)
        refine ⟨h.1, h.2.1, ?_⟩
        replace h := h.2.2
        refine ptrN_mono h (fun b_73 o_74 h => ?_)
        refine ldV_mono h (fun v_75 h => ?_)
        refine intV_mono h (fun i_76 h => ?_)
        refine CF_mono h (fun u_77 h_78 h => ?_)
        refine intV_mono h (fun i_79 h => ?_)
        exact ⟨x9, ((i_72 : Int) != i_79), (Sc rfl (Sc rfl (Sc rfl (Sc rfl (Sc rfl (Sc rfl (Sc rfl (Sn)))))))), (Sn), h⟩
       ·replace h := h.2
        refine ⟨h.1, h.2.1, ?_⟩
        replace h := h.2.2
        refine ptrN_mono h (fun b_80 o_81 h => ?_)
        refine ldV_mono h (fun v_82 h => ?_)
        refine intV_mono h (fun i_83 h => ?_)
        refine ⟨h.1, h.2.1, ?_⟩
        replace h := h.2.2
        refine ptrN_mono h (fun b_84 o_85 h => ?_)
        refine ldV_mono h (fun v_86 h => ?_)
        refine intV_mono h (fun i_87 h => ?_)
        refine CF_mono h (fun u_88 h_89 h => ?_)
        refine intV_mono h (fun i_90 h => ?_)
        refine CF_mono h (fun u_91 h_92 h => ?_)
        refine intV_mono h (fun i_93 h => ?_)
        exact ⟨x9, ((i_90 : Int) != i_93), (Sc rfl (Sc rfl (Sc rfl (Sc rfl (Sc rfl (Sc rfl (Sc rfl (Sn)))))))), (Sn), h⟩
      ·rintro env pv hp ⟨x9, x44, he, hv, h⟩
       refine AWP.sub (env' := (upd (upd (upd (upd (upd (upd (upd E0 44 (sB (x44))) 9 (sI (x9))) 8 (sV (Value.pointer x8))) 7 (sV (Value.pointer x7))) 2 (sI (x2))) 1 (sV (Value.slice x1a x1n x1c))) 0 (sV (Value.slice x0a x0n x0c)))) (pv' := V0) ?_ (Rv 0 _ (Rv 1 _ (Rv 2 _ (Rv 7 _ (Rv 8 _ (Rv 9 _ (Rv 44 _ (Rn)))))))) he hv (HSub.refl _)
       clear he hv
       unfold F5_j10 at h
       refine AWP.cond (t := x44) rfl (fun e => ?_) (fun e => ?_)
       ·replace h := ite2_t h e
        refine AWP.seq' ?_
        refine AWP.rgn (F5_r15 E0  hp _) ?_ (Rn) (Sn) (Sn)
        refine AWP.ret ?_
        exact h
       ·replace h := ite2_f h e
        refine AWP.skip ?_
        refine AWP.rgn (F5_r16 (upd (upd (upd (upd (upd E0 8 (sV (Value.pointer x8))) 7 (sV (Value.pointer x7))) 2 (sI (x2))) 1 (sV (Value.slice x1a x1n x1c))) 0 (sV (Value.slice x0a x0n x0c))) x9 hp _) ?_ (Rv 9 _ (Rv 0 _ (Rv 1 _ (Rv 2 _ (Rv 7 _ (Rv 8 _ (Rn))))))) (Sc rfl (Sc rfl (Sc rfl (Sc rfl (Sc rfl (Sc rfl (Sn))))))) (Sn)
        exact ⟨(IntKind.wrap .i64 (x9 + 1)), (Sc rfl (Sc rfl (Sc rfl (Sc rfl (Sc rfl (Sc rfl (Sn))))))), (Sn), h⟩
     ·replace h := ite2_f h e
      refine AWP.exit ?_
      exact ⟨x1a, x1n, x1c, x2, x7, x8, (Sc rfl (Sc rfl (Sc rfl (Sc rfl (Sn))))), (Sn), h⟩
   ·rintro env pv hp ⟨x1a, x1n, x1c, x2, x7, x8, he, hv, h⟩
    refine AWP.sub (env' := (upd (upd (upd (upd E0 8 (sV (Value.pointer x8))) 7 (sV (Value.pointer x7))) 2 (sI (x2))) 1 (sV (Value.slice x1a x1n x1c)))) (pv' := V0) ?_ (Rv 1 _ (Rv 2 _ (Rv 7 _ (Rv 8 _ (Rn))))) he hv (HSub.refl _)
    clear he hv
    unfold F5_j2 at h
    refine AWP.seq' ?_
    refine AWP.rgn (F5_r4 (upd (upd (upd (upd E0 8 (sV (Value.pointer x8))) 7 (sV (Value.pointer x7))) 2 (sI (x2))) 1 (sV (Value.slice x1a x1n x1c)))  hp _) ?_ (Rv 1 _ (Rv 2 _ (Rv 7 _ (Rv 8 _ (Rn))))) (Sc rfl (Sc rfl (Sc rfl (Sc rfl (Sn))))) (Sn)
    refine AWP.seq' ?_
    refine AWP.rgn (F5_r5 (upd (upd (upd (upd (upd E0 10 (sV (Value.slice none 0 0))) 8 (sV (Value.pointer x8))) 7 (sV (Value.pointer x7))) 2 (sI (x2))) 1 (sV (Value.slice x1a x1n x1c)))  hp _) ?_ (Rv 1 _ (Rv 2 _ (Rv 7 _ (Rv 8 _ (Rv 10 _ (Rn)))))) (Sc rfl (Sc rfl (Sc rfl (Sc rfl (Sc rfl (Sn)))))) (Sn)
    refine AWP.seq (fun env pv hp => ∃ (x2 : Int) (x7 : Option Addr) (x8 : Option Addr) (x10a : Option Addr) (x10n : Nat) (x10c : Nat), Sub (upd (upd (upd (upd E0 10 (sV (Value.slice x10a x10n x10c))) 8 (sV (Value.pointer x8))) 7 (sV (Value.pointer x7))) 2 (sI (x2))) env ∧ Sub V0 pv ∧ (F5_j3 x2 x7 x8 x10a x10n x10c hp  K)) ?_ ?_
    ·refine AWP.seq (fun env pv hp => ∃ (x1a : Option Addr) (x1n : Nat) (x1c : Nat) (x2 : Int) (x7 : Option Addr) (x8 : Option Addr) (x10a : Option Addr) (x10n : Nat) (x10c : Nat) (x11 : Int) (x12 : Int), Sub (upd (upd (upd (upd (upd (upd (upd E0 12 (sI (x12))) 11 (sI (x11))) 10 (sV (Value.slice x10a x10n x10c))) 8 (sV (Value.pointer x8))) 7 (sV (Value.pointer x7))) 2 (sI (x2))) 1 (sV (Value.slice x1a x1n x1c))) env ∧ Sub V0 pv ∧ (F5_j4 x1a x1n x1c x2 x7 x8 x10a x10n x10c x11 x12 hp  K)) ?_ ?_
     ·refine AWP.rgn (F5_r13 (upd (upd (upd (upd (upd (upd E0 11 (sI ((-1)))) 10 (sV (Value.slice none 0 0))) 8 (sV (Value.pointer x8))) 7 (sV (Value.pointer x7))) 2 (sI (x2))) 1 (sV (Value.slice x1a x1n x1c)))  hp _) ?_ (Rv 1 _ (Rv 2 _ (Rv 7 _ (Rv 8 _ (Rv 10 _ (Rv 11 _ (Rn))))))) (Sc rfl (Sc rfl (Sc rfl (Sc rfl (Sc rfl (Sc rfl (Sn))))))) (Sn)
      exact ⟨x1a, x1n, x1c, x2, x7, x8, none, 0, 0, (-1), 0, (Sc rfl (Sc rfl (Sc rfl (Sc rfl (Sc rfl (Sc rfl (Sc rfl (Sn)))))))), (Sn), h⟩
     ·rintro env pv hp ⟨x1a, x1n, x1c, x2, x7, x8, x10a, x10n, x10c, x11, x12, he, hv, h⟩
      refine AWP.sub (env' := (upd (upd (upd (upd (upd (upd (upd E0 12 (sI (x12))) 11 (sI (x11))) 10 (sV (Value.slice x10a x10n x10c))) 8 (sV (Value.pointer x8))) 7 (sV (Value.pointer x7))) 2 (sI (x2))) 1 (sV (Value.slice x1a x1n x1c)))) (pv' := V0) ?_ (Rv 1 _ (Rv 2 _ (Rv 7 _ (Rv 8 _ (Rv 10 _ (Rv 11 _ (Rv 12 _ (Rn)))))))) he hv (HSub.refl _)
      clear he hv
      unfold F5_j4 at h
      refine AWP.block ?_
      refine AWP.loop (σ := (Option Addr) × Nat × Nat × Int × Int) (fun I s hp => F5_l5 x1a x1n x1c x2 x7 x8  K I s.1 s.2.1 s.2.2.1 s.2.2.2.1 s.2.2.2.2 hp) (fun s => (upd (upd (upd (upd (upd (upd (upd E0 12 (sI (s.2.2.2.2))) 11 (sI (s.2.2.2.1))) 10 (sV (Value.slice s.1 s.2.1 s.2.2.1))) 8 (sV (Value.pointer x8))) 7 (sV (Value.pointer x7))) 2 (sI (x2))) 1 (sV (Value.slice x1a x1n x1c)))) (fun s => V0) (x10a, x10n, x10c, x11, x12) h (fun s => (Rv 1 _ (Rv 2 _ (Rv 7 _ (Rv 8 _ (Rv 10 _ (Rv 11 _ (Rv 12 _ (Rn))))))))) (Sc rfl (Sc rfl (Sc rfl (Sc rfl (Sc rfl (Sc rfl (Sc rfl (Sn)))))))) (Sn) ?_
      intro I5 s hp h
      obtain ⟨x10a, x10n, x10c, x11, x12⟩ := s
      replace h : F5_l5 x1a x1n x1c x2 x7 x8  K I5 x10a x10n x10c x11 x12 hp := h
      unfold F5_l5 at h
      refine AWP.seq' ?_
      refine AWP.seq' ?_
      refine AWP.rgn (F5_r8 (upd (upd (upd (upd (upd E0 11 (sI (x11))) 10 (sV (Value.slice x10a x10n x10c))) 8 (sV (Value.pointer x8))) 7 (sV (Value.pointer x7))) 2 (sI (x2))) x1a x1n x1c x12 hp _) ?_ (Rv 1 _ (Rv 12 _ (Rv 2 _ (Rv 7 _ (Rv 8 _ (Rv 10 _ (Rv 11 _ (Rn)))))))) (Sc rfl (Sc rfl (Sc rfl (Sc rfl (Sc rfl (Sc rfl (Sc rfl (Sn)))))))) (Sn)
      refine AWP.cond (t := (decide ((x12 : Int) < (x1n : Nat)))) rfl (fun e => ?_) (fun e => ?_)
      ·replace h := ite2_t h e
       refine AWP.skip ?_
       refine AWP.seq (fun env pv hp => ∃ (x10a : Option Addr) (x10n : Nat) (x10c : Nat) (x11 : Int) (x12 : Int), Sub (upd (upd (upd (upd (upd (upd (upd E0 12 (sI (x12))) 11 (sI (x11))) 10 (sV (Value.slice x10a x10n x10c))) 8 (sV (Value.pointer x8))) 7 (sV (Value.pointer x7))) 2 (sI (x2))) 1 (sV (Value.slice x1a x1n x1c))) env ∧ Sub V0 pv ∧ (F5_j6 x1a x1n x1c x2 x7 x8 x10a x10n x10c x11 x12 hp I5 K)) ?_ ?_
       ·refine AWP.block ?_
        refine AWP.seq (fun env pv hp => ∃ (x10a : Option Addr) (x10n : Nat) (x10c : Nat) (x11 : Int) (x12 : Int) (x64 : Bool), Sub (upd (upd (upd (upd (upd (upd (upd (upd E0 64 (sB (x64))) 12 (sI (x12))) 11 (sI (x11))) 10 (sV (Value.slice x10a x10n x10c))) 8 (sV (Value.pointer x8))) 7 (sV (Value.pointer x7))) 2 (sI (x2))) 1 (sV (Value.slice x1a x1n x1c))) env ∧ Sub V0 pv ∧ (F5_j7 x1a x1n x1c x2 x7 x8 x10a x10n x10c x11 x12 x64 hp I5 K)) ?_ ?_
        ·refine AWP.rgn (F5_r12 (upd (upd (upd E0 10 (sV (Value.slice x10a x10n x10c))) 8 (sV (Value.pointer x8))) 7 (sV (Value.pointer x7))) x1a x1n x1c x2 x11 x12 hp _) ?_ (Rv 1 _ (Rv 2 _ (Rv 11 _ (Rv 12 _ (Rv 7 _ (Rv 8 _ (Rv 10 _ (Rn)))))))) (Sc rfl (Sc rfl (Sc rfl (Sc rfl (Sc rfl (Sc rfl (Sc rfl (Sn)))))))) (Sn)
         refine ⟨h.1, h.2.1, ?_⟩
         replace h := h.2.2
         refine ptrN_mono h (fun b_58 o_59 h => ?_)
         refine ldV_mono h (fun v_60 h => ?_)
         refine intV_mono h (fun i_61 h => ?_)
         refine ite2_mono h (fun h => ?_) (fun h => ?_)
         ·refine ⟨h.1, h.2.1, ?_⟩
          replace h := h.2.2
          refine ptrN_mono h (fun b_62 o_63 h => ?_)
          refine ldV_mono h (fun v_64 h => ?_)
          refine intV_mono h (fun i_65 h => ?_)
          exact ⟨x10a, x10n, x10c, x11, x12, (decide ((i_65 : Int) ≤ x2)), (Sc rfl (Sc rfl (Sc rfl (Sc rfl (Sc rfl (Sc rfl (Sc rfl (Sc rfl (Sn))))))))), (Sn), h⟩
         ·exact ⟨x10a, x10n, x10c, x11, x12, false, (Sc rfl (Sc rfl (Sc rfl (Sc rfl (Sc rfl (Sc rfl (Sc rfl (Sc rfl (Sn))))))))), (Sn), h⟩
        ·rintro env pv hp ⟨x10a, x10n, x10c, x11, x12, x64, he, hv, h⟩
         refine AWP.sub (env' := (upd (upd (upd (upd (upd (upd (upd (upd E0 64 (sB (x64))) 12 (sI (x12))) 11 (sI (x11))) 10 (sV (Value.slice x10a x10n x10c))) 8 (sV (Value.pointer x8))) 7 (sV (Value.pointer x7))) 2 (sI (x2))) 1 (sV (Value.slice x1a x1n x1c)))) (pv' := V0) ?_ (Rv 1 _ (Rv 2 _ (Rv 7 _ (Rv 8 _ (Rv 10 _ (Rv 11 _ (Rv 12 _ (Rv 64 _ (Rn))))))))) he hv (HSub.refl _)
         clear he hv
         unfold F5_j7 at h
         refine AWP.cond (t := x64) rfl (fun e => ?_) (fun e => ?_)
         ·replace h := ite2_t h e
          refine AWP.seq' ?_
          refine AWP.rgn (F5_r10 (upd (upd (upd (upd E0 10 (sV (Value.slice x10a x10n x10c))) 8 (sV (Value.pointer x8))) 7 (sV (Value.pointer x7))) 2 (sI (x2))) x1a x1n x1c x12 hp _) ?_ (Rv 1 _ (Rv 12 _ (Rv 2 _ (Rv 7 _ (Rv 8 _ (Rv 10 _ (Rn))))))) (Sc rfl (Sc rfl (Sc rfl (Sc rfl (Sc rfl (Sc rfl (Sn))))))) (Sn)
          refine ⟨h.1, h.2.1, ?_⟩
          replace h := h.2.2
          refine ptrN_mono h (fun b_44 o_45 h => ?_)
          refine ldV_mono h (fun v_46 h => ?_)
          refine intV_mono h (fun i_47 h => ?_)
          refine AWP.rgn (F5_r11 (upd (upd (upd (upd E0 12 (sI (x12))) 8 (sV (Value.pointer x8))) 2 (sI (x2))) 1 (sV (Value.slice x1a x1n x1c))) x7 x10a x10n x10c i_47 hp _) ?_ (Rv 7 _ (Rv 10 _ (Rv 11 _ (Rv 1 _ (Rv 2 _ (Rv 8 _ (Rv 12 _ (Rn)))))))) (Sc rfl (Sc rfl (Sc rfl (Sc rfl (Sc rfl (Sc rfl (Sc rfl (Sn)))))))) (Sn)
          refine CF_mono h (fun u_48 h_49 h => ?_)
          refine slcV_mono h (fun a_50 n_51 c_52 h => ?_)
          refine opS_mono h (fun u_53 h_54 h => ?_)
          refine slcV_mono h (fun a_55 n_56 c_57 h => ?_)
          exact ⟨a_55, n_56, c_57, i_47, x12, (Sc rfl (Sc rfl (Sc rfl (Sc rfl (Sc rfl (Sc rfl (Sc rfl (Sn)))))))), (Sn), h⟩
         ·replace h := ite2_f h e
          refine AWP.skip ?_
          exact ⟨x10a, x10n, x10c, x11, x12, (Sc rfl (Sc rfl (Sc rfl (Sc rfl (Sc rfl (Sc rfl (Sc rfl (Sn)))))))), (Sn), h⟩
       ·rintro env pv hp ⟨x10a, x10n, x10c, x11, x12, he, hv, h⟩
        refine AWP.sub (env' := (upd (upd (upd (upd (upd (upd (upd E0 12 (sI (x12))) 11 (sI (x11))) 10 (sV (Value.slice x10a x10n x10c))) 8 (sV (Value.pointer x8))) 7 (sV (Value.pointer x7))) 2 (sI (x2))) 1 (sV (Value.slice x1a x1n x1c)))) (pv' := V0) ?_ (Rv 1 _ (Rv 2 _ (Rv 7 _ (Rv 8 _ (Rv 10 _ (Rv 11 _ (Rv 12 _ (Rn)))))))) he hv (HSub.refl _)
        clear he hv
        unfold F5_j6 at h
        refine AWP.rgn (F5_r9 (upd (upd (upd (upd (upd (upd E0 11 (sI (x11))) 10 (sV (Value.slice x10a x10n x10c))) 8 (sV (Value.pointer x8))) 7 (sV (Value.pointer x7))) 2 (sI (x2))) 1 (sV (Value.slice x1a x1n x1c))) x12 hp _) ?_ (Rv 12 _ (Rv 1 _ (Rv 2 _ (Rv 7 _ (Rv 8 _ (Rv 10 _ (Rv 11 _ (Rn)))))))) (Sc rfl (Sc rfl (Sc rfl (Sc rfl (Sc rfl (Sc rfl (Sc rfl (Sn)))))))) (Sn)
        exact ⟨(x10a, x10n, x10c, x11, (IntKind.wrap .i64 (x12 + 1))), (Sc rfl (Sc rfl (Sc rfl (Sc rfl (Sc rfl (Sc rfl (Sc rfl (Sn)))))))), (Sn), h⟩
      ·replace h := ite2_f h e
       refine AWP.exit ?_
       exact ⟨x2, x7, x8, x10a, x10n, x10c, (Sc rfl (Sc rfl (Sc rfl (Sc rfl (Sn))))), (Sn), h⟩
    ·rintro env pv hp ⟨x2, x7, x8, x10a, x10n, x10c, he, hv, h⟩
     refine AWP.sub (env' := (upd (upd (upd (upd E0 10 (sV (Value.slice x10a x10n x10c))) 8 (sV (Value.pointer x8))) 7 (sV (Value.pointer x7))) 2 (sI (x2)))) (pv' := V0) ?_ (Rv 2 _ (Rv 7 _ (Rv 8 _ (Rv 10 _ (Rn))))) he hv (HSub.refl _)
     clear he hv
     unfold F5_j3 at h
     refine AWP.seq' ?_
     refine AWP.rgn (F5_r6 (upd E0 8 (sV (Value.pointer x8))) x2 x7 x10a x10n x10c hp _) ?_ (Rv 2 _ (Rv 7 _ (Rv 10 _ (Rv 8 _ (Rn))))) (Sc rfl (Sc rfl (Sc rfl (Sc rfl (Sn))))) (Sn)
     refine CF_mono h (fun u_10 h_11 h => ?_)
     refine slcV_mono h (fun a_12 n_13 c_14 h => ?_)
     refine opS_mono h (fun u_15 h_16 h => ?_)
     refine slcV_mono h (fun a_17 n_18 c_19 h => ?_)
     refine AWP.seq' ?_
     refine AWP.rgn (F5_r7 E0 x2 x7 x8 a_17 n_18 c_19 h_16 _) ?_ (Rv 2 _ (Rv 7 _ (Rv 8 _ (Rv 10 _ (Rn))))) (Sc rfl (Sc rfl (Sc rfl (Sc rfl (Sn))))) (Sn)
     refine CF_mono h (fun u_20 h_21 h => ?_)
     refine slcV_mono h (fun a_22 n_23 c_24 h => ?_)
     refine CF_mono h (fun u_25 h_26 h => ?_)
     refine boolV_mono h (fun q_27 h => ?_)
     refine ite2_mono h (fun h => ?_) (fun h => ?_)
     ·refine CF_mono h (fun u_28 h_29 h => ?_)
      refine slcV_mono h (fun a_30 n_31 c_32 h => ?_)
      refine CF_mono h (fun u_33 h_34 h => ?_)
      refine slcV_mono h (fun a_35 n_36 c_37 h => ?_)
      refine CF_mono h (fun u_38 h_39 h => ?_)
      refine boolV_mono h (fun q_40 h => ?_)
      refine ite2_mono h (fun h => ?_) (fun h => ?_)
      ·refine CF_mono h (fun u_41 h_42 h => ?_)
       refine boolV_mono h (fun q_43 h => ?_)
       refine AWP.ret ?_
       exact h
      ·refine AWP.ret ?_
       exact h
     ·refine AWP.ret ?_
      exact h
end Go.Proofs

set_option linter.unusedVariables false
namespace Go.Proofs
open Go Go.HL

/-- An address: four bytes. -/
abbrev Q := Int × Int × Int × Int
def v4 (q : Q) : List Value := [.int .u8 q.1, .int .u8 q.2.1, .int .u8 q.2.2.1, .int .u8 q.2.2.2]
def t4 (t : Q × Int) : List Value := [.int .u8 t.1.1, .int .u8 t.1.2.1, .int .u8 t.1.2.2.1, .int .u8 t.1.2.2.2, .int .i64 t.2]
theorem v4_len (q : Q) : (v4 q).length = 4 := rfl
theorem t4_len (q : Q × Int) : (t4 q).length = 5 := rfl
theorem v4_one (q : Q) : (v4 q).all one = true := rfl
theorem t4_one (q : Q × Int) : (t4 q).all one = true := rfl
theorem v4_inj {p q : Q} : v4 p = v4 q ↔ p = q := by
  simp only [v4, List.cons.injEq, Value.int.injEq, true_and, and_true]
  constructor
  · rintro ⟨a, b, c, d⟩; exact Prod.ext a (Prod.ext b (Prod.ext c d))
  · rintro rfl; exact ⟨rfl, rfl, rfl, rfl⟩
theorem t4_inj {p q : Q × Int} : t4 p = t4 q ↔ p = q := by
  simp only [t4, List.cons.injEq, Value.int.injEq, true_and, and_true]
  constructor
  · rintro ⟨a, b, c, d, e⟩; exact Prod.ext (Prod.ext a (Prod.ext b (Prod.ext c d))) e
  · rintro rfl; exact ⟨rfl, rfl, rfl, rfl, rfl⟩

theorem v4_shaped (q : Q) : shaped Try.prog 3 73 (v4 q) = true := by kernel_rfl
theorem t4_shaped (q : Q × Int) : shaped Try.prog 3 75 (t4 q) = true := by kernel_rfl

theorem eq73 {p q : Q} {c : Bool → Prop} (h : c (decide (p = q))) : eqAgg Try.prog 73 (v4 p) (v4 q) c :=
  eqAgg_of (m := 3) (D := 3) (by kernel_rfl) (v4_shaped p) (v4_shaped q) (by simp [v4_inj]) h
theorem eq75 {p q : Q × Int} {c : Bool → Prop} (h : c (decide (p = q))) : eqAgg Try.prog 75 (t4 p) (t4 q) c :=
  eqAgg_of (m := 3) (D := 3) (by kernel_rfl) (t4_shaped p) (t4_shaped q) (by simp [t4_inj]) h

/-! Class, the two addresses. -/
def isPort (x : Int) : Bool := decide (0 ≤ x ∧ x ≤ 65535)
def cls (x y : Int) : Bool := isPort x && isPort y && (decide (x < 1024) == decide (y < 1024)) && (x.tmod 2 == y.tmod 2)

/-- Where an address is in a list, or -1. -/
def idx (q : Q) (l : List Q) : Int := if q ∈ l then (l.idxOf q : Int) else -1

theorem idx_none {q : Q} {l : List Q} (h : ∀ j : Nat, l[j]? ≠ some q) : idx q l = -1 := by
  have : q ∉ l := fun hm => by obtain ⟨j, hj⟩ := List.mem_iff_getElem?.1 hm; exact h j hj
  simp [idx, this]
theorem idx_at {q : Q} {l : List Q} {i : Nat} (h : l[i]? = some q) (hn : ∀ j : Nat, j < i → l[j]? ≠ some q) : idx q l = i := by
  have hm : q ∈ l := List.mem_iff_getElem?.2 ⟨i, h⟩
  have hlt : l.idxOf q < l.length := List.idxOf_lt_length_of_mem hm
  have h1 : l[l.idxOf q]? = some q := by rw [List.getElem?_eq_getElem hlt]; simp
  have h2 : ¬ l.idxOf q < i := fun h' => hn _ h' h1
  have h3 : ¬ i < l.idxOf q := fun h' => by
    have := List.not_of_lt_findIdx (xs := l) (p := (· == q)) (i := i) h'
    have hi : i < l.length := by omega
    rw [List.getElem?_eq_getElem hi] at h
    simp at this h
    exact this h
  simp only [idx, hm, if_true]
  omega

end Go.Proofs

set_option linter.unusedVariables false
set_option maxRecDepth 20000
namespace Go.Proofs
open Go Go.HL

theorem dec5 {D : Nat} {cs : List Value} (h : wellS Try.prog D 5 cs = true) : ∃ n : Int, (0 ≤ n ∧ n ≤ 255) ∧ cs = [.int .u8 n] := by
  cases D with
  | zero => cases h
  | succ D =>
    unfold wellS at h
    rw [show Try.prog.underlying 5 = some (.int .u8) by kernel_rfl] at h
    simp only at h
    split at h
    · rename_i q n
      simp only [Bool.and_eq_true, decide_eq_true_eq] at h
      obtain ⟨rfl, hw⟩ := h
      exact ⟨n, (Go.Lit.wf_int_iff _ _).1 hw, rfl⟩
    · cases h
theorem dec3 {D : Nat} {cs : List Value} (h : wellS Try.prog D 3 cs = true) : ∃ n : Int, (-9223372036854775808 ≤ n ∧ n ≤ 9223372036854775807) ∧ cs = [.int .i64 n] := by
  cases D with
  | zero => cases h
  | succ D =>
    unfold wellS at h
    rw [show Try.prog.underlying 3 = some (.int .i64) by kernel_rfl] at h
    simp only at h
    split at h
    · rename_i q n
      simp only [Bool.and_eq_true, decide_eq_true_eq] at h
      obtain ⟨rfl, hw⟩ := h
      exact ⟨n, (Go.Lit.wf_int_iff _ _).1 hw, rfl⟩
    · cases h
theorem dec4 {D : Nat} {cs : List Value} (h : wellS Try.prog D 4 cs = true) : ∃ b : Bool, cs = [.bool b] := by
  cases D with
  | zero => cases h
  | succ D =>
    unfold wellS at h
    rw [show Try.prog.underlying 4 = some .bool by kernel_rfl] at h
    simp only at h
    split at h
    · exact ⟨_, rfl⟩
    · cases h

/-- Are the bytes of an address bytes? -/
def okQ (q : Q) : Prop := (0 ≤ q.1 ∧ q.1 ≤ 255) ∧ (0 ≤ q.2.1 ∧ q.2.1 ≤ 255) ∧ (0 ≤ q.2.2.1 ∧ q.2.2.1 ≤ 255) ∧ (0 ≤ q.2.2.2 ∧ q.2.2.2 ≤ 255)

theorem dec73 : ∀ (D : Nat) (cs : List Value), wellS Try.prog D 73 cs = true → ∃ q : Q, okQ q ∧ cs = v4 q := by
  intro D cs h
  cases D with
  | zero => cases h
  | succ D =>
    unfold wellS at h
    rw [show Try.prog.underlying 73 = some (.array 4 5) by kernel_rfl] at h
    simp only [show Try.prog.cellsOf 73 = 4 by kernel_rfl, show Try.prog.cellsOf 5 = 1 by kernel_rfl, Bool.and_eq_true, decide_eq_true_eq, List.all_eq_true, List.mem_range] at h
    obtain ⟨hl, he⟩ := h
    match cs, hl with
    | [c0, c1, c2, c3], _ =>
      obtain ⟨n0, r0, e0⟩ := dec5 (he 0 (by omega))
      obtain ⟨n1, r1, e1⟩ := dec5 (he 1 (by omega))
      obtain ⟨n2, r2, e2⟩ := dec5 (he 2 (by omega))
      obtain ⟨n3, r3, e3⟩ := dec5 (he 3 (by omega))
      simp at e0 e1 e2 e3
      subst e0; subst e1; subst e2; subst e3
      exact ⟨(n0, n1, n2, n3), ⟨r0, r1, r2, r3⟩, rfl⟩
end Go.Proofs

set_option linter.unusedVariables false
set_option maxRecDepth 20000
namespace Go.Proofs
open Go Go.HL
open Go.Exp (Th tlt swo_tlt Ord setW dropW insW takeWhile_two dropWhile_two)

theorem decI : ∀ (D : Nat) (cs : List Value), wellS Try.prog D 3 cs = true → ∃ x : Int, (-9223372036854775808 ≤ x ∧ x ≤ 9223372036854775807) ∧ cs = i1 x := fun D cs h => dec3 h
def okI (x : Int) : Prop := -9223372036854775808 ≤ x ∧ x ≤ 9223372036854775807

theorem row_frm {hl hp hl' hp' : HP} {s : Option Addr} {n c : Nat} {e : TypeId} {size : Nat} {xs : List Value} (hf : Frm hl hp hl' hp') (hrow : Row hp s n c e size xs) (hfr : ∀ b, s = some ⟨b, 0, none⟩ → hl b = .none) :
    Row hp' s n c e size xs ∧ ∀ b, s = some ⟨b, 0, none⟩ → hl' b = .none := by
  rcases hrow with ⟨r1, r2, r3, r4⟩ | ⟨b, r1, r2, r3, r4⟩
  · exact ⟨.inl ⟨r1, r2, r3, r4⟩, fun b e => by rw [r1] at e; cases e⟩
  · obtain ⟨f1, f2⟩ := hf (HP.only b _) (HSub.only r4) (Disj.only (hfr b r1))
    exact ⟨.inr ⟨b, r1, r2, r3, f1.of_only (by simp)⟩, fun b' e => by rw [r1] at e; cases e; exact f2.only_none (by simp)⟩

/-- More numbers behind. -/
theorem app_ints {hp : HP} {s a : Option Addr} {n c m c' : Nat} {xs ys : List Value} (hrow : Row hp s n c 3 1 xs) (ha : Shows hp a m 1 ys) (h1 : ys.all one = true) (hn : n + m ≤ 1000000) {K : Value → HP → Prop}
    (h : ∀ s2 c2 hp', Row hp' s2 (n + m) c2 3 1 (xs ++ ys) → (∀ h0 : HP, HSub h0 hp → (∀ b', s = some ⟨b', 0, none⟩ → h0 b' = .none) → HSub h0 hp' ∧ ∀ b', s2 = some ⟨b', 0, none⟩ → h0 b' = .none) → K (.slice s2 (n + m) c2) hp') :
    opS Try.prog (Builtin.append_ #[24, 24] 24 ⟨[.slice s n c, .slice a m c']⟩) hp K := by
  refine opS_app (e := 3) (size := 1) (bytes := 8) (by kernel_rfl) hrow ha h1 (by omega) (by omega) ?_
  intro s2 c2 hp' hrow' hup
  refine h s2 c2 hp' hrow' fun h0 hs0 hfr => ?_
  rcases hup with ⟨rfl, rfl⟩ | ⟨b', e', rfl, hb', rfl⟩
  · exact ⟨hs0, hfr⟩
  · have hn0 : h0 b' = .none := by
      rcases hb' with hb' | hb'
      · exact hs0.none hb'
      · exact hfr b' hb'
    exact ⟨hs0.up hn0 e', fun b'' e => by cases e; exact hn0⟩

theorem setW_len (id due : Int) (w : List Th) : (setW id due w).length ≤ w.length + 1 := by
  unfold setW
  rw [(Exp.insW_perm (id, due) (dropW id w)).length_eq, List.length_cons]
  have : (dropW id w).length ≤ w.length := List.length_filter_le _ _
  omega

section
variable {a0 a1 : Option Addr} {n0 c0 n1 c1 : Nat} {xs cs : List Int} {en : Int} {hp0 : HP} {K : Value → HP → Prop}

theorem int_at {hp : HP} {b o i : Nat} {x : Int} (h : hp.cellN b (o + i * 1) 1 = some (i1 x)) : hp.cell b (o + i * 1) = some (.int .i64 x) := by
  have := HP.cell_cellN (j := 0) h (v := .int .i64 x) rfl; simpa using this

theorem C5 (hs0 : Shows hp0 a0 n0 1 (xs.flatMap i1)) (hl0 : xs.length = n0) (hs1 : Shows hp0 a1 n1 1 (cs.flatMap i1)) (hl1 : cs.length = n1) (h : K (.bool true) hp0) :
    CF Try.prog 5 [.slice a0 n0 c0, .slice a1 n1 c1, .int .i64 en] hp0 K := by
  refine CF.drop (F5_ok a0 n0 c0 a1 n1 c1 en hp0 _ ?_)
  unfold F5
  have hk : ∀ hp', HSub hp0 hp' → CF Try.prog 28 [] hp' fun u h => boolV u fun q => ∃ hp'', HSub hp'' h ∧ K (.bool q) hp'' := by
    intro hp' hs
    refine C28 fun hp2 h2 => ?_
    rw [boolV_bool]
    exact ⟨hp0, hs.trans h2, h⟩
  have pp : ∀ (p : Nat) (c : Option Addr → Prop), ptrV (ptr p 0) c = c (some ⟨p, 0, none⟩) := fun _ _ => rfl
  have tail : n0 ≤ 200 → n1 ≤ 60 → F5_j1 a0 n0 c0 a1 n1 c1 en false hp0 (fun v hp' => ∃ hp'', HL.HSub hp'' hp' ∧ K v hp'') := by
    intro h200 h60
    unfold F5_j1
    rw [ite2_false]
    refine N29 fun qa la hp1 hQa sa fa => ?_
    obtain ⟨g1, da⟩ := fa hp0 (HSub.refl _)
    rw [pp]
    refine N29 fun qb lb hp2 hQb sb fb => ?_
    obtain ⟨g2, db⟩ := fb hp0 g1
    obtain ⟨sa2, dab⟩ := fb la sa
    rw [pp]
    -- the end
    have third : ∀ (la lb hp : HP) (wa w got : List Th) (s : Option Addr) (c : Nat), QW la qa wa → QW lb qb w → HSub la hp → HSub lb hp → Disj la lb → HSub hp0 hp → Disj la hp0 → Disj lb hp0 →
        Row hp s got.length c 3 1 (got.flatMap idv) → (∀ b, s = some ⟨b, 0, none⟩ → la b = .none ∧ lb b = .none ∧ hp0 b = .none) →
        got ++ wa.takeWhile (fun t => decide (t.2 ≤ en)) = w.takeWhile (fun t => decide (t.2 ≤ en)) → wa.dropWhile (fun t => decide (t.2 ≤ en)) = w.dropWhile (fun t => decide (t.2 ≤ en)) → w.length ≤ 200 → wa.length ≤ 200 →
        F5_j3 en (some ⟨qa, 0, none⟩) (some ⟨qb, 0, none⟩) s got.length c hp (fun v hp' => ∃ hp'', HL.HSub hp'' hp' ∧ K v hp'') := by
      intro la lb hp wa w got s c hQa hQb sa sb dab s0 da0 db0 hrow hfr e1 e2 hw hwa
      have htl : (wa.takeWhile (fun t => decide (t.2 ≤ en))).length ≤ wa.length := (List.takeWhile_sublist _).length_le
      have hgl : got.length ≤ w.length := by
        have h1 := congrArg List.length e1
        have h2 : (w.takeWhile (fun t => decide (t.2 ≤ en))).length ≤ w.length := (List.takeWhile_sublist _).length_le
        rw [List.length_append] at h1; omega
      unfold F5_j3
      refine N31 sa hQa (by omega) fun la2 hp3 s2 c2 hQa2 sa2 hrow2 hfr2 f2 => ?_
      obtain ⟨k0, d0, n0'⟩ := f2 hp0 s0 da0
      obtain ⟨kb, db2, nb⟩ := f2 lb sb dab
      obtain ⟨hrow3, hfr3⟩ := row_frm (fun r hr hd => ⟨(f2 r hr hd).1, (f2 r hr hd).2.1⟩) hrow fun b hb => (hfr b hb).1
      rw [slcV_slice]
      refine app_ints hrow3 hrow2.shows (all_flat idv_one _) (by omega) ?_
      intro s4 c4 hp4 hrow4 hf4
      obtain ⟨u1, v1⟩ := hf4 la2 sa2 hfr3
      obtain ⟨u2, v2⟩ := hf4 lb kb fun b hb => (hfr b hb).2.1
      obtain ⟨u3, v3⟩ := hf4 hp0 k0 fun b hb => (hfr b hb).2.2
      rw [← List.flatMap_append, e1] at hrow4
      have hlen : got.length + (wa.takeWhile (fun t => decide (t.2 ≤ en))).length = (w.takeWhile (fun t => decide (t.2 ≤ en))).length := by rw [← e1, List.length_append]
      rw [hlen] at hrow4 ⊢
      rw [slcV_slice]
      refine N31 u2 hQb (by omega) fun lb2 hp5 s5 c5 hQb2 sb2 hrow5 hfr5 f5 => ?_
      obtain ⟨k05, d05, _⟩ := f5 hp0 u3 db0
      obtain ⟨ka5, dab5, _⟩ := f5 la2 u1 db2.symm
      obtain ⟨hrow6, hfr6⟩ := row_frm (fun r hr hd => ⟨(f5 r hr hd).1, (f5 r hr hd).2.1⟩) hrow4 v2
      rw [slcV_slice]
      have hwt : (w.takeWhile (fun t => decide (t.2 ≤ en))).length ≤ w.length := (List.takeWhile_sublist _).length_le
      rw [idv_i1] at hrow6 hrow5
      refine C32 hrow6.shows hrow5.shows (by simp) (by simp) (by omega) ?_
      rw [boolV_bool, decide_eq_true rfl, ite2_true]
      have hdl : (wa.dropWhile (fun t => decide (t.2 ≤ en))).length ≤ wa.length := (List.dropWhile_sublist _).length_le
      refine C33 (hQa2.sub ka5) (by omega) fun hp7 s7 c7 g7 hrow7 hfr7 => ?_
      rw [slcV_slice]
      have hdw : (w.dropWhile (fun t => decide (t.2 ≤ en))).length ≤ w.length := (List.dropWhile_sublist _).length_le
      refine C33 (hQb2.sub (sb2.trans g7)) (by omega) fun hp8 s8 c8 g8 hrow8 hfr8 => ?_
      rw [slcV_slice]
      have hrow7' := hrow7.sub g8
      rw [idv_i1] at hrow7' hrow8
      refine C32 hrow7'.shows hrow8.shows (by simp) (by simp) (by omega) ?_
      rw [boolV_bool, decide_eq_true (by rw [e2]), ite2_true]
      exact hk hp8 (k05.trans (g7.trans g8))
    -- the clocks
    have second : ∀ (la lb hp : HP) (w : List Th), QW la qa w → QW lb qb w → HSub la hp → HSub lb hp → Disj la lb → HSub hp0 hp → Disj la hp0 → Disj lb hp0 → w.length ≤ 200 →
        F5_j2 a1 n1 c1 en (some ⟨qa, 0, none⟩) (some ⟨qb, 0, none⟩) hp (fun v hp' => ∃ hp'', HL.HSub hp'' hp' ∧ K v hp'') := by
      intro la lb hp w hQa hQb sa sb dab s0 da0 db0 hw
      unfold F5_j2 F5_j4
      refine LoopP.by (J := fun k (st : Option Addr × Nat × Nat × Int × Int) hp => ∃ (la lb : HP) (wa got : List Th) (i : Nat), st.2.2.2.2 = i ∧ i + k = n1 ∧ QW la qa wa ∧ QW lb qb w ∧ HSub la hp ∧ HSub lb hp ∧ Disj la lb ∧ HSub hp0 hp ∧ Disj la hp0 ∧ Disj lb hp0 ∧
          Row hp st.1 st.2.1 st.2.2.1 3 1 (got.flatMap idv) ∧ st.2.1 = got.length ∧ (∀ b, st.1 = some ⟨b, 0, none⟩ → la b = .none ∧ lb b = .none ∧ hp0 b = .none) ∧
          got ++ wa.takeWhile (fun t => decide (t.2 ≤ en)) = w.takeWhile (fun t => decide (t.2 ≤ en)) ∧ wa.dropWhile (fun t => decide (t.2 ≤ en)) = w.dropWhile (fun t => decide (t.2 ≤ en)) ∧ wa.length ≤ 200) ?_
        (n := n1) ⟨la, lb, w, [], 0, rfl, by omega, hQa, hQb, sa, sb, dab, s0, da0, db0, .inl ⟨rfl, rfl, rfl, rfl⟩, rfl, (fun b e => by cases e), rfl, rfl, hw⟩
      clear hQa hQb sa sb dab s0 da0 db0
      rintro I k ⟨s, ng, c, now, x⟩ hp ⟨la, lb, wa, got, i, hx, hik, hQa, hQb, sa, sb, dab, s0, da0, db0, hrow, hng, hfr, e1, e2, hwa⟩ hI
      simp only at hx hrow hng hfr
      subst hx hng
      unfold F5_l5
      simp only []
      by_cases hi : i < n1
      rotate_left
      · rw [decide_eq_false (by omega : ¬ (i : Int) < (n1 : Int)), ite2_false]
        exact third la lb hp wa w got s c hQa hQb sa sb dab s0 da0 db0 hrow hfr e1 e2 hw hwa
      rw [decide_eq_true (by omega : (i : Int) < (n1 : Int)), ite2_true]
      obtain ⟨b1, o1, rfl, hc1⟩ := (hs1.sub s0).get i1_len hl1 hi
      have g1 := int_at hc1
      generalize cs[i]'(hl1 ▸ hi) = clk at g1 hc1
      simp only [ptrN_some, Int.toNat_natCast, g1, ldV_some, intV_int]
      refine ⟨by omega, by omega, ?_⟩
      have w1 : IntKind.wrap .i64 ((i : Int) + 1) = ((i + 1 : Nat) : Int) := wi (by omega) (by omega)
      have skip : F5_j7 (some ⟨b1, o1, none⟩) n1 c1 en (some ⟨qa, 0, none⟩) (some ⟨qb, 0, none⟩) s got.length c now i false hp I (fun v hp' => ∃ hp'', HL.HSub hp'' hp' ∧ K v hp'') := by
        unfold F5_j7 F5_j6
        rw [ite2_false, w1]
        exact hI (k - 1) _ _ (by omega) ⟨la, lb, wa, got, i + 1, rfl, by omega, hQa, hQb, sa, sb, dab, s0, da0, db0, hrow, rfl, hfr, e1, e2, hwa⟩
      cases decide (clk > now)
      · rw [ite2_false]; exact skip
      rw [ite2_true]
      refine ⟨by omega, by omega, ?_⟩
      cases hce : decide (clk ≤ en)
      · exact skip
      have hce' : clk ≤ en := by simpa using hce
      unfold F5_j7
      rw [ite2_true]
      simp only [ptrN_some, Int.toNat_natCast, g1, ldV_some, intV_int]
      refine ⟨by omega, by omega, ?_⟩
      have htl : (wa.takeWhile (fun t => decide (t.2 ≤ clk))).length ≤ wa.length := (List.takeWhile_sublist _).length_le
      have hdl : (wa.dropWhile (fun t => decide (t.2 ≤ clk))).length ≤ wa.length := (List.dropWhile_sublist _).length_le
      have hgl : got.length ≤ w.length := by
        have h1 := congrArg List.length e1
        have h2 : (w.takeWhile (fun t => decide (t.2 ≤ en))).length ≤ w.length := (List.takeWhile_sublist _).length_le
        rw [List.length_append] at h1; omega
      refine N31 sa hQa (by omega) fun la2 hp3 s2 c2 hQa2 sa2 hrow2 hfr2 f2 => ?_
      obtain ⟨k0, d0, _⟩ := f2 hp0 s0 da0
      obtain ⟨kb, db2, _⟩ := f2 lb sb dab
      obtain ⟨hrow3, hfr3⟩ := row_frm (fun r hr hd => ⟨(f2 r hr hd).1, (f2 r hr hd).2.1⟩) hrow fun b hb => (hfr b hb).1
      rw [slcV_slice]
      refine app_ints hrow3 hrow2.shows (all_flat idv_one _) (by omega) ?_
      intro s4 c4 hp4 hrow4 hf4
      obtain ⟨u1, v1⟩ := hf4 la2 sa2 hfr3
      obtain ⟨u2, v2⟩ := hf4 lb kb fun b hb => (hfr b hb).2.1
      obtain ⟨u3, v3⟩ := hf4 hp0 k0 fun b hb => (hfr b hb).2.2
      rw [slcV_slice]
      unfold F5_j6
      rw [w1]
      have hpq : ∀ t : Th, decide (t.2 ≤ clk) = true → decide (t.2 ≤ en) = true := fun t ht => by
        rw [decide_eq_true_iff] at ht ⊢; omega
      refine hI (k - 1) _ _ (by omega) ⟨la2, lb, wa.dropWhile (fun t => decide (t.2 ≤ clk)), got ++ wa.takeWhile (fun t => decide (t.2 ≤ clk)), i + 1, rfl, by omega, hQa2, hQb, u1, u2, db2, u3, d0, db0, ?_, by simp, fun b hb => ⟨v1 b hb, v2 b hb, v3 b hb⟩, ?_, ?_, by omega⟩
      · rw [List.flatMap_append]; exact hrow4
      · rw [List.append_assoc, ← takeWhile_two hpq wa]; exact e1
      · rw [← dropWhile_two hpq wa]; exact e2
    -- the things
    unfold F5_j8
    refine LoopP.by (J := fun k (x : Int) hp => ∃ (la lb : HP) (w : List Th) (i : Nat), x = i ∧ i + k = n0 ∧ QW la qa w ∧ QW lb qb w ∧ HSub la hp ∧ HSub lb hp ∧ Disj la lb ∧ HSub hp0 hp ∧ Disj la hp0 ∧ Disj lb hp0 ∧ w.length ≤ i) ?_
      (n := n0) ⟨la, lb, [], 0, rfl, by omega, hQa, hQb, sa2, sb, dab.symm, g2, da, db, Nat.le_refl _⟩
    clear hQa hQb sa sb sa2 dab g1 g2 da db fa fb
    rintro I k x hp ⟨la, lb, w, i, rfl, hik, hQa, hQb, sa, sb, dab, s0, da0, db0, hw⟩ hI
    unfold F5_l9
    by_cases hi : i < n0
    rotate_left
    · rw [decide_eq_false (by omega : ¬ (i : Int) < (n0 : Int)), ite2_false]
      exact second la lb hp w hQa hQb sa sb dab s0 da0 db0 (by omega)
    rw [decide_eq_true (by omega : (i : Int) < (n0 : Int)), ite2_true]
    have hread : ∀ hp', HSub hp0 hp' → ∃ b o, a0 = some ⟨b, o, none⟩ ∧ hp'.cell b (o + i * 1) = some (.int .i64 (xs[i]'(hl0 ▸ hi))) := fun hp' s' => by
      obtain ⟨b, o, e, hc⟩ := (hs0.sub s').get i1_len hl0 hi
      exact ⟨b, o, e, int_at hc⟩
    generalize xs[i]'(hl0 ▸ hi) = due at hread
    obtain ⟨b0, o0, ha0, g0⟩ := hread hp s0
    have hread' : ∀ hp', HSub hp0 hp' → hp'.cell b0 (o0 + i * 1) = some (.int .i64 due) := fun hp' s' => by
      obtain ⟨b, o, e, hc⟩ := hread hp' s'
      rw [ha0] at e; cases e; exact hc
    rw [ha0]
    have w1 : IntKind.wrap .i64 ((i : Int) + 1) = ((i + 1 : Nat) : Int) := wi (by omega) (by omega)
    -- both are set
    have last : ∀ (la lb hp1 : HP) (w' : List Th) (v : Int), QW la qa w' → QW lb qb w' → HSub la hp1 → HSub lb hp1 → Disj la lb → HSub hp0 hp1 → Disj la hp0 → Disj lb hp0 → w'.length ≤ i + 1 →
        F5_j10 (some ⟨b0, o0, none⟩) n0 c0 a1 n1 c1 en (some ⟨qa, 0, none⟩) (some ⟨qb, 0, none⟩) i (v != v) hp1 I (fun v hp' => ∃ hp'', HL.HSub hp'' hp' ∧ K v hp'') := by
      intro la lb hp1 w' v h1 h2 h3 h4 h5 h6 h7 h8 h9
      unfold F5_j10
      have e : (v != v) = false := by simp
      rw [e, ite2_false, w1]
      exact hI (k - 1) _ _ (by omega) ⟨la, lb, w', i + 1, rfl, by omega, h1, h2, h3, h4, h5, h6, h7, h8, h9⟩
    have sl := setW_len (i : Int) due w
    have step2 : ∀ (la' hp1 : HP) (v : Int) (w1' : List Th), (badDue due → v = 1 ∧ w1' = w) → (¬ badDue due → v = 0 ∧ w1' = setW i due w) → QW la' qa w1' → HSub la' hp1 → HSub lb hp1 → Disj la' lb → HSub hp0 hp1 → Disj la' hp0 →
        CF Try.prog 30 [.pointer (some ⟨qb, 0, none⟩), .int .i64 i, .int .i64 due] hp1 fun u_77 h_78 => intV u_77 .i64 fun i_79 => F5_j10 (some ⟨b0, o0, none⟩) n0 c0 a1 n1 c1 en (some ⟨qa, 0, none⟩) (some ⟨qb, 0, none⟩) i ((v : Int) != i_79) h_78 I (fun v hp' => ∃ hp'', HL.HSub hp'' hp' ∧ K v hp'') := by
      intro la' hp1 v w1' hv1 hv2 hQa1 sa1 sb1 dab1 s01 da1
      refine N30 sb1 hQb (by omega) fun v' lb' hp2 w2' hv1' hv2' hQb2 sb2 fb2 => ?_
      obtain ⟨t1, t2⟩ := fb2 la' sa1 dab1.symm
      obtain ⟨t3, t4⟩ := fb2 hp0 s01 db0
      rw [intV_int]
      by_cases hbd : badDue due
      · obtain ⟨rfl, rfl⟩ := hv1 hbd
        obtain ⟨rfl, rfl⟩ := hv1' hbd
        exact last la' lb' hp2 _ 1 hQa1 hQb2 t1 sb2 t2.symm t3 da1 t4 (by omega)
      · obtain ⟨rfl, rfl⟩ := hv2 hbd
        obtain ⟨rfl, rfl⟩ := hv2' hbd
        exact last la' lb' hp2 _ 0 hQa1 hQb2 t1 sb2 t2.symm t3 da1 t4 (by omega)
    refine ⟨?_, ?_⟩
    · simp only [ptrN_some, Int.toNat_natCast, g0, ldV_some, intV_int]
      refine ⟨by omega, by omega, ?_⟩
      refine N30 sa hQa (by omega) fun v la' hp1 w1' hv1 hv2 hQa1 sa1 fa1 => ?_
      obtain ⟨t1, t2⟩ := fa1 lb sb dab
      obtain ⟨t3, t4⟩ := fa1 hp0 s0 da0
      rw [intV_int]
      refine ⟨by omega, by omega, ?_⟩
      rw [hread' hp1 t3]
      simp only [ldV_some, intV_int]
      exact step2 la' hp1 v w1' hv1 hv2 hQa1 sa1 t1 t2 t3 t4
    · simp only [ptrN_some, Int.toNat_natCast, g0, ldV_some, intV_int]
      refine ⟨by omega, by omega, by omega, by omega, ?_⟩
      refine N30 sa hQa (by omega) fun v la' hp1 w1' hv1 hv2 hQa1 sa1 fa1 => ?_
      obtain ⟨t1, t2⟩ := fa1 lb sb dab
      obtain ⟨t3, t4⟩ := fa1 hp0 s0 da0
      rw [intV_int]
      exact step2 la' hp1 v w1' hv1 hv2 hQa1 sa1 t1 t2 t3 t4
  by_cases h200 : n0 > 200
  · rw [decide_eq_true (by omega : ((n0 : Nat) : Int) > 200), ite2_true]
    unfold F5_j1
    rw [ite2_true]
    exact hk hp0 (HSub.refl _)
  · rw [decide_eq_false (by omega : ¬ ((n0 : Nat) : Int) > 200), ite2_false]
    by_cases h60 : n1 > 60
    · rw [decide_eq_true (by omega : ((n1 : Nat) : Int) > 60)]
      unfold F5_j1
      rw [ite2_true]
      exact hk hp0 (HSub.refl _)
    · rw [decide_eq_false (by omega : ¬ ((n1 : Nat) : Int) > 60)]
      exact tail (by omega) (by omega)
end
end Go.Proofs

