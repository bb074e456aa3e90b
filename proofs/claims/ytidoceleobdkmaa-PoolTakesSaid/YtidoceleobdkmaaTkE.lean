/- Parts of the proof of TakesProof: the logic of what is known of memory, functions' contracts. -/
import Derived.Test.YtidoceleobdkmaaTkD
import Derived.Test.YtidoceleobdkmaaHlAbb
import Derived.Test.YtidoceleobdkmaaProg
set_option linter.unusedVariables false
set_option maxRecDepth 20000
namespace Go.Proofs
open Go Go.HL
-- 10 interpreter/interpreterlaw18.PoolTakes
theorem F10_r0 (e : Env) (hp : HP) (K : Env → PV → HP → Prop) : RW Try.prog 229 [12, 16, 56, 76, 77, 79, 80, 82, 113, 119, 125, 129, 130, 132, 149, 154, 157, 158, 165, 173, 174, 178, 180, 181, 191, 194, 195, 202, 203, 213, 219, 225] (opsAt Try.f10 [0]) (List.range 1) e V0 hp K =
    (K (upd e 8 (sB (false))) V0 hp) := by kernel_rfl
theorem F10_r1 (e : Env) (hp : HP) (K : Env → PV → HP → Prop) : RW Try.prog 229 [12, 16, 56, 76, 77, 79, 80, 82, 113, 119, 125, 129, 130, 132, 149, 154, 157, 158, 165, 173, 174, 178, 180, 181, 191, 194, 195, 202, 203, 213, 219, 225] (opsAt Try.f10 [1, 0, 1, 0, 0]) (List.range 2) e V0 hp K =
    (CF Try.prog 21 [] hp fun u1 h2 => (boolV u1 fun q3 => (K (upd (upd e 31 (sB (q3))) 8 (sB (q3))) V0 h2))) := by kernel_rfl
theorem F10_r2 (e : Env) (x0a : Option Addr) (x0n : Nat) (x0c : Nat) (x1 : Int) (x2 : Int) (hp : HP) (K : Env → PV → HP → Prop) : RW Try.prog 229 [12, 16, 56, 76, 77, 79, 80, 82, 113, 119, 125, 129, 130, 132, 149, 154, 157, 158, 165, 173, 174, 178, 180, 181, 191, 194, 195, 202, 203, 213, 219, 225] (opsAt Try.f10 [1, 1, 0]) (List.range 9) (upd (upd (upd e 2 (sI (x2))) 1 (sI (x1))) 0 (sV (Value.slice x0a x0n x0c))) V0 hp K =
    (CF Try.prog 44 [(Value.slice x0a x0n x0c), (Value.int .i64 x1), (Value.int .i64 x2)] hp fun u1 h2 => (tup2V u1 fun u3 u4 => (ptrV u3 fun p5 => (intV u4 .i64 fun i6 => (K (upd (upd (upd (upd (upd (upd (upd (upd (upd (upd (upd (upd e 2 (sI (x2))) 1 (sI (x1))) 0 (sV (Value.slice x0a x0n x0c))) 33 (sV (Value.slice x0a x0n x0c))) 34 (sI (x1))) 35 (sI (x2))) 36 (sV (Value.tuple ⟨[(Value.pointer p5), (Value.int .i64 i6)]⟩))) 32 (sV (Value.tuple ⟨[(Value.pointer p5), (Value.int .i64 i6)]⟩))) 37 (sV (Value.pointer p5))) 38 (sI (i6))) 9 (sV (Value.pointer p5))) 10 (sI (i6))) V0 h2))))) := by kernel_rfl
theorem F10_r3 (e : Env) (x10 : Int) (hp : HP) (K : Env → PV → HP → Prop) : RW Try.prog 229 [12, 16, 56, 76, 77, 79, 80, 82, 113, 119, 125, 129, 130, 132, 149, 154, 157, 158, 165, 173, 174, 178, 180, 181, 191, 194, 195, 202, 203, 213, 219, 225] (opsAt Try.f10 [1, 1, 1, 0, 0]) (List.range 2) (upd e 10 (sI (x10))) V0 hp K =
    (K (upd (upd (upd e 10 (sI (x10))) 39 (sI (x10))) 40 (sB (((x10 : Int) != 0)))) V0 hp) := by kernel_rfl
theorem F10_r4 (e : Env) (x9 : Option Addr) (hp : HP) (K : Env → PV → HP → Prop) : RW Try.prog 229 [12, 16, 56, 76, 77, 79, 80, 82, 113, 119, 125, 129, 130, 132, 149, 154, 157, 158, 165, 173, 174, 178, 180, 181, 191, 194, 195, 202, 203, 213, 219, 225] (opsAt Try.f10 [1, 1, 1, 0, 1, 0, 0]) (List.range 6) (upd e 9 (sV (Value.pointer x9))) V0 hp K =
    (ite2 (Option.isNone x9) (CF Try.prog 21 [] hp fun u1 h2 => (boolV u1 fun q3 => (K (upd (upd (upd (upd (upd (upd (upd e 9 (sV (Value.pointer x9))) 41 (sV (Value.pointer x9))) 42 (sB ((Option.isNone x9)))) 43 (sB (true))) 44 (sB (q3))) 45 (sB (q3))) 8 (sB (q3))) V0 h2))) (K (upd (upd (upd (upd (upd (upd (upd e 9 (sV (Value.pointer x9))) 41 (sV (Value.pointer x9))) 42 (sB ((Option.isNone x9)))) 43 (sB (false))) 44 (sV undef)) 45 (sB (false))) 8 (sB (false))) V0 hp)) := by kernel_rfl
theorem F10_r5 (e : Env) (hp : HP) (K : Env → PV → HP → Prop) : RW Try.prog 229 [12, 16, 56, 76, 77, 79, 80, 82, 113, 119, 125, 129, 130, 132, 149, 154, 157, 158, 165, 173, 174, 178, 180, 181, 191, 194, 195, 202, 203, 213, 219, 225] (opsAt Try.f10 [1, 1, 1, 1, 1, 0]) (List.range 2) e V0 hp K =
    (CF Try.prog 21 [] hp fun u1 h2 => (boolV u1 fun q3 => (K (upd (upd e 228 (sB (q3))) 8 (sB (q3))) V0 h2))) := by kernel_rfl
def F10_j2 (hp : HP) (K : Value → HP → Prop) : Prop :=
  (CF Try.prog 21 [] hp fun u_13 h_14 => (boolV u_13 fun q_15 => (K (Value.bool q_15) h_14)))
theorem F10_r6 (e : Env) (x3a : Option Addr) (x3n : Nat) (x3c : Nat) (x11 : Int) (hp : HP) (K : Env → PV → HP → Prop) : RW Try.prog 229 [12, 16, 56, 76, 77, 79, 80, 82, 113, 119, 125, 129, 130, 132, 149, 154, 157, 158, 165, 173, 174, 178, 180, 181, 191, 194, 195, 202, 203, 213, 219, 225] (opsAt Try.f10 [1, 1, 1, 1, 0, 1, 0, 0, 0, 0]) (List.range 4) (upd (upd e 11 (sI (x11))) 3 (sV (Value.slice x3a x3n x3c))) V0 hp K =
    (K (upd (upd (upd (upd (upd (upd e 11 (sI (x11))) 3 (sV (Value.slice x3a x3n x3c))) 46 (sI (x11))) 47 (sV (Value.slice x3a x3n x3c))) 48 (sI ((x3n : Nat)))) 49 (sB ((decide ((x11 : Int) < (x3n : Nat)))))) V0 hp) := by kernel_rfl
theorem F10_r7 (e : Env) (x11 : Int) (hp : HP) (K : Env → PV → HP → Prop) : RW Try.prog 229 [12, 16, 56, 76, 77, 79, 80, 82, 113, 119, 125, 129, 130, 132, 149, 154, 157, 158, 165, 173, 174, 178, 180, 181, 191, 194, 195, 202, 203, 213, 219, 225] (opsAt Try.f10 [1, 1, 1, 1, 0, 1, 0, 0, 1, 1]) (List.range 3) (upd e 11 (sI (x11))) V0 hp K =
    (K (upd (upd (upd (upd e 11 (sI (x11))) 50 (sI (x11))) 51 (sI ((IntKind.wrap .i64 (x11 + 1))))) 11 (sI ((IntKind.wrap .i64 (x11 + 1))))) V0 hp) := by kernel_rfl
def F10_j5 (x1 : Int) (x2 : Int) (x3a : Option Addr) (x3n : Nat) (x3c : Nat) (x9 : Option Addr) (x11 : Int) (hp : HP) (I4 : (Int) → HP → Prop) (K : Value → HP → Prop) : Prop :=
  (I4 (IntKind.wrap .i64 (x11 + 1)) hp)
theorem F10_r8 (e : Env) (x3a : Option Addr) (x3n : Nat) (x3c : Nat) (x11 : Int) (hp : HP) (K : Env → PV → HP → Prop) : RW Try.prog 229 [12, 16, 56, 76, 77, 79, 80, 82, 113, 119, 125, 129, 130, 132, 149, 154, 157, 158, 165, 173, 174, 178, 180, 181, 191, 194, 195, 202, 203, 213, 219, 225] (opsAt Try.f10 [1, 1, 1, 1, 0, 1, 0, 0, 1, 0, 0, 0]) (List.range 6) (upd (upd e 11 (sI (x11))) 3 (sV (Value.slice x3a x3n x3c))) V0 hp K =
    ((0 ≤ (x11 : Int)) ∧ ((x11 : Int) < (x3n : Nat)) ∧ (ptrN x3a fun b1 o2 => (ldL (HP.cellN hp b1 (o2 + Int.toNat x11 * 7) 7) fun l3 => (if List.length l3 = 7 then (if List.all l3 one = true then (if 0 + List.length l3 ≤ List.length [(Value.int .u8 0), (Value.int .u8 0), (Value.int .u8 0), (Value.int .u8 0), (Value.int .u8 0), (Value.int .i64 0), (Value.bool false)] then (K (upd (upd (upd (upd (upd (upd (upd e 11 (sI (x11))) 3 (sV (Value.slice x3a x3n x3c))) 52 (sV (Value.slice x3a x3n x3c))) 53 (sI (x11))) 54 (sV (ptr b1 (o2 + Int.toNat x11 * 7)))) 55 (sV (Value.agg ⟨l3⟩))) 12 (SV.priv 12 0)) (upd (upd V0 12 (77, [(Value.int .u8 0), (Value.int .u8 0), (Value.int .u8 0), (Value.int .u8 0), (Value.int .u8 0), (Value.int .i64 0), (Value.bool false)])) 12 (77, (splice [(Value.int .u8 0), (Value.int .u8 0), (Value.int .u8 0), (Value.int .u8 0), (Value.int .u8 0), (Value.int .i64 0), (Value.bool false)] 0 l3))) hp) else False) else False) else False)))) := by kernel_rfl
theorem F10_r9 (e : Env) (k12 : List Value) (hp : HP) (K : Env → PV → HP → Prop) : RW Try.prog 229 [12, 16, 56, 76, 77, 79, 80, 82, 113, 119, 125, 129, 130, 132, 149, 154, 157, 158, 165, 173, 174, 178, 180, 181, 191, 194, 195, 202, 203, 213, 219, 225] (opsAt Try.f10 [1, 1, 1, 1, 0, 1, 0, 0, 1, 0, 0, 1, 0]) (List.range 2) (upd e 12 (SV.priv 12 0)) (upd V0 12 (77, k12)) hp K =
    (ldV (k12)[0]? fun v1 => (intV v1 .u8 fun i2 => (K (upd (upd (upd e 12 (SV.priv 12 0)) 56 (SV.priv 12 0)) 57 (sV (Value.int .u8 i2))) (upd V0 12 (77, k12)) hp))) := by kernel_rfl
theorem F10_r10 (e : Env) (x57 : Int) (k12 : List Value) (hp : HP) (K : Env → PV → HP → Prop) : RW Try.prog 229 [12, 16, 56, 76, 77, 79, 80, 82, 113, 119, 125, 129, 130, 132, 149, 154, 157, 158, 165, 173, 174, 178, 180, 181, 191, 194, 195, 202, 203, 213, 219, 225] (opsAt Try.f10 [1, 1, 1, 1, 0, 1, 0, 0, 1, 0, 0, 1, 1, 0, 0]) (List.range 2) (upd e 57 (sV (Value.int .u8 x57))) (upd V0 12 (77, k12)) hp K =
    (K (upd (upd (upd e 57 (sV (Value.int .u8 x57))) 59 (sB (((x57 : Int) == 0)))) 58 (sB (((x57 : Int) == 0)))) (upd V0 12 (77, k12)) hp) := by kernel_rfl
theorem F10_r11 (e : Env) (k12 : List Value) (hp : HP) (K : Env → PV → HP → Prop) : RW Try.prog 229 [12, 16, 56, 76, 77, 79, 80, 82, 113, 119, 125, 129, 130, 132, 149, 154, 157, 158, 165, 173, 174, 178, 180, 181, 191, 194, 195, 202, 203, 213, 219, 225] (opsAt Try.f10 [1, 1, 1, 1, 0, 1, 0, 0, 1, 0, 0, 1, 1, 0, 1, 0, 0]) (List.range 2) e (upd V0 12 (77, k12)) hp K =
    (∀ b1 : Nat, hp b1 = .none → (K (upd (upd e 60 (sV (Value.map (some b1)))) 13 (sV (Value.map (some b1)))) (upd V0 12 (77, k12)) (HP.set hp b1 (.obj (.map #[] 0))))) := by kernel_rfl
theorem F10_r12 (e : Env) (x9 : Option Addr) (k12 : List Value) (hp : HP) (K : Env → PV → HP → Prop) : RW Try.prog 229 [12, 16, 56, 76, 77, 79, 80, 82, 113, 119, 125, 129, 130, 132, 149, 154, 157, 158, 165, 173, 174, 178, 180, 181, 191, 194, 195, 202, 203, 213, 219, 225] (opsAt Try.f10 [1, 1, 1, 1, 0, 1, 0, 0, 1, 0, 0, 1, 1, 0, 1, 0, 1, 0]) (List.range 3) (upd e 9 (sV (Value.pointer x9))) (upd V0 12 (77, k12)) hp K =
    (CF Try.prog 45 [(Value.pointer x9)] hp fun u1 h2 => (slcV u1 fun a3 n4 c5 => (K (upd (upd (upd (upd e 9 (sV (Value.pointer x9))) 61 (sV (Value.pointer x9))) 62 (sV (Value.slice a3 n4 c5))) 14 (sV (Value.slice a3 n4 c5))) (upd V0 12 (77, k12)) h2))) := by kernel_rfl
theorem F10_r13 (e : Env) (x9 : Option Addr) (k12 : List Value) (hp : HP) (K : Env → PV → HP → Prop) : RW Try.prog 229 [12, 16, 56, 76, 77, 79, 80, 82, 113, 119, 125, 129, 130, 132, 149, 154, 157, 158, 165, 173, 174, 178, 180, 181, 191, 194, 195, 202, 203, 213, 219, 225] (opsAt Try.f10 [1, 1, 1, 1, 0, 1, 0, 0, 1, 0, 0, 1, 1, 0, 1, 0, 1, 1, 1, 0]) (List.range 16) (upd (upd e 12 (SV.priv 12 0)) 9 (sV (Value.pointer x9))) (upd V0 12 (77, k12)) hp K =
    (ldL (cellsN k12 1 4) fun l1 => (ldV (k12)[5]? fun v2 => (intV v2 .i64 fun i3 => (ldV (k12)[6]? fun v4 => (boolV v4 fun q5 => (CF Try.prog 46 [(Value.pointer x9), (Value.agg ⟨l1⟩), (Value.int .i64 i3), (Value.bool q5)] hp fun u6 h7 => (tup2V u6 fun u8 u9 => (aggV u8 fun l10 => (intV u9 .i64 fun i11 => (if List.length l10 = 5 then (if List.all l10 one = true then (if 0 + List.length l10 ≤ List.length [(Value.int .u8 0), (Value.int .u8 0), (Value.int .u8 0), (Value.int .u8 0), (Value.int .i64 0)] then (K (upd (upd (upd (upd (upd (upd (upd (upd (upd (upd (upd (upd (upd (upd (upd (upd (upd e 12 (SV.priv 12 0)) 9 (sV (Value.pointer x9))) 75 (sV (Value.pointer x9))) 76 (SV.priv 12 1)) 77 (SV.priv 12 1)) 78 (sV (Value.agg ⟨l1⟩))) 79 (SV.priv 12 1)) 80 (SV.priv 12 5)) 81 (sI (i3))) 82 (SV.priv 12 6)) 83 (sB (q5))) 84 (sV (Value.tuple ⟨[(Value.agg ⟨l10⟩), (Value.int .i64 i11)]⟩))) 74 (sV (Value.tuple ⟨[(Value.agg ⟨l10⟩), (Value.int .i64 i11)]⟩))) 85 (sV (Value.agg ⟨l10⟩))) 86 (sI (i11))) 16 (SV.priv 16 0)) 17 (sI (i11))) (upd (upd (upd V0 12 (77, k12)) 16 (75, [(Value.int .u8 0), (Value.int .u8 0), (Value.int .u8 0), (Value.int .u8 0), (Value.int .i64 0)])) 16 (75, (splice [(Value.int .u8 0), (Value.int .u8 0), (Value.int .u8 0), (Value.int .u8 0), (Value.int .i64 0)] 0 l10))) h7) else False) else False) else False)))))))))) := by kernel_rfl
theorem F10_r14 (e : Env) (x17 : Int) (k12 : List Value) (k16 : List Value) (hp : HP) (K : Env → PV → HP → Prop) : RW Try.prog 229 [12, 16, 56, 76, 77, 79, 80, 82, 113, 119, 125, 129, 130, 132, 149, 154, 157, 158, 165, 173, 174, 178, 180, 181, 191, 194, 195, 202, 203, 213, 219, 225] (opsAt Try.f10 [1, 1, 1, 1, 0, 1, 0, 0, 1, 0, 0, 1, 1, 0, 1, 0, 1, 1, 1, 1, 0, 0]) (List.range 2) (upd e 17 (sI (x17))) (upd (upd V0 16 (75, k16)) 12 (77, k12)) hp K =
    (K (upd (upd (upd e 17 (sI (x17))) 87 (sI (x17))) 88 (sB (((x17 : Int) != 0)))) (upd (upd V0 16 (75, k16)) 12 (77, k12)) hp) := by kernel_rfl
theorem F10_r15 (e : Env) (x9 : Option Addr) (x14a : Option Addr) (x14n : Nat) (x14c : Nat) (hp : HP) (K : Env → PV → HP → Prop) : RW Try.prog 229 [12, 16, 56, 76, 77, 79, 80, 82, 113, 119, 125, 129, 130, 132, 149, 154, 157, 158, 165, 173, 174, 178, 180, 181, 191, 194, 195, 202, 203, 213, 219, 225] (opsAt Try.f10 [1, 1, 1, 1, 0, 1, 0, 0, 1, 0, 0, 1, 1, 0, 1, 0, 1, 1, 1, 1, 0, 1, 0, 0, 0]) (List.range 6) (upd (upd e 14 (sV (Value.slice x14a x14n x14c))) 9 (sV (Value.pointer x9))) V0 hp K =
    (CF Try.prog 45 [(Value.pointer x9)] hp fun u1 h2 => (slcV u1 fun a3 n4 c5 => (K (upd (upd (upd (upd (upd (upd (upd (upd e 14 (sV (Value.slice x14a x14n x14c))) 9 (sV (Value.pointer x9))) 89 (sV (Value.pointer x9))) 90 (sV (Value.slice a3 n4 c5))) 91 (sI ((n4 : Nat)))) 92 (sV (Value.slice x14a x14n x14c))) 93 (sI ((x14n : Nat)))) 94 (sB ((((n4 : Nat) : Int) != (x14n : Nat))))) V0 h2))) := by kernel_rfl
theorem F10_r16 (e : Env) (hp : HP) (K : Env → PV → HP → Prop) : RW Try.prog 229 [12, 16, 56, 76, 77, 79, 80, 82, 113, 119, 125, 129, 130, 132, 149, 154, 157, 158, 165, 173, 174, 178, 180, 181, 191, 194, 195, 202, 203, 213, 219, 225] (opsAt Try.f10 [1, 1, 1, 1, 0, 1, 0, 0, 1, 0, 0, 1, 1, 0, 1, 0, 1, 1, 1, 1, 0, 1, 0, 0, 1, 0, 0]) (List.range 1) e V0 hp K =
    (K (upd e 8 (sB (false))) V0 hp) := by kernel_rfl
theorem F10_r17 (e : Env) (x9 : Option Addr) (k12 : List Value) (k16 : List Value) (hp : HP) (K : Env → PV → HP → Prop) : RW Try.prog 229 [12, 16, 56, 76, 77, 79, 80, 82, 113, 119, 125, 129, 130, 132, 149, 154, 157, 158, 165, 173, 174, 178, 180, 181, 191, 194, 195, 202, 203, 213, 219, 225] (opsAt Try.f10 [1, 1, 1, 1, 0, 1, 0, 0, 1, 0, 0, 1, 1, 0, 1, 0, 1, 1, 1, 1, 1, 0]) (List.range 8) (upd (upd e 16 (SV.priv 16 0)) 9 (sV (Value.pointer x9))) (upd (upd V0 16 (75, k16)) 12 (77, k12)) hp K =
    (ldL (cellsN k16 0 5) fun l1 => (CF Try.prog 47 [(Value.pointer x9), (Value.agg ⟨l1⟩)] hp fun u2 h3 => (tup2V u2 fun u4 u5 => (boolV u4 fun q6 => (boolV u5 fun q7 => (K (upd (upd (upd (upd (upd (upd (upd (upd (upd (upd e 16 (SV.priv 16 0)) 9 (sV (Value.pointer x9))) 96 (sV (Value.pointer x9))) 97 (sV (Value.agg ⟨l1⟩))) 98 (sV (Value.tuple ⟨[(Value.bool q6), (Value.bool q7)]⟩))) 95 (sV (Value.tuple ⟨[(Value.bool q6), (Value.bool q7)]⟩))) 99 (sB (q6))) 100 (sB (q7))) 18 (sB (q6))) 19 (sB (q7))) (upd (upd V0 16 (75, k16)) 12 (77, k12)) h3)))))) := by kernel_rfl
theorem F10_r18 (e : Env) (hp : HP) (K : Env → PV → HP → Prop) : RW Try.prog 229 [12, 16, 56, 76, 77, 79, 80, 82, 113, 119, 125, 129, 130, 132, 149, 154, 157, 158, 165, 173, 174, 178, 180, 181, 191, 194, 195, 202, 203, 213, 219, 225] (opsAt Try.f10 [1, 1, 1, 1, 0, 1, 0, 0, 1, 0, 0, 1, 1, 0, 1, 0, 1, 1, 1, 1, 1, 1, 0, 1, 0, 0]) (List.range 1) e V0 hp K =
    (K (upd e 8 (sB (false))) V0 hp) := by kernel_rfl
theorem F10_r19 (e : Env) (x2 : Int) (x21 : Int) (k12 : List Value) (hp : HP) (K : Env → PV → HP → Prop) : RW Try.prog 229 [12, 16, 56, 76, 77, 79, 80, 82, 113, 119, 125, 129, 130, 132, 149, 154, 157, 158, 165, 173, 174, 178, 180, 181, 191, 194, 195, 202, 203, 213, 219, 225] (opsAt Try.f10 [1, 1, 1, 1, 0, 1, 0, 0, 1, 0, 0, 1, 1, 0, 1, 0, 1, 1, 1, 1, 1, 1, 1, 1, 1, 0, 1, 0, 0, 0, 0]) (List.range 3) (upd (upd e 21 (sI (x21))) 2 (sI (x2))) (upd V0 12 (77, k12)) hp K =
    (K (upd (upd (upd (upd (upd e 21 (sI (x21))) 2 (sI (x2))) 186 (sI (x21))) 187 (sI (x2))) 188 (sB ((decide ((x21 : Int) ≤ x2))))) (upd V0 12 (77, k12)) hp) := by kernel_rfl
theorem F10_r20 (e : Env) (hp : HP) (K : Env → PV → HP → Prop) : RW Try.prog 229 [12, 16, 56, 76, 77, 79, 80, 82, 113, 119, 125, 129, 130, 132, 149, 154, 157, 158, 165, 173, 174, 178, 180, 181, 191, 194, 195, 202, 203, 213, 219, 225] (opsAt Try.f10 [1, 1, 1, 1, 0, 1, 0, 0, 1, 0, 0, 1, 1, 0, 1, 0, 1, 1, 1, 1, 1, 1, 1, 1, 1, 0, 1, 0, 0, 1, 0, 0, 1, 0, 0]) (List.range 1) e V0 hp K =
    (K (upd e 8 (sB (false))) V0 hp) := by kernel_rfl
theorem F10_r21 (e : Env) (x21 : Int) (k12 : List Value) (hp : HP) (K : Env → PV → HP → Prop) : RW Try.prog 229 [12, 16, 56, 76, 77, 79, 80, 82, 113, 119, 125, 129, 130, 132, 149, 154, 157, 158, 165, 173, 174, 178, 180, 181, 191, 194, 195, 202, 203, 213, 219, 225] (opsAt Try.f10 [1, 1, 1, 1, 0, 1, 0, 0, 1, 0, 0, 1, 1, 0, 1, 0, 1, 1, 1, 1, 1, 1, 1, 1, 1, 0, 1, 0, 0, 1, 1]) (List.range 3) (upd e 21 (sI (x21))) (upd V0 12 (77, k12)) hp K =
    (K (upd (upd (upd (upd e 21 (sI (x21))) 189 (sI (x21))) 190 (sI ((IntKind.wrap .i64 (x21 + 1))))) 21 (sI ((IntKind.wrap .i64 (x21 + 1))))) (upd V0 12 (77, k12)) hp) := by kernel_rfl
def F10_j12 (x1 : Int) (x2 : Int) (x3a : Option Addr) (x3n : Nat) (x3c : Nat) (x9 : Option Addr) (x11 : Int) (x13 : Option Nat) (x21 : Int) (x209 : Bool) (k12 : List Value) (hp : HP) (I4 : (Int) → HP → Prop) (I11 : (Int) → HP → Prop) (K : Value → HP → Prop) : Prop :=
  (ite2 x209 (K (Value.bool false) hp) (I11 (IntKind.wrap .i64 (x21 + 1)) hp))
theorem F10_r22 (e : Env) (x13 : Option Nat) (x21 : Int) (k12 : List Value) (hp : HP) (K : Env → PV → HP → Prop) : RW Try.prog 229 [12, 16, 56, 76, 77, 79, 80, 82, 113, 119, 125, 129, 130, 132, 149, 154, 157, 158, 165, 173, 174, 178, 180, 181, 191, 194, 195, 202, 203, 213, 219, 225] (opsAt Try.f10 [1, 1, 1, 1, 0, 1, 0, 0, 1, 0, 0, 1, 1, 0, 1, 0, 1, 1, 1, 1, 1, 1, 1, 1, 1, 0, 1, 0, 0, 1, 0, 0, 0]) (List.range 19) (upd (upd (upd e 21 (sI (x21))) 13 (sV (Value.map x13))) 12 (SV.priv 12 0)) (upd V0 12 (77, k12)) hp K =
    (ldV (k12)[6]? fun v1 => (boolV v1 fun q2 => (ite2 q2 (ldL (cellsN k12 1 4) fun l3 => (if List.length l3 = 4 then (rdS Try.prog (Instr.lookup 78 (Value.map x13) (Value.agg ⟨(List.set (splice [(Value.int .u8 0), (Value.int .u8 0), (Value.int .u8 0), (Value.int .u8 0), (Value.int .i64 0)] 0 l3) 4 (Value.int .i64 x21))⟩) false) hp fun u4 => (intV u4 .i64 fun i5 => (K (upd (upd (upd (upd (upd (upd (upd (upd (upd (upd (upd (upd (upd (upd (upd (upd (upd (upd (upd (upd (upd (upd e 21 (sI (x21))) 13 (sV (Value.map x13))) 12 (SV.priv 12 0)) 191 (SV.priv 12 6)) 192 (sB (q2))) 193 (sB (true))) 194 (sV undef)) 195 (sV undef)) 196 (sV undef)) 197 (sV undef)) 198 (sV undef)) 199 (sB (true))) 200 (sB (true))) 201 (sV (Value.map x13))) 202 (SV.priv 12 1)) 203 (SV.priv 12 1)) 204 (sV (Value.agg ⟨l3⟩))) 205 (sI (x21))) 206 (sV (Value.agg ⟨(List.set (splice [(Value.int .u8 0), (Value.int .u8 0), (Value.int .u8 0), (Value.int .u8 0), (Value.int .i64 0)] 0 l3) 4 (Value.int .i64 x21))⟩))) 207 (sI (i5))) 208 (sB (((i5 : Int) == 0)))) 209 (sB (((i5 : Int) == 0)))) (upd V0 12 (77, k12)) hp))) else False)) (ldV (k12)[5]? fun v6 => (intV v6 .i64 fun i7 => (CF Try.prog 20 [(Value.int .i64 i7), (Value.int .i64 x21)] hp fun u8 h9 => (boolV u8 fun q10 => (ite2 q10 (ldL (cellsN k12 1 4) fun l11 => (if List.length l11 = 4 then (rdS Try.prog (Instr.lookup 78 (Value.map x13) (Value.agg ⟨(List.set (splice [(Value.int .u8 0), (Value.int .u8 0), (Value.int .u8 0), (Value.int .u8 0), (Value.int .i64 0)] 0 l11) 4 (Value.int .i64 x21))⟩) false) h9 fun u12 => (intV u12 .i64 fun i13 => (K (upd (upd (upd (upd (upd (upd (upd (upd (upd (upd (upd (upd (upd (upd (upd (upd (upd (upd (upd (upd (upd (upd e 21 (sI (x21))) 13 (sV (Value.map x13))) 12 (SV.priv 12 0)) 191 (SV.priv 12 6)) 192 (sB (q2))) 193 (sB (false))) 194 (SV.priv 12 1)) 195 (SV.priv 12 5)) 196 (sI (i7))) 197 (sI (x21))) 198 (sB (q10))) 199 (sB (q10))) 200 (sB (true))) 201 (sV (Value.map x13))) 202 (SV.priv 12 1)) 203 (SV.priv 12 1)) 204 (sV (Value.agg ⟨l11⟩))) 205 (sI (x21))) 206 (sV (Value.agg ⟨(List.set (splice [(Value.int .u8 0), (Value.int .u8 0), (Value.int .u8 0), (Value.int .u8 0), (Value.int .i64 0)] 0 l11) 4 (Value.int .i64 x21))⟩))) 207 (sI (i13))) 208 (sB (((i13 : Int) == 0)))) 209 (sB (((i13 : Int) == 0)))) (upd V0 12 (77, k12)) h9))) else False)) (K (upd (upd (upd (upd (upd (upd (upd (upd (upd (upd (upd (upd (upd (upd (upd (upd (upd (upd (upd (upd (upd (upd e 21 (sI (x21))) 13 (sV (Value.map x13))) 12 (SV.priv 12 0)) 191 (SV.priv 12 6)) 192 (sB (q2))) 193 (sB (false))) 194 (SV.priv 12 1)) 195 (SV.priv 12 5)) 196 (sI (i7))) 197 (sI (x21))) 198 (sB (q10))) 199 (sB (q10))) 200 (sB (false))) 201 (sV undef)) 202 (sV undef)) 203 (sV undef)) 204 (sV undef)) 205 (sV undef)) 206 (sV undef)) 207 (sV undef)) 208 (sV undef)) 209 (sB (false))) (upd V0 12 (77, k12)) h9))))))))) := by kernel_rfl
def F10_l11 (x1 : Int) (x2 : Int) (x3a : Option Addr) (x3n : Nat) (x3c : Nat) (x9 : Option Addr) (x11 : Int) (x13 : Option Nat) (k12 : List Value) (I4 : (Int) → HP → Prop) (K : Value → HP → Prop) (I11 : (Int) → HP → Prop) (x21 : Int) (hp : HP) : Prop :=
  (ite2 (decide ((x21 : Int) ≤ x2)) (ldV (k12)[6]? fun v_50 => (boolV v_50 fun q_51 => (ite2 q_51 (ldL (cellsN k12 1 4) fun l_52 => (if List.length l_52 = 4 then (rdS Try.prog (Instr.lookup 78 (Value.map x13) (Value.agg ⟨(List.set (splice [(Value.int .u8 0), (Value.int .u8 0), (Value.int .u8 0), (Value.int .u8 0), (Value.int .i64 0)] 0 l_52) 4 (Value.int .i64 x21))⟩) false) hp fun u_53 => (intV u_53 .i64 fun i_54 => (F10_j12 x1 x2 x3a x3n x3c x9 x11 x13 x21 ((i_54 : Int) == 0) k12 hp I4 I11 K))) else False)) (ldV (k12)[5]? fun v_55 => (intV v_55 .i64 fun i_56 => (CF Try.prog 20 [(Value.int .i64 i_56), (Value.int .i64 x21)] hp fun u_57 h_58 => (boolV u_57 fun q_59 => (ite2 q_59 (ldL (cellsN k12 1 4) fun l_60 => (if List.length l_60 = 4 then (rdS Try.prog (Instr.lookup 78 (Value.map x13) (Value.agg ⟨(List.set (splice [(Value.int .u8 0), (Value.int .u8 0), (Value.int .u8 0), (Value.int .u8 0), (Value.int .i64 0)] 0 l_60) 4 (Value.int .i64 x21))⟩) false) h_58 fun u_61 => (intV u_61 .i64 fun i_62 => (F10_j12 x1 x2 x3a x3n x3c x9 x11 x13 x21 ((i_62 : Int) == 0) k12 h_58 I4 I11 K))) else False)) (F10_j12 x1 x2 x3a x3n x3c x9 x11 x13 x21 false k12 h_58 I4 I11 K))))))))) (F10_j5 x1 x2 x3a x3n x3c x9 x11 hp I4 K))
def F10_j10 (x1 : Int) (x2 : Int) (x3a : Option Addr) (x3n : Nat) (x3c : Nat) (x9 : Option Addr) (x11 : Int) (x13 : Option Nat) (x21 : Int) (k12 : List Value) (hp : HP) (I4 : (Int) → HP → Prop) (K : Value → HP → Prop) : Prop :=
  (LoopP (σ := Int) (fun I s hp => F10_l11 x1 x2 x3a x3n x3c x9 x11 x13 k12 I4 K I s hp) x21 hp)
theorem F10_r23 (e : Env) (x1 : Int) (k12 : List Value) (hp : HP) (K : Env → PV → HP → Prop) : RW Try.prog 229 [12, 16, 56, 76, 77, 79, 80, 82, 113, 119, 125, 129, 130, 132, 149, 154, 157, 158, 165, 173, 174, 178, 180, 181, 191, 194, 195, 202, 203, 213, 219, 225] (opsAt Try.f10 [1, 1, 1, 1, 0, 1, 0, 0, 1, 0, 0, 1, 1, 0, 1, 0, 1, 1, 1, 1, 1, 1, 1, 1, 1, 0, 0]) (List.range 2) (upd e 1 (sI (x1))) (upd V0 12 (77, k12)) hp K =
    (K (upd (upd (upd e 1 (sI (x1))) 185 (sI (x1))) 21 (sI (x1))) (upd V0 12 (77, k12)) hp) := by kernel_rfl
def F10_j9 (x1 : Int) (x2 : Int) (x3a : Option Addr) (x3n : Nat) (x3c : Nat) (x9 : Option Addr) (x11 : Int) (x13 : Option Nat) (x184 : Bool) (k12 : List Value) (hp : HP) (I4 : (Int) → HP → Prop) (K : Value → HP → Prop) : Prop :=
  (ite2 x184 (F10_j10 x1 x2 x3a x3n x3c x9 x11 x13 x1 k12 hp I4 K) (F10_j5 x1 x2 x3a x3n x3c x9 x11 hp I4 K))
theorem F10_r24 (e : Env) (x9 : Option Addr) (k12 : List Value) (k16 : List Value) (hp : HP) (K : Env → PV → HP → Prop) : RW Try.prog 229 [12, 16, 56, 76, 77, 79, 80, 82, 113, 119, 125, 129, 130, 132, 149, 154, 157, 158, 165, 173, 174, 178, 180, 181, 191, 194, 195, 202, 203, 213, 219, 225] (opsAt Try.f10 [1, 1, 1, 1, 0, 1, 0, 0, 1, 0, 0, 1, 1, 0, 1, 0, 1, 1, 1, 1, 1, 1, 1, 1, 0]) (List.range 13) (upd (upd (upd e 16 (SV.priv 16 0)) 12 (SV.priv 12 0)) 9 (sV (Value.pointer x9))) (upd (upd V0 16 (75, k16)) 12 (77, k12)) hp K =
    (ldL (cellsN k12 1 4) fun l1 => (CF Try.prog 48 [(Value.pointer x9), (Value.agg ⟨l1⟩)] hp fun u2 h3 => (boolV u2 fun q4 => (ite2 q4 (ldL (cellsN k16 0 4) fun l5 => (ldL (cellsN k12 1 4) fun l6 => (eqAgg Try.prog 73 l5 l6 fun q7 => (K (upd (upd (upd (upd (upd (upd (upd (upd (upd (upd (upd (upd (upd (upd (upd (upd e 16 (SV.priv 16 0)) 12 (SV.priv 12 0)) 9 (sV (Value.pointer x9))) 172 (sV (Value.pointer x9))) 173 (SV.priv 12 1)) 174 (SV.priv 12 1)) 175 (sV (Value.agg ⟨l1⟩))) 176 (sB (q4))) 177 (sB (true))) 178 (SV.priv 16 0)) 179 (sV (Value.agg ⟨l5⟩))) 180 (SV.priv 12 1)) 181 (SV.priv 12 1)) 182 (sV (Value.agg ⟨l6⟩))) 183 (sB ((!q7)))) 184 (sB ((!q7)))) (upd (upd V0 16 (75, k16)) 12 (77, k12)) h3)))) (K (upd (upd (upd (upd (upd (upd (upd (upd (upd (upd (upd (upd (upd (upd (upd (upd e 16 (SV.priv 16 0)) 12 (SV.priv 12 0)) 9 (sV (Value.pointer x9))) 172 (sV (Value.pointer x9))) 173 (SV.priv 12 1)) 174 (SV.priv 12 1)) 175 (sV (Value.agg ⟨l1⟩))) 176 (sB (q4))) 177 (sB (false))) 178 (sV undef)) 179 (sV undef)) 180 (sV undef)) 181 (sV undef)) 182 (sV undef)) 183 (sV undef)) 184 (sB (false))) (upd (upd V0 16 (75, k16)) 12 (77, k12)) h3))))) := by kernel_rfl
def F10_j8 (x1 : Int) (x2 : Int) (x3a : Option Addr) (x3n : Nat) (x3c : Nat) (x9 : Option Addr) (x11 : Int) (x13 : Option Nat) (k12 : List Value) (k16 : List Value) (hp : HP) (I4 : (Int) → HP → Prop) (K : Value → HP → Prop) : Prop :=
  (ldL (cellsN k12 1 4) fun l_63 => (CF Try.prog 48 [(Value.pointer x9), (Value.agg ⟨l_63⟩)] hp fun u_64 h_65 => (boolV u_64 fun q_66 => (ite2 q_66 (ldL (cellsN k16 0 4) fun l_67 => (ldL (cellsN k12 1 4) fun l_68 => (eqAgg Try.prog 73 l_67 l_68 fun q_69 => (F10_j9 x1 x2 x3a x3n x3c x9 x11 x13 (!q_69) k12 h_65 I4 K)))) (F10_j9 x1 x2 x3a x3n x3c x9 x11 x13 false k12 h_65 I4 K)))))
theorem F10_r25 (e : Env) (x20 : Int) (k12 : List Value) (k16 : List Value) (hp : HP) (K : Env → PV → HP → Prop) : RW Try.prog 229 [12, 16, 56, 76, 77, 79, 80, 82, 113, 119, 125, 129, 130, 132, 149, 154, 157, 158, 165, 173, 174, 178, 180, 181, 191, 194, 195, 202, 203, 213, 219, 225] (opsAt Try.f10 [1, 1, 1, 1, 0, 1, 0, 0, 1, 0, 0, 1, 1, 0, 1, 0, 1, 1, 1, 1, 1, 1, 1, 0, 1, 0, 0, 0, 0]) (List.range 4) (upd (upd e 20 (sI (x20))) 16 (SV.priv 16 0)) (upd (upd V0 16 (75, k16)) 12 (77, k12)) hp K =
    (ldV (k16)[4]? fun v1 => (intV v1 .i64 fun i2 => (K (upd (upd (upd (upd (upd (upd e 20 (sI (x20))) 16 (SV.priv 16 0)) 148 (sI (x20))) 149 (SV.priv 16 4)) 150 (sI (i2))) 151 (sB ((decide ((x20 : Int) < i2))))) (upd (upd V0 16 (75, k16)) 12 (77, k12)) hp))) := by kernel_rfl
theorem F10_r26 (e : Env) (hp : HP) (K : Env → PV → HP → Prop) : RW Try.prog 229 [12, 16, 56, 76, 77, 79, 80, 82, 113, 119, 125, 129, 130, 132, 149, 154, 157, 158, 165, 173, 174, 178, 180, 181, 191, 194, 195, 202, 203, 213, 219, 225] (opsAt Try.f10 [1, 1, 1, 1, 0, 1, 0, 0, 1, 0, 0, 1, 1, 0, 1, 0, 1, 1, 1, 1, 1, 1, 1, 0, 1, 0, 0, 1, 0, 0, 1, 0, 0]) (List.range 1) e V0 hp K =
    (K (upd e 8 (sB (false))) V0 hp) := by kernel_rfl
theorem F10_r27 (e : Env) (x20 : Int) (k12 : List Value) (k16 : List Value) (hp : HP) (K : Env → PV → HP → Prop) : RW Try.prog 229 [12, 16, 56, 76, 77, 79, 80, 82, 113, 119, 125, 129, 130, 132, 149, 154, 157, 158, 165, 173, 174, 178, 180, 181, 191, 194, 195, 202, 203, 213, 219, 225] (opsAt Try.f10 [1, 1, 1, 1, 0, 1, 0, 0, 1, 0, 0, 1, 1, 0, 1, 0, 1, 1, 1, 1, 1, 1, 1, 0, 1, 0, 0, 1, 1]) (List.range 3) (upd e 20 (sI (x20))) (upd (upd V0 16 (75, k16)) 12 (77, k12)) hp K =
    (K (upd (upd (upd (upd e 20 (sI (x20))) 152 (sI (x20))) 153 (sI ((IntKind.wrap .i64 (x20 + 1))))) 20 (sI ((IntKind.wrap .i64 (x20 + 1))))) (upd (upd V0 16 (75, k16)) 12 (77, k12)) hp) := by kernel_rfl
def F10_j15 (x1 : Int) (x2 : Int) (x3a : Option Addr) (x3n : Nat) (x3c : Nat) (x9 : Option Addr) (x11 : Int) (x13 : Option Nat) (x20 : Int) (x171 : Bool) (k12 : List Value) (k16 : List Value) (hp : HP) (I4 : (Int) → HP → Prop) (I14 : (Int) → HP → Prop) (K : Value → HP → Prop) : Prop :=
  (ite2 x171 (K (Value.bool false) hp) (I14 (IntKind.wrap .i64 (x20 + 1)) hp))
theorem F10_r28 (e : Env) (x13 : Option Nat) (x20 : Int) (k12 : List Value) (k16 : List Value) (hp : HP) (K : Env → PV → HP → Prop) : RW Try.prog 229 [12, 16, 56, 76, 77, 79, 80, 82, 113, 119, 125, 129, 130, 132, 149, 154, 157, 158, 165, 173, 174, 178, 180, 181, 191, 194, 195, 202, 203, 213, 219, 225] (opsAt Try.f10 [1, 1, 1, 1, 0, 1, 0, 0, 1, 0, 0, 1, 1, 0, 1, 0, 1, 1, 1, 1, 1, 1, 1, 0, 1, 0, 0, 1, 0, 0, 0]) (List.range 18) (upd (upd (upd (upd e 20 (sI (x20))) 16 (SV.priv 16 0)) 13 (sV (Value.map x13))) 12 (SV.priv 12 0)) (upd (upd V0 16 (75, k16)) 12 (77, k12)) hp K =
    (ldV (k12)[6]? fun v1 => (boolV v1 fun q2 => (ite2 q2 (ldL (cellsN k16 0 4) fun l3 => (if List.length l3 = 4 then (rdS Try.prog (Instr.lookup 78 (Value.map x13) (Value.agg ⟨(List.set (splice [(Value.int .u8 0), (Value.int .u8 0), (Value.int .u8 0), (Value.int .u8 0), (Value.int .i64 0)] 0 l3) 4 (Value.int .i64 x20))⟩) false) hp fun u4 => (intV u4 .i64 fun i5 => (K (upd (upd (upd (upd (upd (upd (upd (upd (upd (upd (upd (upd (upd (upd (upd (upd (upd (upd (upd (upd (upd (upd e 20 (sI (x20))) 16 (SV.priv 16 0)) 13 (sV (Value.map x13))) 12 (SV.priv 12 0)) 154 (SV.priv 12 6)) 155 (sB (q2))) 156 (sB (true))) 157 (sV undef)) 158 (sV undef)) 159 (sV undef)) 160 (sV undef)) 161 (sV undef)) 162 (sB (true))) 163 (sB (true))) 164 (sV (Value.map x13))) 165 (SV.priv 16 0)) 166 (sV (Value.agg ⟨l3⟩))) 167 (sI (x20))) 168 (sV (Value.agg ⟨(List.set (splice [(Value.int .u8 0), (Value.int .u8 0), (Value.int .u8 0), (Value.int .u8 0), (Value.int .i64 0)] 0 l3) 4 (Value.int .i64 x20))⟩))) 169 (sI (i5))) 170 (sB (((i5 : Int) == 0)))) 171 (sB (((i5 : Int) == 0)))) (upd (upd V0 16 (75, k16)) 12 (77, k12)) hp))) else False)) (ldV (k12)[5]? fun v6 => (intV v6 .i64 fun i7 => (CF Try.prog 20 [(Value.int .i64 i7), (Value.int .i64 x20)] hp fun u8 h9 => (boolV u8 fun q10 => (ite2 q10 (ldL (cellsN k16 0 4) fun l11 => (if List.length l11 = 4 then (rdS Try.prog (Instr.lookup 78 (Value.map x13) (Value.agg ⟨(List.set (splice [(Value.int .u8 0), (Value.int .u8 0), (Value.int .u8 0), (Value.int .u8 0), (Value.int .i64 0)] 0 l11) 4 (Value.int .i64 x20))⟩) false) h9 fun u12 => (intV u12 .i64 fun i13 => (K (upd (upd (upd (upd (upd (upd (upd (upd (upd (upd (upd (upd (upd (upd (upd (upd (upd (upd (upd (upd (upd (upd e 20 (sI (x20))) 16 (SV.priv 16 0)) 13 (sV (Value.map x13))) 12 (SV.priv 12 0)) 154 (SV.priv 12 6)) 155 (sB (q2))) 156 (sB (false))) 157 (SV.priv 12 1)) 158 (SV.priv 12 5)) 159 (sI (i7))) 160 (sI (x20))) 161 (sB (q10))) 162 (sB (q10))) 163 (sB (true))) 164 (sV (Value.map x13))) 165 (SV.priv 16 0)) 166 (sV (Value.agg ⟨l11⟩))) 167 (sI (x20))) 168 (sV (Value.agg ⟨(List.set (splice [(Value.int .u8 0), (Value.int .u8 0), (Value.int .u8 0), (Value.int .u8 0), (Value.int .i64 0)] 0 l11) 4 (Value.int .i64 x20))⟩))) 169 (sI (i13))) 170 (sB (((i13 : Int) == 0)))) 171 (sB (((i13 : Int) == 0)))) (upd (upd V0 16 (75, k16)) 12 (77, k12)) h9))) else False)) (K (upd (upd (upd (upd (upd (upd (upd (upd (upd (upd (upd (upd (upd (upd (upd (upd (upd (upd (upd (upd (upd (upd e 20 (sI (x20))) 16 (SV.priv 16 0)) 13 (sV (Value.map x13))) 12 (SV.priv 12 0)) 154 (SV.priv 12 6)) 155 (sB (q2))) 156 (sB (false))) 157 (SV.priv 12 1)) 158 (SV.priv 12 5)) 159 (sI (i7))) 160 (sI (x20))) 161 (sB (q10))) 162 (sB (q10))) 163 (sB (false))) 164 (sV undef)) 165 (sV undef)) 166 (sV undef)) 167 (sV undef)) 168 (sV undef)) 169 (sV undef)) 170 (sV undef)) 171 (sB (false))) (upd (upd V0 16 (75, k16)) 12 (77, k12)) h9))))))))) := by kernel_rfl
def F10_l14 (x1 : Int) (x2 : Int) (x3a : Option Addr) (x3n : Nat) (x3c : Nat) (x9 : Option Addr) (x11 : Int) (x13 : Option Nat) (k12 : List Value) (k16 : List Value) (I4 : (Int) → HP → Prop) (K : Value → HP → Prop) (I14 : (Int) → HP → Prop) (x20 : Int) (hp : HP) : Prop :=
  (ldV (k16)[4]? fun v_70 => (intV v_70 .i64 fun i_71 => (ite2 (decide ((x20 : Int) < i_71)) (ldV (k12)[6]? fun v_72 => (boolV v_72 fun q_73 => (ite2 q_73 (ldL (cellsN k16 0 4) fun l_74 => (if List.length l_74 = 4 then (rdS Try.prog (Instr.lookup 78 (Value.map x13) (Value.agg ⟨(List.set (splice [(Value.int .u8 0), (Value.int .u8 0), (Value.int .u8 0), (Value.int .u8 0), (Value.int .i64 0)] 0 l_74) 4 (Value.int .i64 x20))⟩) false) hp fun u_75 => (intV u_75 .i64 fun i_76 => (F10_j15 x1 x2 x3a x3n x3c x9 x11 x13 x20 ((i_76 : Int) == 0) k12 k16 hp I4 I14 K))) else False)) (ldV (k12)[5]? fun v_77 => (intV v_77 .i64 fun i_78 => (CF Try.prog 20 [(Value.int .i64 i_78), (Value.int .i64 x20)] hp fun u_79 h_80 => (boolV u_79 fun q_81 => (ite2 q_81 (ldL (cellsN k16 0 4) fun l_82 => (if List.length l_82 = 4 then (rdS Try.prog (Instr.lookup 78 (Value.map x13) (Value.agg ⟨(List.set (splice [(Value.int .u8 0), (Value.int .u8 0), (Value.int .u8 0), (Value.int .u8 0), (Value.int .i64 0)] 0 l_82) 4 (Value.int .i64 x20))⟩) false) h_80 fun u_83 => (intV u_83 .i64 fun i_84 => (F10_j15 x1 x2 x3a x3n x3c x9 x11 x13 x20 ((i_84 : Int) == 0) k12 k16 h_80 I4 I14 K))) else False)) (F10_j15 x1 x2 x3a x3n x3c x9 x11 x13 x20 false k12 k16 h_80 I4 I14 K))))))))) (F10_j8 x1 x2 x3a x3n x3c x9 x11 x13 k12 k16 hp I4 K))))
def F10_j13 (x1 : Int) (x2 : Int) (x3a : Option Addr) (x3n : Nat) (x3c : Nat) (x9 : Option Addr) (x11 : Int) (x13 : Option Nat) (x20 : Int) (k12 : List Value) (k16 : List Value) (hp : HP) (I4 : (Int) → HP → Prop) (K : Value → HP → Prop) : Prop :=
  (LoopP (σ := Int) (fun I s hp => F10_l14 x1 x2 x3a x3n x3c x9 x11 x13 k12 k16 I4 K I s hp) x20 hp)
theorem F10_r29 (e : Env) (x1 : Int) (k12 : List Value) (k16 : List Value) (hp : HP) (K : Env → PV → HP → Prop) : RW Try.prog 229 [12, 16, 56, 76, 77, 79, 80, 82, 113, 119, 125, 129, 130, 132, 149, 154, 157, 158, 165, 173, 174, 178, 180, 181, 191, 194, 195, 202, 203, 213, 219, 225] (opsAt Try.f10 [1, 1, 1, 1, 0, 1, 0, 0, 1, 0, 0, 1, 1, 0, 1, 0, 1, 1, 1, 1, 1, 1, 1, 0, 0]) (List.range 2) (upd e 1 (sI (x1))) (upd (upd V0 16 (75, k16)) 12 (77, k12)) hp K =
    (K (upd (upd (upd e 1 (sI (x1))) 147 (sI (x1))) 20 (sI (x1))) (upd (upd V0 16 (75, k16)) 12 (77, k12)) hp) := by kernel_rfl
def F10_j7 (x1 : Int) (x2 : Int) (x3a : Option Addr) (x3n : Nat) (x3c : Nat) (x9 : Option Addr) (x11 : Int) (x13 : Option Nat) (x146 : Bool) (k12 : List Value) (k16 : List Value) (hp : HP) (I4 : (Int) → HP → Prop) (K : Value → HP → Prop) : Prop :=
  (ite2 x146 (K (Value.bool false) hp) (F10_j13 x1 x2 x3a x3n x3c x9 x11 x13 x1 k12 k16 hp I4 K))
theorem F10_r30 (e : Env) (x1 : Int) (x2 : Int) (x9 : Option Addr) (x13 : Option Nat) (x14a : Option Addr) (x14n : Nat) (x14c : Nat) (x18 : Bool) (x19 : Bool) (k12 : List Value) (k16 : List Value) (hp : HP) (K : Env → PV → HP → Prop) : RW Try.prog 229 [12, 16, 56, 76, 77, 79, 80, 82, 113, 119, 125, 129, 130, 132, 149, 154, 157, 158, 165, 173, 174, 178, 180, 181, 191, 194, 195, 202, 203, 213, 219, 225] (opsAt Try.f10 [1, 1, 1, 1, 0, 1, 0, 0, 1, 0, 0, 1, 1, 0, 1, 0, 1, 1, 1, 1, 1, 1, 0, 0]) (List.range 46) (upd (upd (upd (upd (upd (upd (upd (upd (upd e 19 (sB (x19))) 18 (sB (x18))) 16 (SV.priv 16 0)) 14 (sV (Value.slice x14a x14n x14c))) 13 (sV (Value.map x13))) 12 (SV.priv 12 0)) 9 (sV (Value.pointer x9))) 2 (sI (x2))) 1 (sI (x1))) (upd (upd V0 16 (75, k16)) 12 (77, k12)) hp K =
    (ldL (cellsN k16 0 5) fun l1 => (rdS Try.prog (Instr.lookup 78 (Value.map x13) (Value.agg ⟨l1⟩) false) hp fun u2 => (intV u2 .i64 fun i3 => (ite2 (decide ((i3 : Int) > 0)) (K (upd (upd (upd (upd (upd (upd (upd (upd (upd (upd (upd (upd (upd (upd (upd (upd (upd (upd (upd (upd (upd (upd (upd (upd (upd (upd (upd (upd (upd (upd (upd (upd (upd (upd (upd (upd (upd (upd (upd (upd (upd (upd (upd (upd (upd (upd (upd (upd (upd (upd (upd (upd (upd (upd (upd e 19 (sB (x19))) 18 (sB (x18))) 16 (SV.priv 16 0)) 14 (sV (Value.slice x14a x14n x14c))) 13 (sV (Value.map x13))) 12 (SV.priv 12 0)) 9 (sV (Value.pointer x9))) 2 (sI (x2))) 1 (sI (x1))) 101 (sV (Value.map x13))) 102 (sV (Value.agg ⟨l1⟩))) 103 (sI (i3))) 104 (sB ((decide ((i3 : Int) > 0))))) 105 (sB (true))) 106 (sV undef)) 107 (sV undef)) 108 (sB (true))) 109 (sB (true))) 110 (sV undef)) 111 (sB (true))) 112 (sB (true))) 113 (sV undef)) 114 (sV undef)) 115 (sV undef)) 116 (sV undef)) 117 (sB (true))) 118 (sB (true))) 119 (sV undef)) 120 (sV undef)) 121 (sV undef)) 122 (sV undef)) 123 (sB (true))) 124 (sB (true))) 125 (sV undef)) 126 (sV undef)) 127 (sV undef)) 128 (sV undef)) 129 (sV undef)) 130 (sV undef)) 131 (sV undef)) 132 (sV undef)) 133 (sV undef)) 134 (sV undef)) 135 (sV undef)) 136 (sV undef)) 137 (sB (true))) 138 (sB (true))) 139 (sV undef)) 140 (sV undef)) 141 (sV undef)) 142 (sV undef)) 143 (sV undef)) 144 (sV undef)) 145 (sV undef)) 146 (sB (true))) (upd (upd V0 16 (75, k16)) 12 (77, k12)) hp) (ite2 (!x18) (K (upd (upd (upd (upd (upd (upd (upd (upd (upd (upd (upd (upd (upd (upd (upd (upd (upd (upd (upd (upd (upd (upd (upd (upd (upd (upd (upd (upd (upd (upd (upd (upd (upd (upd (upd (upd (upd (upd (upd (upd (upd (upd (upd (upd (upd (upd (upd (upd (upd (upd (upd (upd (upd (upd (upd e 19 (sB (x19))) 18 (sB (x18))) 16 (SV.priv 16 0)) 14 (sV (Value.slice x14a x14n x14c))) 13 (sV (Value.map x13))) 12 (SV.priv 12 0)) 9 (sV (Value.pointer x9))) 2 (sI (x2))) 1 (sI (x1))) 101 (sV (Value.map x13))) 102 (sV (Value.agg ⟨l1⟩))) 103 (sI (i3))) 104 (sB ((decide ((i3 : Int) > 0))))) 105 (sB (false))) 106 (sB (x18))) 107 (sB ((!x18)))) 108 (sB ((!x18)))) 109 (sB (true))) 110 (sV undef)) 111 (sB (true))) 112 (sB (true))) 113 (sV undef)) 114 (sV undef)) 115 (sV undef)) 116 (sV undef)) 117 (sB (true))) 118 (sB (true))) 119 (sV undef)) 120 (sV undef)) 121 (sV undef)) 122 (sV undef)) 123 (sB (true))) 124 (sB (true))) 125 (sV undef)) 126 (sV undef)) 127 (sV undef)) 128 (sV undef)) 129 (sV undef)) 130 (sV undef)) 131 (sV undef)) 132 (sV undef)) 133 (sV undef)) 134 (sV undef)) 135 (sV undef)) 136 (sV undef)) 137 (sB (true))) 138 (sB (true))) 139 (sV undef)) 140 (sV undef)) 141 (sV undef)) 142 (sV undef)) 143 (sV undef)) 144 (sV undef)) 145 (sV undef)) 146 (sB (true))) (upd (upd V0 16 (75, k16)) 12 (77, k12)) hp) (ite2 x19 (K (upd (upd (upd (upd (upd (upd (upd (upd (upd (upd (upd (upd (upd (upd (upd (upd (upd (upd (upd (upd (upd (upd (upd (upd (upd (upd (upd (upd (upd (upd (upd (upd (upd (upd (upd (upd (upd (upd (upd (upd (upd (upd (upd (upd (upd (upd (upd (upd (upd (upd (upd (upd (upd (upd (upd e 19 (sB (x19))) 18 (sB (x18))) 16 (SV.priv 16 0)) 14 (sV (Value.slice x14a x14n x14c))) 13 (sV (Value.map x13))) 12 (SV.priv 12 0)) 9 (sV (Value.pointer x9))) 2 (sI (x2))) 1 (sI (x1))) 101 (sV (Value.map x13))) 102 (sV (Value.agg ⟨l1⟩))) 103 (sI (i3))) 104 (sB ((decide ((i3 : Int) > 0))))) 105 (sB (false))) 106 (sB (x18))) 107 (sB ((!x18)))) 108 (sB ((!x18)))) 109 (sB (false))) 110 (sB (x19))) 111 (sB (x19))) 112 (sB (true))) 113 (sV undef)) 114 (sV undef)) 115 (sV undef)) 116 (sV undef)) 117 (sB (true))) 118 (sB (true))) 119 (sV undef)) 120 (sV undef)) 121 (sV undef)) 122 (sV undef)) 123 (sB (true))) 124 (sB (true))) 125 (sV undef)) 126 (sV undef)) 127 (sV undef)) 128 (sV undef)) 129 (sV undef)) 130 (sV undef)) 131 (sV undef)) 132 (sV undef)) 133 (sV undef)) 134 (sV undef)) 135 (sV undef)) 136 (sV undef)) 137 (sB (true))) 138 (sB (true))) 139 (sV undef)) 140 (sV undef)) 141 (sV undef)) 142 (sV undef)) 143 (sV undef)) 144 (sV undef)) 145 (sV undef)) 146 (sB (true))) (upd (upd V0 16 (75, k16)) 12 (77, k12)) hp) (ldV (k16)[4]? fun v4 => (intV v4 .i64 fun i5 => (ite2 (decide ((i5 : Int) < x1)) (K (upd (upd (upd (upd (upd (upd (upd (upd (upd (upd (upd (upd (upd (upd (upd (upd (upd (upd (upd (upd (upd (upd (upd (upd (upd (upd (upd (upd (upd (upd (upd (upd (upd (upd (upd (upd (upd (upd (upd (upd (upd (upd (upd (upd (upd (upd (upd (upd (upd (upd (upd (upd (upd (upd (upd e 19 (sB (x19))) 18 (sB (x18))) 16 (SV.priv 16 0)) 14 (sV (Value.slice x14a x14n x14c))) 13 (sV (Value.map x13))) 12 (SV.priv 12 0)) 9 (sV (Value.pointer x9))) 2 (sI (x2))) 1 (sI (x1))) 101 (sV (Value.map x13))) 102 (sV (Value.agg ⟨l1⟩))) 103 (sI (i3))) 104 (sB ((decide ((i3 : Int) > 0))))) 105 (sB (false))) 106 (sB (x18))) 107 (sB ((!x18)))) 108 (sB ((!x18)))) 109 (sB (false))) 110 (sB (x19))) 111 (sB (x19))) 112 (sB (false))) 113 (SV.priv 16 4)) 114 (sI (i5))) 115 (sI (x1))) 116 (sB ((decide ((i5 : Int) < x1))))) 117 (sB ((decide ((i5 : Int) < x1))))) 118 (sB (true))) 119 (sV undef)) 120 (sV undef)) 121 (sV undef)) 122 (sV undef)) 123 (sB (true))) 124 (sB (true))) 125 (sV undef)) 126 (sV undef)) 127 (sV undef)) 128 (sV undef)) 129 (sV undef)) 130 (sV undef)) 131 (sV undef)) 132 (sV undef)) 133 (sV undef)) 134 (sV undef)) 135 (sV undef)) 136 (sV undef)) 137 (sB (true))) 138 (sB (true))) 139 (sV undef)) 140 (sV undef)) 141 (sV undef)) 142 (sV undef)) 143 (sV undef)) 144 (sV undef)) 145 (sV undef)) 146 (sB (true))) (upd (upd V0 16 (75, k16)) 12 (77, k12)) hp) (ldV (k16)[4]? fun v6 => (intV v6 .i64 fun i7 => (ite2 (decide ((i7 : Int) > x2)) (K (upd (upd (upd (upd (upd (upd (upd (upd (upd (upd (upd (upd (upd (upd (upd (upd (upd (upd (upd (upd (upd (upd (upd (upd (upd (upd (upd (upd (upd (upd (upd (upd (upd (upd (upd (upd (upd (upd (upd (upd (upd (upd (upd (upd (upd (upd (upd (upd (upd (upd (upd (upd (upd (upd (upd e 19 (sB (x19))) 18 (sB (x18))) 16 (SV.priv 16 0)) 14 (sV (Value.slice x14a x14n x14c))) 13 (sV (Value.map x13))) 12 (SV.priv 12 0)) 9 (sV (Value.pointer x9))) 2 (sI (x2))) 1 (sI (x1))) 101 (sV (Value.map x13))) 102 (sV (Value.agg ⟨l1⟩))) 103 (sI (i3))) 104 (sB ((decide ((i3 : Int) > 0))))) 105 (sB (false))) 106 (sB (x18))) 107 (sB ((!x18)))) 108 (sB ((!x18)))) 109 (sB (false))) 110 (sB (x19))) 111 (sB (x19))) 112 (sB (false))) 113 (SV.priv 16 4)) 114 (sI (i5))) 115 (sI (x1))) 116 (sB ((decide ((i5 : Int) < x1))))) 117 (sB ((decide ((i5 : Int) < x1))))) 118 (sB (false))) 119 (SV.priv 16 4)) 120 (sI (i7))) 121 (sI (x2))) 122 (sB ((decide ((i7 : Int) > x2))))) 123 (sB ((decide ((i7 : Int) > x2))))) 124 (sB (true))) 125 (sV undef)) 126 (sV undef)) 127 (sV undef)) 128 (sV undef)) 129 (sV undef)) 130 (sV undef)) 131 (sV undef)) 132 (sV undef)) 133 (sV undef)) 134 (sV undef)) 135 (sV undef)) 136 (sV undef)) 137 (sB (true))) 138 (sB (true))) 139 (sV undef)) 140 (sV undef)) 141 (sV undef)) 142 (sV undef)) 143 (sV undef)) 144 (sV undef)) 145 (sV undef)) 146 (sB (true))) (upd (upd V0 16 (75, k16)) 12 (77, k12)) hp) (ldV (k12)[6]? fun v8 => (boolV v8 fun q9 => (ite2 (!q9) (ldV (k12)[5]? fun v10 => (intV v10 .i64 fun i11 => (ldV (k16)[4]? fun v12 => (intV v12 .i64 fun i13 => (CF Try.prog 20 [(Value.int .i64 i11), (Value.int .i64 i13)] hp fun u14 h15 => (boolV u14 fun q16 => (ite2 (!q16) (K (upd (upd (upd (upd (upd (upd (upd (upd (upd (upd (upd (upd (upd (upd (upd (upd (upd (upd (upd (upd (upd (upd (upd (upd (upd (upd (upd (upd (upd (upd (upd (upd (upd (upd (upd (upd (upd (upd (upd (upd (upd (upd (upd (upd (upd (upd (upd (upd (upd (upd (upd (upd (upd (upd (upd e 19 (sB (x19))) 18 (sB (x18))) 16 (SV.priv 16 0)) 14 (sV (Value.slice x14a x14n x14c))) 13 (sV (Value.map x13))) 12 (SV.priv 12 0)) 9 (sV (Value.pointer x9))) 2 (sI (x2))) 1 (sI (x1))) 101 (sV (Value.map x13))) 102 (sV (Value.agg ⟨l1⟩))) 103 (sI (i3))) 104 (sB ((decide ((i3 : Int) > 0))))) 105 (sB (false))) 106 (sB (x18))) 107 (sB ((!x18)))) 108 (sB ((!x18)))) 109 (sB (false))) 110 (sB (x19))) 111 (sB (x19))) 112 (sB (false))) 113 (SV.priv 16 4)) 114 (sI (i5))) 115 (sI (x1))) 116 (sB ((decide ((i5 : Int) < x1))))) 117 (sB ((decide ((i5 : Int) < x1))))) 118 (sB (false))) 119 (SV.priv 16 4)) 120 (sI (i7))) 121 (sI (x2))) 122 (sB ((decide ((i7 : Int) > x2))))) 123 (sB ((decide ((i7 : Int) > x2))))) 124 (sB (false))) 125 (SV.priv 12 6)) 126 (sB (q9))) 127 (sB ((!q9)))) 128 (sB (true))) 129 (SV.priv 12 1)) 130 (SV.priv 12 5)) 131 (sI (i11))) 132 (SV.priv 16 4)) 133 (sI (i13))) 134 (sB (q16))) 135 (sB ((!q16)))) 136 (sB ((!q16)))) 137 (sB ((!q16)))) 138 (sB (true))) 139 (sV undef)) 140 (sV undef)) 141 (sV undef)) 142 (sV undef)) 143 (sV undef)) 144 (sV undef)) 145 (sV undef)) 146 (sB (true))) (upd (upd V0 16 (75, k16)) 12 (77, k12)) h15) (CF Try.prog 45 [(Value.pointer x9)] h15 fun u17 h18 => (slcV u17 fun a19 n20 c21 => (K (upd (upd (upd (upd (upd (upd (upd (upd (upd (upd (upd (upd (upd (upd (upd (upd (upd (upd (upd (upd (upd (upd (upd (upd (upd (upd (upd (upd (upd (upd (upd (upd (upd (upd (upd (upd (upd (upd (upd (upd (upd (upd (upd (upd (upd (upd (upd (upd (upd (upd (upd (upd (upd (upd (upd e 19 (sB (x19))) 18 (sB (x18))) 16 (SV.priv 16 0)) 14 (sV (Value.slice x14a x14n x14c))) 13 (sV (Value.map x13))) 12 (SV.priv 12 0)) 9 (sV (Value.pointer x9))) 2 (sI (x2))) 1 (sI (x1))) 101 (sV (Value.map x13))) 102 (sV (Value.agg ⟨l1⟩))) 103 (sI (i3))) 104 (sB ((decide ((i3 : Int) > 0))))) 105 (sB (false))) 106 (sB (x18))) 107 (sB ((!x18)))) 108 (sB ((!x18)))) 109 (sB (false))) 110 (sB (x19))) 111 (sB (x19))) 112 (sB (false))) 113 (SV.priv 16 4)) 114 (sI (i5))) 115 (sI (x1))) 116 (sB ((decide ((i5 : Int) < x1))))) 117 (sB ((decide ((i5 : Int) < x1))))) 118 (sB (false))) 119 (SV.priv 16 4)) 120 (sI (i7))) 121 (sI (x2))) 122 (sB ((decide ((i7 : Int) > x2))))) 123 (sB ((decide ((i7 : Int) > x2))))) 124 (sB (false))) 125 (SV.priv 12 6)) 126 (sB (q9))) 127 (sB ((!q9)))) 128 (sB (true))) 129 (SV.priv 12 1)) 130 (SV.priv 12 5)) 131 (sI (i11))) 132 (SV.priv 16 4)) 133 (sI (i13))) 134 (sB (q16))) 135 (sB ((!q16)))) 136 (sB ((!q16)))) 137 (sB ((!q16)))) 138 (sB (false))) 139 (sV (Value.pointer x9))) 140 (sV (Value.slice a19 n20 c21))) 141 (sI ((n20 : Nat)))) 142 (sV (Value.slice x14a x14n x14c))) 143 (sI ((x14n : Nat)))) 144 (sI ((IntKind.wrap .i64 ((x14n : Nat) + 1))))) 145 (sB ((((n20 : Nat) : Int) != (IntKind.wrap .i64 ((x14n : Nat) + 1)))))) 146 (sB ((((n20 : Nat) : Int) != (IntKind.wrap .i64 ((x14n : Nat) + 1)))))) (upd (upd V0 16 (75, k16)) 12 (77, k12)) h18)))))))))) (CF Try.prog 45 [(Value.pointer x9)] hp fun u22 h23 => (slcV u22 fun a24 n25 c26 => (K (upd (upd (upd (upd (upd (upd (upd (upd (upd (upd (upd (upd (upd (upd (upd (upd (upd (upd (upd (upd (upd (upd (upd (upd (upd (upd (upd (upd (upd (upd (upd (upd (upd (upd (upd (upd (upd (upd (upd (upd (upd (upd (upd (upd (upd (upd (upd (upd (upd (upd (upd (upd (upd (upd (upd e 19 (sB (x19))) 18 (sB (x18))) 16 (SV.priv 16 0)) 14 (sV (Value.slice x14a x14n x14c))) 13 (sV (Value.map x13))) 12 (SV.priv 12 0)) 9 (sV (Value.pointer x9))) 2 (sI (x2))) 1 (sI (x1))) 101 (sV (Value.map x13))) 102 (sV (Value.agg ⟨l1⟩))) 103 (sI (i3))) 104 (sB ((decide ((i3 : Int) > 0))))) 105 (sB (false))) 106 (sB (x18))) 107 (sB ((!x18)))) 108 (sB ((!x18)))) 109 (sB (false))) 110 (sB (x19))) 111 (sB (x19))) 112 (sB (false))) 113 (SV.priv 16 4)) 114 (sI (i5))) 115 (sI (x1))) 116 (sB ((decide ((i5 : Int) < x1))))) 117 (sB ((decide ((i5 : Int) < x1))))) 118 (sB (false))) 119 (SV.priv 16 4)) 120 (sI (i7))) 121 (sI (x2))) 122 (sB ((decide ((i7 : Int) > x2))))) 123 (sB ((decide ((i7 : Int) > x2))))) 124 (sB (false))) 125 (SV.priv 12 6)) 126 (sB (q9))) 127 (sB ((!q9)))) 128 (sB (false))) 129 (sV undef)) 130 (sV undef)) 131 (sV undef)) 132 (sV undef)) 133 (sV undef)) 134 (sV undef)) 135 (sV undef)) 136 (sB (false))) 137 (sB (false))) 138 (sB (false))) 139 (sV (Value.pointer x9))) 140 (sV (Value.slice a24 n25 c26))) 141 (sI ((n25 : Nat)))) 142 (sV (Value.slice x14a x14n x14c))) 143 (sI ((x14n : Nat)))) 144 (sI ((IntKind.wrap .i64 ((x14n : Nat) + 1))))) 145 (sB ((((n25 : Nat) : Int) != (IntKind.wrap .i64 ((x14n : Nat) + 1)))))) 146 (sB ((((n25 : Nat) : Int) != (IntKind.wrap .i64 ((x14n : Nat) + 1)))))) (upd (upd V0 16 (75, k16)) 12 (77, k12)) h23)))))))))))))))))) := by kernel_rfl
def F10_j6 (x1 : Int) (x2 : Int) (x3a : Option Addr) (x3n : Nat) (x3c : Nat) (x9 : Option Addr) (x11 : Int) (x13 : Option Nat) (x14a : Option Addr) (x14n : Nat) (x14c : Nat) (k12 : List Value) (hp : HP) (I4 : (Int) → HP → Prop) (K : Value → HP → Prop) : Prop :=
  (ldL (cellsN k12 1 4) fun l_27 => (ldV (k12)[5]? fun v_28 => (intV v_28 .i64 fun i_29 => (ldV (k12)[6]? fun v_30 => (boolV v_30 fun q_31 => (CF Try.prog 46 [(Value.pointer x9), (Value.agg ⟨l_27⟩), (Value.int .i64 i_29), (Value.bool q_31)] hp fun u_32 h_33 => (tup2V u_32 fun u_34 u_35 => (aggV u_34 fun l_36 => (intV u_35 .i64 fun i_37 => (if List.length l_36 = 5 then (if List.all l_36 one = true then (if 0 + List.length l_36 ≤ List.length [(Value.int .u8 0), (Value.int .u8 0), (Value.int .u8 0), (Value.int .u8 0), (Value.int .i64 0)] then (ite2 ((i_37 : Int) != 0) (CF Try.prog 45 [(Value.pointer x9)] h_33 fun u_38 h_39 => (slcV u_38 fun a_40 n_41 c_42 => (ite2 (((n_41 : Nat) : Int) != (x14n : Nat)) (K (Value.bool false) h_39) (F10_j5 x1 x2 x3a x3n x3c x9 x11 h_39 I4 K)))) (ldL (cellsN (splice [(Value.int .u8 0), (Value.int .u8 0), (Value.int .u8 0), (Value.int .u8 0), (Value.int .i64 0)] 0 l_36) 0 5) fun l_43 => (CF Try.prog 47 [(Value.pointer x9), (Value.agg ⟨l_43⟩)] h_33 fun u_44 h_45 => (tup2V u_44 fun u_46 u_47 => (boolV u_46 fun q_48 => (boolV u_47 fun q_49 => (ldL (cellsN (splice [(Value.int .u8 0), (Value.int .u8 0), (Value.int .u8 0), (Value.int .u8 0), (Value.int .i64 0)] 0 l_36) 0 5) fun l_85 => (rdS Try.prog (Instr.lookup 78 (Value.map x13) (Value.agg ⟨l_85⟩) false) h_45 fun u_86 => (intV u_86 .i64 fun i_87 => (ite2 (decide ((i_87 : Int) > 0)) (F10_j7 x1 x2 x3a x3n x3c x9 x11 x13 true k12 (splice [(Value.int .u8 0), (Value.int .u8 0), (Value.int .u8 0), (Value.int .u8 0), (Value.int .i64 0)] 0 l_36) h_45 I4 K) (ite2 (!q_48) (F10_j7 x1 x2 x3a x3n x3c x9 x11 x13 true k12 (splice [(Value.int .u8 0), (Value.int .u8 0), (Value.int .u8 0), (Value.int .u8 0), (Value.int .i64 0)] 0 l_36) h_45 I4 K) (ite2 q_49 (F10_j7 x1 x2 x3a x3n x3c x9 x11 x13 true k12 (splice [(Value.int .u8 0), (Value.int .u8 0), (Value.int .u8 0), (Value.int .u8 0), (Value.int .i64 0)] 0 l_36) h_45 I4 K) (ldV ((splice [(Value.int .u8 0), (Value.int .u8 0), (Value.int .u8 0), (Value.int .u8 0), (Value.int .i64 0)] 0 l_36))[4]? fun v_88 => (intV v_88 .i64 fun i_89 => (ite2 (decide ((i_89 : Int) < x1)) (F10_j7 x1 x2 x3a x3n x3c x9 x11 x13 true k12 (splice [(Value.int .u8 0), (Value.int .u8 0), (Value.int .u8 0), (Value.int .u8 0), (Value.int .i64 0)] 0 l_36) h_45 I4 K) (ldV ((splice [(Value.int .u8 0), (Value.int .u8 0), (Value.int .u8 0), (Value.int .u8 0), (Value.int .i64 0)] 0 l_36))[4]? fun v_90 => (intV v_90 .i64 fun i_91 => (ite2 (decide ((i_91 : Int) > x2)) (F10_j7 x1 x2 x3a x3n x3c x9 x11 x13 true k12 (splice [(Value.int .u8 0), (Value.int .u8 0), (Value.int .u8 0), (Value.int .u8 0), (Value.int .i64 0)] 0 l_36) h_45 I4 K) (ldV (k12)[6]? fun v_92 => (boolV v_92 fun q_93 => (ite2 (!q_93) (ldV (k12)[5]? fun v_94 => (intV v_94 .i64 fun i_95 => (ldV ((splice [(Value.int .u8 0), (Value.int .u8 0), (Value.int .u8 0), (Value.int .u8 0), (Value.int .i64 0)] 0 l_36))[4]? fun v_96 => (intV v_96 .i64 fun i_97 => (CF Try.prog 20 [(Value.int .i64 i_95), (Value.int .i64 i_97)] h_45 fun u_98 h_99 => (boolV u_98 fun q_100 => (ite2 (!q_100) (F10_j7 x1 x2 x3a x3n x3c x9 x11 x13 true k12 (splice [(Value.int .u8 0), (Value.int .u8 0), (Value.int .u8 0), (Value.int .u8 0), (Value.int .i64 0)] 0 l_36) h_99 I4 K) (CF Try.prog 45 [(Value.pointer x9)] h_99 fun u_101 h_102 => (slcV u_101 fun a_103 n_104 c_105 => (F10_j7 x1 x2 x3a x3n x3c x9 x11 x13 (((n_104 : Nat) : Int) != (IntKind.wrap .i64 ((x14n : Nat) + 1))) k12 (splice [(Value.int .u8 0), (Value.int .u8 0), (Value.int .u8 0), (Value.int .u8 0), (Value.int .i64 0)] 0 l_36) h_102 I4 K)))))))))) (CF Try.prog 45 [(Value.pointer x9)] h_45 fun u_106 h_107 => (slcV u_106 fun a_108 n_109 c_110 => (F10_j7 x1 x2 x3a x3n x3c x9 x11 x13 (((n_109 : Nat) : Int) != (IntKind.wrap .i64 ((x14n : Nat) + 1))) k12 (splice [(Value.int .u8 0), (Value.int .u8 0), (Value.int .u8 0), (Value.int .u8 0), (Value.int .i64 0)] 0 l_36) h_107 I4 K)))))))))))))))))))))))) else False) else False) else False))))))))))
theorem F10_r31 (e : Env) (x14a : Option Addr) (x14n : Nat) (x14c : Nat) (x15 : Int) (k12 : List Value) (hp : HP) (K : Env → PV → HP → Prop) : RW Try.prog 229 [12, 16, 56, 76, 77, 79, 80, 82, 113, 119, 125, 129, 130, 132, 149, 154, 157, 158, 165, 173, 174, 178, 180, 181, 191, 194, 195, 202, 203, 213, 219, 225] (opsAt Try.f10 [1, 1, 1, 1, 0, 1, 0, 0, 1, 0, 0, 1, 1, 0, 1, 0, 1, 1, 0, 1, 0, 0, 0, 0]) (List.range 4) (upd (upd e 15 (sI (x15))) 14 (sV (Value.slice x14a x14n x14c))) (upd V0 12 (77, k12)) hp K =
    (K (upd (upd (upd (upd (upd (upd e 15 (sI (x15))) 14 (sV (Value.slice x14a x14n x14c))) 63 (sI (x15))) 64 (sV (Value.slice x14a x14n x14c))) 65 (sI ((x14n : Nat)))) 66 (sB ((decide ((x15 : Int) < (x14n : Nat)))))) (upd V0 12 (77, k12)) hp) := by kernel_rfl
theorem F10_r32 (e : Env) (x13 : Option Nat) (x14a : Option Addr) (x14n : Nat) (x14c : Nat) (x15 : Int) (k12 : List Value) (hp : HP) (K : Env → PV → HP → Prop) : RW Try.prog 229 [12, 16, 56, 76, 77, 79, 80, 82, 113, 119, 125, 129, 130, 132, 149, 154, 157, 158, 165, 173, 174, 178, 180, 181, 191, 194, 195, 202, 203, 213, 219, 225] (opsAt Try.f10 [1, 1, 1, 1, 0, 1, 0, 0, 1, 0, 0, 1, 1, 0, 1, 0, 1, 1, 0, 1, 0, 0, 1, 0, 0]) (List.range 6) (upd (upd (upd e 15 (sI (x15))) 14 (sV (Value.slice x14a x14n x14c))) 13 (sV (Value.map x13))) (upd V0 12 (77, k12)) hp K =
    ((0 ≤ (x15 : Int)) ∧ ((x15 : Int) < (x14n : Nat)) ∧ (ptrN x14a fun b1 o2 => (ldL (HP.cellN hp b1 (o2 + Int.toNat x15 * 5) 5) fun l3 => (opS Try.prog (Instr.mapUpdate 78 (Value.map x13) (Value.agg ⟨l3⟩) (Value.int .i64 1)) hp fun u4 h5 => (K (upd (upd (upd (upd (upd (upd (upd (upd e 15 (sI (x15))) 14 (sV (Value.slice x14a x14n x14c))) 13 (sV (Value.map x13))) 69 (sV (Value.map x13))) 70 (sV (Value.slice x14a x14n x14c))) 71 (sI (x15))) 72 (sV (ptr b1 (o2 + Int.toNat x15 * 5)))) 73 (sV (Value.agg ⟨l3⟩))) (upd V0 12 (77, k12)) h5))))) := by kernel_rfl
theorem F10_r33 (e : Env) (x15 : Int) (k12 : List Value) (hp : HP) (K : Env → PV → HP → Prop) : RW Try.prog 229 [12, 16, 56, 76, 77, 79, 80, 82, 113, 119, 125, 129, 130, 132, 149, 154, 157, 158, 165, 173, 174, 178, 180, 181, 191, 194, 195, 202, 203, 213, 219, 225] (opsAt Try.f10 [1, 1, 1, 1, 0, 1, 0, 0, 1, 0, 0, 1, 1, 0, 1, 0, 1, 1, 0, 1, 0, 0, 1, 1]) (List.range 3) (upd e 15 (sI (x15))) (upd V0 12 (77, k12)) hp K =
    (K (upd (upd (upd (upd e 15 (sI (x15))) 67 (sI (x15))) 68 (sI ((IntKind.wrap .i64 (x15 + 1))))) 15 (sI ((IntKind.wrap .i64 (x15 + 1))))) (upd V0 12 (77, k12)) hp) := by kernel_rfl
def F10_l17 (x1 : Int) (x2 : Int) (x3a : Option Addr) (x3n : Nat) (x3c : Nat) (x9 : Option Addr) (x11 : Int) (x13 : Option Nat) (x14a : Option Addr) (x14n : Nat) (x14c : Nat) (k12 : List Value) (I4 : (Int) → HP → Prop) (K : Value → HP → Prop) (I17 : (Int) → HP → Prop) (x15 : Int) (hp : HP) : Prop :=
  (ite2 (decide ((x15 : Int) < (x14n : Nat))) ((0 ≤ (x15 : Int)) ∧ ((x15 : Int) < (x14n : Nat)) ∧ (ptrN x14a fun b_111 o_112 => (ldL (HP.cellN hp b_111 (o_112 + Int.toNat x15 * 5) 5) fun l_113 => (opS Try.prog (Instr.mapUpdate 78 (Value.map x13) (Value.agg ⟨l_113⟩) (Value.int .i64 1)) hp fun u_114 h_115 => (I17 (IntKind.wrap .i64 (x15 + 1)) h_115))))) (F10_j6 x1 x2 x3a x3n x3c x9 x11 x13 x14a x14n x14c k12 hp I4 K))
def F10_j16 (x1 : Int) (x2 : Int) (x3a : Option Addr) (x3n : Nat) (x3c : Nat) (x9 : Option Addr) (x11 : Int) (x13 : Option Nat) (x14a : Option Addr) (x14n : Nat) (x14c : Nat) (x15 : Int) (k12 : List Value) (hp : HP) (I4 : (Int) → HP → Prop) (K : Value → HP → Prop) : Prop :=
  (LoopP (σ := Int) (fun I s hp => F10_l17 x1 x2 x3a x3n x3c x9 x11 x13 x14a x14n x14c k12 I4 K I s hp) x15 hp)
theorem F10_r34 (e : Env) (k12 : List Value) (hp : HP) (K : Env → PV → HP → Prop) : RW Try.prog 229 [12, 16, 56, 76, 77, 79, 80, 82, 113, 119, 125, 129, 130, 132, 149, 154, 157, 158, 165, 173, 174, 178, 180, 181, 191, 194, 195, 202, 203, 213, 219, 225] (opsAt Try.f10 [1, 1, 1, 1, 0, 1, 0, 0, 1, 0, 0, 1, 1, 0, 1, 0, 1, 1, 0, 0]) (List.range 1) e (upd V0 12 (77, k12)) hp K =
    (K (upd e 15 (sI (0))) (upd V0 12 (77, k12)) hp) := by kernel_rfl
theorem F10_r35 (e : Env) (x57 : Int) (k12 : List Value) (hp : HP) (K : Env → PV → HP → Prop) : RW Try.prog 229 [12, 16, 56, 76, 77, 79, 80, 82, 113, 119, 125, 129, 130, 132, 149, 154, 157, 158, 165, 173, 174, 178, 180, 181, 191, 194, 195, 202, 203, 213, 219, 225] (opsAt Try.f10 [1, 1, 1, 1, 0, 1, 0, 0, 1, 0, 0, 1, 1, 0, 1, 1, 0]) (List.range 2) (upd e 57 (sV (Value.int .u8 x57))) (upd V0 12 (77, k12)) hp K =
    (K (upd (upd (upd e 57 (sV (Value.int .u8 x57))) 211 (sB (((x57 : Int) == 1)))) 210 (sB (((x57 : Int) == 1)))) (upd V0 12 (77, k12)) hp) := by kernel_rfl
theorem F10_r36 (e : Env) (x9 : Option Addr) (k12 : List Value) (hp : HP) (K : Env → PV → HP → Prop) : RW Try.prog 229 [12, 16, 56, 76, 77, 79, 80, 82, 113, 119, 125, 129, 130, 132, 149, 154, 157, 158, 165, 173, 174, 178, 180, 181, 191, 194, 195, 202, 203, 213, 219, 225] (opsAt Try.f10 [1, 1, 1, 1, 0, 1, 0, 0, 1, 0, 0, 1, 1, 0, 1, 1, 1, 0]) (List.range 4) (upd (upd e 12 (SV.priv 12 0)) 9 (sV (Value.pointer x9))) (upd V0 12 (77, k12)) hp K =
    (ldL (cellsN k12 1 5) fun l1 => (CF Try.prog 49 [(Value.pointer x9), (Value.agg ⟨l1⟩)] hp fun u2 h3 => (intV u2 .i64 fun i4 => (K (upd (upd (upd (upd (upd (upd e 12 (SV.priv 12 0)) 9 (sV (Value.pointer x9))) 212 (sV (Value.pointer x9))) 213 (SV.priv 12 1)) 214 (sV (Value.agg ⟨l1⟩))) 215 (sI (i4))) (upd V0 12 (77, k12)) h3)))) := by kernel_rfl
theorem F10_r37 (e : Env) (x57 : Int) (k12 : List Value) (hp : HP) (K : Env → PV → HP → Prop) : RW Try.prog 229 [12, 16, 56, 76, 77, 79, 80, 82, 113, 119, 125, 129, 130, 132, 149, 154, 157, 158, 165, 173, 174, 178, 180, 181, 191, 194, 195, 202, 203, 213, 219, 225] (opsAt Try.f10 [1, 1, 1, 1, 0, 1, 0, 0, 1, 0, 0, 1, 1, 0, 1, 1, 1, 1, 0]) (List.range 2) (upd e 57 (sV (Value.int .u8 x57))) (upd V0 12 (77, k12)) hp K =
    (K (upd (upd (upd e 57 (sV (Value.int .u8 x57))) 217 (sB (((x57 : Int) == 2)))) 216 (sB (((x57 : Int) == 2)))) (upd V0 12 (77, k12)) hp) := by kernel_rfl
theorem F10_r38 (e : Env) (x9 : Option Addr) (k12 : List Value) (hp : HP) (K : Env → PV → HP → Prop) : RW Try.prog 229 [12, 16, 56, 76, 77, 79, 80, 82, 113, 119, 125, 129, 130, 132, 149, 154, 157, 158, 165, 173, 174, 178, 180, 181, 191, 194, 195, 202, 203, 213, 219, 225] (opsAt Try.f10 [1, 1, 1, 1, 0, 1, 0, 0, 1, 0, 0, 1, 1, 0, 1, 1, 1, 1, 1, 0]) (List.range 4) (upd (upd e 12 (SV.priv 12 0)) 9 (sV (Value.pointer x9))) (upd V0 12 (77, k12)) hp K =
    (ldL (cellsN k12 1 5) fun l1 => (CF Try.prog 50 [(Value.pointer x9), (Value.agg ⟨l1⟩)] hp fun u2 h3 => (intV u2 .i64 fun i4 => (K (upd (upd (upd (upd (upd (upd e 12 (SV.priv 12 0)) 9 (sV (Value.pointer x9))) 218 (sV (Value.pointer x9))) 219 (SV.priv 12 1)) 220 (sV (Value.agg ⟨l1⟩))) 221 (sI (i4))) (upd V0 12 (77, k12)) h3)))) := by kernel_rfl
theorem F10_r39 (e : Env) (x57 : Int) (k12 : List Value) (hp : HP) (K : Env → PV → HP → Prop) : RW Try.prog 229 [12, 16, 56, 76, 77, 79, 80, 82, 113, 119, 125, 129, 130, 132, 149, 154, 157, 158, 165, 173, 174, 178, 180, 181, 191, 194, 195, 202, 203, 213, 219, 225] (opsAt Try.f10 [1, 1, 1, 1, 0, 1, 0, 0, 1, 0, 0, 1, 1, 0, 1, 1, 1, 1, 1, 1, 0]) (List.range 2) (upd e 57 (sV (Value.int .u8 x57))) (upd V0 12 (77, k12)) hp K =
    (K (upd (upd (upd e 57 (sV (Value.int .u8 x57))) 223 (sB (((x57 : Int) == 3)))) 222 (sB (((x57 : Int) == 3)))) (upd V0 12 (77, k12)) hp) := by kernel_rfl
theorem F10_r40 (e : Env) (x9 : Option Addr) (k12 : List Value) (hp : HP) (K : Env → PV → HP → Prop) : RW Try.prog 229 [12, 16, 56, 76, 77, 79, 80, 82, 113, 119, 125, 129, 130, 132, 149, 154, 157, 158, 165, 173, 174, 178, 180, 181, 191, 194, 195, 202, 203, 213, 219, 225] (opsAt Try.f10 [1, 1, 1, 1, 0, 1, 0, 0, 1, 0, 0, 1, 1, 0, 1, 1, 1, 1, 1, 1, 1, 0]) (List.range 4) (upd (upd e 12 (SV.priv 12 0)) 9 (sV (Value.pointer x9))) (upd V0 12 (77, k12)) hp K =
    (ldL (cellsN k12 1 5) fun l1 => (CF Try.prog 51 [(Value.pointer x9), (Value.agg ⟨l1⟩)] hp fun u2 h3 => (intV u2 .i64 fun i4 => (K (upd (upd (upd (upd (upd (upd e 12 (SV.priv 12 0)) 9 (sV (Value.pointer x9))) 224 (sV (Value.pointer x9))) 225 (SV.priv 12 1)) 226 (sV (Value.agg ⟨l1⟩))) 227 (sI (i4))) (upd V0 12 (77, k12)) h3)))) := by kernel_rfl
def F10_l4 (x1 : Int) (x2 : Int) (x3a : Option Addr) (x3n : Nat) (x3c : Nat) (x9 : Option Addr) (K : Value → HP → Prop) (I4 : (Int) → HP → Prop) (x11 : Int) (hp : HP) : Prop :=
  (ite2 (decide ((x11 : Int) < (x3n : Nat))) ((0 ≤ (x11 : Int)) ∧ ((x11 : Int) < (x3n : Nat)) ∧ (ptrN x3a fun b_16 o_17 => (ldL (HP.cellN hp b_16 (o_17 + Int.toNat x11 * 7) 7) fun l_18 => (if List.length l_18 = 7 then (if List.all l_18 one = true then (if 0 + List.length l_18 ≤ List.length [(Value.int .u8 0), (Value.int .u8 0), (Value.int .u8 0), (Value.int .u8 0), (Value.int .u8 0), (Value.int .i64 0), (Value.bool false)] then (ldV ((splice [(Value.int .u8 0), (Value.int .u8 0), (Value.int .u8 0), (Value.int .u8 0), (Value.int .u8 0), (Value.int .i64 0), (Value.bool false)] 0 l_18))[0]? fun v_19 => (intV v_19 .u8 fun i_20 => (ite2 ((i_20 : Int) == 0) (∀ b_21 : Nat, hp b_21 = .none → (CF Try.prog 45 [(Value.pointer x9)] (HP.set hp b_21 (.obj (.map #[] 0))) fun u_22 h_23 => (slcV u_22 fun a_24 n_25 c_26 => (F10_j16 x1 x2 x3a x3n x3c x9 x11 (some b_21) a_24 n_25 c_26 0 (splice [(Value.int .u8 0), (Value.int .u8 0), (Value.int .u8 0), (Value.int .u8 0), (Value.int .u8 0), (Value.int .i64 0), (Value.bool false)] 0 l_18) h_23 I4 K)))) (ite2 ((i_20 : Int) == 1) (ldL (cellsN (splice [(Value.int .u8 0), (Value.int .u8 0), (Value.int .u8 0), (Value.int .u8 0), (Value.int .u8 0), (Value.int .i64 0), (Value.bool false)] 0 l_18) 1 5) fun l_116 => (CF Try.prog 49 [(Value.pointer x9), (Value.agg ⟨l_116⟩)] hp fun u_117 h_118 => (intV u_117 .i64 fun i_119 => (F10_j5 x1 x2 x3a x3n x3c x9 x11 h_118 I4 K)))) (ite2 ((i_20 : Int) == 2) (ldL (cellsN (splice [(Value.int .u8 0), (Value.int .u8 0), (Value.int .u8 0), (Value.int .u8 0), (Value.int .u8 0), (Value.int .i64 0), (Value.bool false)] 0 l_18) 1 5) fun l_120 => (CF Try.prog 50 [(Value.pointer x9), (Value.agg ⟨l_120⟩)] hp fun u_121 h_122 => (intV u_121 .i64 fun i_123 => (F10_j5 x1 x2 x3a x3n x3c x9 x11 h_122 I4 K)))) (ite2 ((i_20 : Int) == 3) (ldL (cellsN (splice [(Value.int .u8 0), (Value.int .u8 0), (Value.int .u8 0), (Value.int .u8 0), (Value.int .u8 0), (Value.int .i64 0), (Value.bool false)] 0 l_18) 1 5) fun l_124 => (CF Try.prog 51 [(Value.pointer x9), (Value.agg ⟨l_124⟩)] hp fun u_125 h_126 => (intV u_125 .i64 fun i_127 => (F10_j5 x1 x2 x3a x3n x3c x9 x11 h_126 I4 K)))) (F10_j5 x1 x2 x3a x3n x3c x9 x11 hp I4 K))))))) else False) else False) else False)))) (F10_j2  hp  K))
def F10_j3 (x1 : Int) (x2 : Int) (x3a : Option Addr) (x3n : Nat) (x3c : Nat) (x9 : Option Addr) (x11 : Int) (hp : HP) (K : Value → HP → Prop) : Prop :=
  (LoopP (σ := Int) (fun I s hp => F10_l4 x1 x2 x3a x3n x3c x9  K I s hp) x11 hp)
theorem F10_r41 (e : Env) (hp : HP) (K : Env → PV → HP → Prop) : RW Try.prog 229 [12, 16, 56, 76, 77, 79, 80, 82, 113, 119, 125, 129, 130, 132, 149, 154, 157, 158, 165, 173, 174, 178, 180, 181, 191, 194, 195, 202, 203, 213, 219, 225] (opsAt Try.f10 [1, 1, 1, 1, 0, 0]) (List.range 1) e V0 hp K =
    (K (upd e 11 (sI (0))) V0 hp) := by kernel_rfl
def F10_j1 (x0a : Option Addr) (x0n : Nat) (x0c : Nat) (x1 : Int) (x2 : Int) (x3a : Option Addr) (x3n : Nat) (x3c : Nat) (x30 : Bool) (hp : HP) (K : Value → HP → Prop) : Prop :=
  (ite2 x30 (CF Try.prog 21 [] hp fun u_1 h_2 => (boolV u_1 fun q_3 => (K (Value.bool q_3) h_2))) (CF Try.prog 44 [(Value.slice x0a x0n x0c), (Value.int .i64 x1), (Value.int .i64 x2)] hp fun u_4 h_5 => (tup2V u_4 fun u_6 u_7 => (ptrV u_6 fun p_8 => (intV u_7 .i64 fun i_9 => (ite2 ((i_9 : Int) != 0) (ite2 (Option.isNone p_8) (CF Try.prog 21 [] h_5 fun u_10 h_11 => (boolV u_10 fun q_12 => (K (Value.bool q_12) h_11))) (K (Value.bool false) h_5)) (F10_j3 x1 x2 x3a x3n x3c p_8 0 h_5  K)))))))
theorem F10_r42 (e : Env) (x0a : Option Addr) (x0n : Nat) (x0c : Nat) (x1 : Int) (x2 : Int) (x3a : Option Addr) (x3n : Nat) (x3c : Nat) (hp : HP) (K : Env → PV → HP → Prop) : RW Try.prog 229 [12, 16, 56, 76, 77, 79, 80, 82, 113, 119, 125, 129, 130, 132, 149, 154, 157, 158, 165, 173, 174, 178, 180, 181, 191, 194, 195, 202, 203, 213, 219, 225] (opsAt Try.f10 [1, 0, 0]) (List.range 9) (upd (upd (upd (upd e 3 (sV (Value.slice x3a x3n x3c))) 2 (sI (x2))) 1 (sI (x1))) 0 (sV (Value.slice x0a x0n x0c))) V0 hp K =
    (CF Try.prog 43 [(Value.int .i64 x1), (Value.int .i64 x2), (Value.slice x3a x3n x3c)] hp fun u1 h2 => (boolV u1 fun q3 => (ite2 q3 (K (upd (upd (upd (upd (upd (upd (upd (upd (upd (upd (upd (upd (upd e 3 (sV (Value.slice x3a x3n x3c))) 2 (sI (x2))) 1 (sI (x1))) 0 (sV (Value.slice x0a x0n x0c))) 22 (sI (x1))) 23 (sI (x2))) 24 (sV (Value.slice x3a x3n x3c))) 25 (sB (q3))) 26 (sB (true))) 27 (sV undef)) 28 (sV undef)) 29 (sV undef)) 30 (sB (true))) V0 h2) (K (upd (upd (upd (upd (upd (upd (upd (upd (upd (upd (upd (upd (upd e 3 (sV (Value.slice x3a x3n x3c))) 2 (sI (x2))) 1 (sI (x1))) 0 (sV (Value.slice x0a x0n x0c))) 22 (sI (x1))) 23 (sI (x2))) 24 (sV (Value.slice x3a x3n x3c))) 25 (sB (q3))) 26 (sB (false))) 27 (sV (Value.slice x0a x0n x0c))) 28 (sI ((x0n : Nat)))) 29 (sB ((decide (((x0n : Nat) : Int) > 10))))) 30 (sB ((decide (((x0n : Nat) : Int) > 10))))) V0 h2)))) := by kernel_rfl
def F10 (x0a : Option Addr) (x0n : Nat) (x0c : Nat) (x1 : Int) (x2 : Int) (x3a : Option Addr) (x3n : Nat) (x3c : Nat) (hp : HP) (K : Value → HP → Prop) : Prop :=
  (CF Try.prog 43 [(Value.int .i64 x1), (Value.int .i64 x2), (Value.slice x3a x3n x3c)] hp fun u_128 h_129 => (boolV u_128 fun q_130 => (ite2 q_130 (F10_j1 x0a x0n x0c x1 x2 x3a x3n x3c true h_129  K) (F10_j1 x0a x0n x0c x1 x2 x3a x3n x3c (decide (((x0n : Nat) : Int) > 10)) h_129  K))))
noncomputable def F10_code : Code := (.seq (.region 0 (opsAt Try.f10 [0]) false) (.seq (.seq (.region 1 (opsAt Try.f10 [1, 0, 0]) false) (.cond (.tmp 30) (.seq (.region 2 (opsAt Try.f10 [1, 0, 1, 0, 0]) false) .ret) .skip)) (.seq (.region 3 (opsAt Try.f10 [1, 1, 0]) false) (.seq (.seq (.region 4 (opsAt Try.f10 [1, 1, 1, 0, 0]) false) (.cond (.tmp 40) (.seq (.region 5 (opsAt Try.f10 [1, 1, 1, 0, 1, 0, 0]) false) .ret) .skip)) (.seq (.seq (.region 6 (opsAt Try.f10 [1, 1, 1, 1, 0, 0]) false) (.block 0 (.loop (.seq (.seq (.region 7 (opsAt Try.f10 [1, 1, 1, 1, 0, 1, 0, 0, 0, 0]) false) (.cond (.tmp 49) .skip (.exit 0))) (.seq (.block 1 (.seq (.region 9 (opsAt Try.f10 [1, 1, 1, 1, 0, 1, 0, 0, 1, 0, 0, 0]) false) (.seq (.region 10 (opsAt Try.f10 [1, 1, 1, 1, 0, 1, 0, 0, 1, 0, 0, 1, 0]) false) (.block 2 (.seq (.region 11 (opsAt Try.f10 [1, 1, 1, 1, 0, 1, 0, 0, 1, 0, 0, 1, 1, 0, 0]) false) (.cond (.tmp 58) (.seq (.region 12 (opsAt Try.f10 [1, 1, 1, 1, 0, 1, 0, 0, 1, 0, 0, 1, 1, 0, 1, 0, 0]) false) (.seq (.region 13 (opsAt Try.f10 [1, 1, 1, 1, 0, 1, 0, 0, 1, 0, 0, 1, 1, 0, 1, 0, 1, 0]) false) (.seq (.seq (.region 14 (opsAt Try.f10 [1, 1, 1, 1, 0, 1, 0, 0, 1, 0, 0, 1, 1, 0, 1, 0, 1, 1, 0, 0]) false) (.block 3 (.loop (.seq (.seq (.region 15 (opsAt Try.f10 [1, 1, 1, 1, 0, 1, 0, 0, 1, 0, 0, 1, 1, 0, 1, 0, 1, 1, 0, 1, 0, 0, 0, 0]) false) (.cond (.tmp 66) .skip (.exit 3))) (.seq (.block 4 (.region 17 (opsAt Try.f10 [1, 1, 1, 1, 0, 1, 0, 0, 1, 0, 0, 1, 1, 0, 1, 0, 1, 1, 0, 1, 0, 0, 1, 0, 0]) false)) (.region 16 (opsAt Try.f10 [1, 1, 1, 1, 0, 1, 0, 0, 1, 0, 0, 1, 1, 0, 1, 0, 1, 1, 0, 1, 0, 0, 1, 1]) false)))))) (.seq (.region 18 (opsAt Try.f10 [1, 1, 1, 1, 0, 1, 0, 0, 1, 0, 0, 1, 1, 0, 1, 0, 1, 1, 1, 0]) false) (.seq (.seq (.region 19 (opsAt Try.f10 [1, 1, 1, 1, 0, 1, 0, 0, 1, 0, 0, 1, 1, 0, 1, 0, 1, 1, 1, 1, 0, 0]) false) (.cond (.tmp 88) (.seq (.seq (.region 20 (opsAt Try.f10 [1, 1, 1, 1, 0, 1, 0, 0, 1, 0, 0, 1, 1, 0, 1, 0, 1, 1, 1, 1, 0, 1, 0, 0, 0]) false) (.cond (.tmp 94) (.seq (.region 21 (opsAt Try.f10 [1, 1, 1, 1, 0, 1, 0, 0, 1, 0, 0, 1, 1, 0, 1, 0, 1, 1, 1, 1, 0, 1, 0, 0, 1, 0, 0]) false) .ret) .skip)) (.exit 1)) .skip)) (.seq (.region 22 (opsAt Try.f10 [1, 1, 1, 1, 0, 1, 0, 0, 1, 0, 0, 1, 1, 0, 1, 0, 1, 1, 1, 1, 1, 0]) false) (.seq (.seq (.region 23 (opsAt Try.f10 [1, 1, 1, 1, 0, 1, 0, 0, 1, 0, 0, 1, 1, 0, 1, 0, 1, 1, 1, 1, 1, 1, 0, 0]) false) (.cond (.tmp 146) (.seq (.region 24 (opsAt Try.f10 [1, 1, 1, 1, 0, 1, 0, 0, 1, 0, 0, 1, 1, 0, 1, 0, 1, 1, 1, 1, 1, 1, 0, 1, 0, 0]) false) .ret) .skip)) (.seq (.seq (.region 25 (opsAt Try.f10 [1, 1, 1, 1, 0, 1, 0, 0, 1, 0, 0, 1, 1, 0, 1, 0, 1, 1, 1, 1, 1, 1, 1, 0, 0]) false) (.block 5 (.loop (.seq (.seq (.region 26 (opsAt Try.f10 [1, 1, 1, 1, 0, 1, 0, 0, 1, 0, 0, 1, 1, 0, 1, 0, 1, 1, 1, 1, 1, 1, 1, 0, 1, 0, 0, 0, 0]) false) (.cond (.tmp 151) .skip (.exit 5))) (.seq (.block 6 (.seq (.region 28 (opsAt Try.f10 [1, 1, 1, 1, 0, 1, 0, 0, 1, 0, 0, 1, 1, 0, 1, 0, 1, 1, 1, 1, 1, 1, 1, 0, 1, 0, 0, 1, 0, 0, 0]) false) (.cond (.tmp 171) (.seq (.region 29 (opsAt Try.f10 [1, 1, 1, 1, 0, 1, 0, 0, 1, 0, 0, 1, 1, 0, 1, 0, 1, 1, 1, 1, 1, 1, 1, 0, 1, 0, 0, 1, 0, 0, 1, 0, 0]) false) .ret) .skip))) (.region 27 (opsAt Try.f10 [1, 1, 1, 1, 0, 1, 0, 0, 1, 0, 0, 1, 1, 0, 1, 0, 1, 1, 1, 1, 1, 1, 1, 0, 1, 0, 0, 1, 1]) false)))))) (.seq (.region 30 (opsAt Try.f10 [1, 1, 1, 1, 0, 1, 0, 0, 1, 0, 0, 1, 1, 0, 1, 0, 1, 1, 1, 1, 1, 1, 1, 1, 0]) false) (.cond (.tmp 184) (.seq (.region 31 (opsAt Try.f10 [1, 1, 1, 1, 0, 1, 0, 0, 1, 0, 0, 1, 1, 0, 1, 0, 1, 1, 1, 1, 1, 1, 1, 1, 1, 0, 0]) false) (.block 7 (.loop (.seq (.seq (.region 32 (opsAt Try.f10 [1, 1, 1, 1, 0, 1, 0, 0, 1, 0, 0, 1, 1, 0, 1, 0, 1, 1, 1, 1, 1, 1, 1, 1, 1, 0, 1, 0, 0, 0, 0]) false) (.cond (.tmp 188) .skip (.exit 7))) (.seq (.block 8 (.seq (.region 34 (opsAt Try.f10 [1, 1, 1, 1, 0, 1, 0, 0, 1, 0, 0, 1, 1, 0, 1, 0, 1, 1, 1, 1, 1, 1, 1, 1, 1, 0, 1, 0, 0, 1, 0, 0, 0]) false) (.cond (.tmp 209) (.seq (.region 35 (opsAt Try.f10 [1, 1, 1, 1, 0, 1, 0, 0, 1, 0, 0, 1, 1, 0, 1, 0, 1, 1, 1, 1, 1, 1, 1, 1, 1, 0, 1, 0, 0, 1, 0, 0, 1, 0, 0]) false) .ret) .skip))) (.region 33 (opsAt Try.f10 [1, 1, 1, 1, 0, 1, 0, 0, 1, 0, 0, 1, 1, 0, 1, 0, 1, 1, 1, 1, 1, 1, 1, 1, 1, 0, 1, 0, 0, 1, 1]) false)))))) .skip)))))))))) (.seq (.region 36 (opsAt Try.f10 [1, 1, 1, 1, 0, 1, 0, 0, 1, 0, 0, 1, 1, 0, 1, 1, 0]) false) (.cond (.tmp 210) (.region 37 (opsAt Try.f10 [1, 1, 1, 1, 0, 1, 0, 0, 1, 0, 0, 1, 1, 0, 1, 1, 1, 0]) false) (.seq (.region 38 (opsAt Try.f10 [1, 1, 1, 1, 0, 1, 0, 0, 1, 0, 0, 1, 1, 0, 1, 1, 1, 1, 0]) false) (.cond (.tmp 216) (.region 39 (opsAt Try.f10 [1, 1, 1, 1, 0, 1, 0, 0, 1, 0, 0, 1, 1, 0, 1, 1, 1, 1, 1, 0]) false) (.seq (.region 40 (opsAt Try.f10 [1, 1, 1, 1, 0, 1, 0, 0, 1, 0, 0, 1, 1, 0, 1, 1, 1, 1, 1, 1, 0]) false) (.cond (.tmp 222) (.region 41 (opsAt Try.f10 [1, 1, 1, 1, 0, 1, 0, 0, 1, 0, 0, 1, 1, 0, 1, 1, 1, 1, 1, 1, 1, 0]) false) .skip)))))))))))) (.region 8 (opsAt Try.f10 [1, 1, 1, 1, 0, 1, 0, 0, 1, 1]) false)))))) (.seq (.region 42 (opsAt Try.f10 [1, 1, 1, 1, 1, 0]) false) .ret))))))
theorem F10_body : Try.f10.body = some F10_code := by kernel_rfl
theorem F10_ok (x0a : Option Addr) (x0n : Nat) (x0c : Nat) (x1 : Int) (x2 : Int) (x3a : Option Addr) (x3n : Nat) (x3c : Nat) (hp : HP) (K : Value → HP → Prop) (h : F10 x0a x0n x0c x1 x2 x3a x3n x3c hp K) : CF Try.prog 10 [(Value.slice x0a x0n x0c), (Value.int .i64 x1), (Value.int .i64 x2), (Value.slice x3a x3n x3c)] hp K := by
 refine .inl ⟨by kernel_rfl, AC.intro (N := 229) Try.func10 F10_body rfl (Nat.le_of_ble_eq_true rfl) ?_⟩
 unfold F10 at h
 unfold F10_code
 refine AWP.seq' ?_
 refine AWP.rgn (F10_r0 (upd (upd (upd (upd E0 3 (sV (Value.slice x3a x3n x3c))) 2 (sI (x2))) 1 (sI (x1))) 0 (sV (Value.slice x0a x0n x0c)))  hp _) ?_ (Rv 0 _ (Rv 1 _ (Rv 2 _ (Rv 3 _ (Rn))))) (Sc rfl (Sc rfl (Sc rfl (Sc rfl (Sn))))) (Sn)
 refine AWP.seq' ?_
 refine AWP.seq (fun env pv hp => ∃ (x0a : Option Addr) (x0n : Nat) (x0c : Nat) (x1 : Int) (x2 : Int) (x3a : Option Addr) (x3n : Nat) (x3c : Nat) (x30 : Bool), Sub (upd (upd (upd (upd (upd E0 30 (sB (x30))) 3 (sV (Value.slice x3a x3n x3c))) 2 (sI (x2))) 1 (sI (x1))) 0 (sV (Value.slice x0a x0n x0c))) env ∧ Sub V0 pv ∧ (F10_j1 x0a x0n x0c x1 x2 x3a x3n x3c x30 hp  K)) ?_ ?_
 ·refine AWP.rgn (F10_r42 E0 x0a x0n x0c x1 x2 x3a x3n x3c hp _) ?_ (Rv 0 _ (Rv 1 _ (Rv 2 _ (Rv 3 _ (Rn))))) (Sc rfl (Sc rfl (Sc rfl (Sc rfl (Sn))))) (Sn)
  refine CF_mono h (fun u_128 h_129 h => ?_)
  refine boolV_mono h (fun q_130 h => ?_)
  refine ite2_mono h (fun h => ?_) (fun h => ?_)
  ·exact ⟨x0a, x0n, x0c, x1, x2, x3a, x3n, x3c, true, (Sc rfl (Sc rfl (Sc rfl (Sc rfl (Sc rfl (Sn)))))), (Sn), h⟩
  ·exact ⟨x0a, x0n, x0c, x1, x2, x3a, x3n, x3c, (decide (((x0n : Nat) : Int) > 10)), (Sc rfl (Sc rfl (Sc rfl (Sc rfl (Sc rfl (Sn)))))), (Sn), h⟩
 ·rintro env pv hp ⟨x0a, x0n, x0c, x1, x2, x3a, x3n, x3c, x30, he, hv, h⟩
  refine AWP.sub (env' := (upd (upd (upd (upd (upd E0 30 (sB (x30))) 3 (sV (Value.slice x3a x3n x3c))) 2 (sI (x2))) 1 (sI (x1))) 0 (sV (Value.slice x0a x0n x0c)))) (pv' := V0) ?_ (Rv 0 _ (Rv 1 _ (Rv 2 _ (Rv 3 _ (Rv 30 _ (Rn)))))) he hv (HSub.refl _)
  clear he hv
  unfold F10_j1 at h
  refine AWP.cond (t := x30) rfl (fun e => ?_) (fun e => ?_)
  ·replace h := ite2_t h e
   refine AWP.seq' ?_
   refine AWP.rgn (F10_r1 E0  hp _) ?_ (Rn) (Sn) (Sn)
   refine CF_mono h (fun u_1 h_2 h => ?_)
   refine boolV_mono h (fun q_3 h => ?_)
   refine AWP.ret ?_
   exact h
  ·replace h := ite2_f h e
   refine AWP.skip ?_
   refine AWP.seq' ?_
   refine AWP.rgn (F10_r2 (upd E0 3 (sV (Value.slice x3a x3n x3c))) x0a x0n x0c x1 x2 hp _) ?_ (Rv 0 _ (Rv 1 _ (Rv 2 _ (Rv 3 _ (Rn))))) (Sc rfl (Sc rfl (Sc rfl (Sc rfl (Sn))))) (Sn)
   refine CF_mono h (fun u_4 h_5 h => ?_)
   refine tup2V_mono h (fun u_6 u_7 h => ?_)
   refine ptrV_mono h (fun p_8 h => ?_)
   refine intV_mono h (fun i_9 h => ?_)
   refine AWP.seq' ?_
   refine AWP.seq' ?_
   refine AWP.rgn (F10_r3 (upd (upd (upd (upd E0 9 (sV (Value.pointer p_8))) 3 (sV (Value.slice x3a x3n x3c))) 2 (sI (x2))) 1 (sI (x1))) i_9 h_5 _) ?_ (Rv 10 _ (Rv 1 _ (Rv 2 _ (Rv 3 _ (Rv 9 _ (Rn)))))) (Sc rfl (Sc rfl (Sc rfl (Sc rfl (Sc rfl (Sn)))))) (Sn)
   refine AWP.cond (t := ((i_9 : Int) != 0)) rfl (fun e => ?_) (fun e => ?_)
   ·replace h := ite2_t h e
    refine AWP.seq' ?_
    refine AWP.rgn (F10_r4 E0 p_8 h_5 _) ?_ (Rv 9 _ (Rn)) (Sc rfl (Sn)) (Sn)
    refine ite2_mono h (fun h => ?_) (fun h => ?_)
    ·refine CF_mono h (fun u_10 h_11 h => ?_)
     refine boolV_mono h (fun q_12 h => ?_)
     refine AWP.ret ?_
     exact h
    ·refine AWP.ret ?_
     exact h
   ·replace h := ite2_f h e
    refine AWP.skip ?_
    refine AWP.seq (fun env pv hp => Sub E0 env ∧ Sub V0 pv ∧ (F10_j2  hp  K)) ?_ ?_
    ·refine AWP.seq (fun env pv hp => ∃ (x1 : Int) (x2 : Int) (x3a : Option Addr) (x3n : Nat) (x3c : Nat) (x9 : Option Addr) (x11 : Int), Sub (upd (upd (upd (upd (upd E0 11 (sI (x11))) 9 (sV (Value.pointer x9))) 3 (sV (Value.slice x3a x3n x3c))) 2 (sI (x2))) 1 (sI (x1))) env ∧ Sub V0 pv ∧ (F10_j3 x1 x2 x3a x3n x3c x9 x11 hp  K)) ?_ ?_
     ·refine AWP.rgn (F10_r41 (upd (upd (upd (upd E0 9 (sV (Value.pointer p_8))) 3 (sV (Value.slice x3a x3n x3c))) 2 (sI (x2))) 1 (sI (x1)))  h_5 _) ?_ (Rv 1 _ (Rv 2 _ (Rv 3 _ (Rv 9 _ (Rn))))) (Sc rfl (Sc rfl (Sc rfl (Sc rfl (Sn))))) (Sn)
      exact ⟨x1, x2, x3a, x3n, x3c, p_8, 0, (Sc rfl (Sc rfl (Sc rfl (Sc rfl (Sc rfl (Sn)))))), (Sn), h⟩
     ·rintro env pv hp ⟨x1, x2, x3a, x3n, x3c, x9, x11, he, hv, h⟩
      refine AWP.sub (env' := (upd (upd (upd (upd (upd E0 11 (sI (x11))) 9 (sV (Value.pointer x9))) 3 (sV (Value.slice x3a x3n x3c))) 2 (sI (x2))) 1 (sI (x1)))) (pv' := V0) ?_ (Rv 1 _ (Rv 2 _ (Rv 3 _ (Rv 9 _ (Rv 11 _ (Rn)))))) he hv (HSub.refl _)
      clear he hv
      unfold F10_j3 at h
      refine AWP.block ?_
      refine AWP.loop (σ := Int) (fun I s hp => F10_l4 x1 x2 x3a x3n x3c x9  K I s hp) (fun s => (upd (upd (upd (upd (upd E0 11 (sI (s))) 9 (sV (Value.pointer x9))) 3 (sV (Value.slice x3a x3n x3c))) 2 (sI (x2))) 1 (sI (x1)))) (fun s => V0) x11 h (fun s => (Rv 1 _ (Rv 2 _ (Rv 3 _ (Rv 9 _ (Rv 11 _ (Rn))))))) (Sc rfl (Sc rfl (Sc rfl (Sc rfl (Sc rfl (Sn)))))) (Sn) ?_
      intro I4 s hp h
      obtain ⟨x11, hs⟩ : ∃ x, x = s := ⟨s, rfl⟩
      subst hs
      replace h : F10_l4 x1 x2 x3a x3n x3c x9  K I4 x11 hp := h
      unfold F10_l4 at h
      refine AWP.seq' ?_
      refine AWP.seq' ?_
      refine AWP.rgn (F10_r6 (upd (upd (upd E0 9 (sV (Value.pointer x9))) 2 (sI (x2))) 1 (sI (x1))) x3a x3n x3c x11 hp _) ?_ (Rv 3 _ (Rv 11 _ (Rv 1 _ (Rv 2 _ (Rv 9 _ (Rn)))))) (Sc rfl (Sc rfl (Sc rfl (Sc rfl (Sc rfl (Sn)))))) (Sn)
      refine AWP.cond (t := (decide ((x11 : Int) < (x3n : Nat)))) rfl (fun e => ?_) (fun e => ?_)
      ·replace h := ite2_t h e
       refine AWP.skip ?_
       refine AWP.seq (fun env pv hp => ∃ (x11 : Int), Sub (upd (upd (upd (upd (upd E0 11 (sI (x11))) 9 (sV (Value.pointer x9))) 3 (sV (Value.slice x3a x3n x3c))) 2 (sI (x2))) 1 (sI (x1))) env ∧ Sub V0 pv ∧ (F10_j5 x1 x2 x3a x3n x3c x9 x11 hp I4 K)) ?_ ?_
       ·refine AWP.block ?_
        refine AWP.seq' ?_
        refine AWP.rgn (F10_r8 (upd (upd (upd E0 9 (sV (Value.pointer x9))) 2 (sI (x2))) 1 (sI (x1))) x3a x3n x3c x11 hp _) ?_ (Rv 3 _ (Rv 11 _ (Rv 1 _ (Rv 2 _ (Rv 9 _ (Rn)))))) (Sc rfl (Sc rfl (Sc rfl (Sc rfl (Sc rfl (Sn)))))) (Sn)
        refine ⟨h.1, h.2.1, ?_⟩
        replace h := h.2.2
        refine ptrN_mono h (fun b_16 o_17 h => ?_)
        refine ldL_mono h (fun l_18 h => ?_)
        refine if_mono h (fun h => ?_)
        refine if_mono h (fun h => ?_)
        refine if_mono h (fun h => ?_)
        refine AWP.seq' ?_
        refine AWP.rgn (F10_r9 (upd (upd (upd (upd (upd E0 11 (sI (x11))) 9 (sV (Value.pointer x9))) 3 (sV (Value.slice x3a x3n x3c))) 2 (sI (x2))) 1 (sI (x1))) (splice [(Value.int .u8 0), (Value.int .u8 0), (Value.int .u8 0), (Value.int .u8 0), (Value.int .u8 0), (Value.int .i64 0), (Value.bool false)] 0 l_18) hp _) ?_ (RefOk.p 12 12 0 (Rv 1 _ (Rv 2 _ (Rv 3 _ (Rv 9 _ (Rv 11 _ (Rn)))))) (fun e => by cases e)) (Sc rfl (Sc rfl (Sc rfl (Sc rfl (Sc rfl (Sc rfl (Sn))))))) (Sc rfl (Sn))
        refine ldV_mono h (fun v_19 h => ?_)
        refine intV_mono h (fun i_20 h => ?_)
        refine AWP.block ?_
        refine AWP.seq' ?_
        refine AWP.rgn (F10_r10 (upd (upd (upd (upd (upd (upd E0 12 (SV.priv 12 0)) 11 (sI (x11))) 9 (sV (Value.pointer x9))) 3 (sV (Value.slice x3a x3n x3c))) 2 (sI (x2))) 1 (sI (x1))) i_20 (splice [(Value.int .u8 0), (Value.int .u8 0), (Value.int .u8 0), (Value.int .u8 0), (Value.int .u8 0), (Value.int .i64 0), (Value.bool false)] 0 l_18) hp _) ?_ (Rv 57 _ (Rv 1 _ (Rv 2 _ (Rv 3 _ (Rv 9 _ (Rv 11 _ (RefOk.p 12 12 0 (Rn) (fun e => by cases e)))))))) (Sc rfl (Sc rfl (Sc rfl (Sc rfl (Sc rfl (Sc rfl (Sc rfl (Sn)))))))) (Sc rfl (Sn))
        refine AWP.cond (t := ((i_20 : Int) == 0)) rfl (fun e => ?_) (fun e => ?_)
        ·replace h := ite2_t h e
         refine AWP.seq' ?_
         refine AWP.rgn (F10_r11 (upd (upd (upd (upd (upd (upd E0 12 (SV.priv 12 0)) 11 (sI (x11))) 9 (sV (Value.pointer x9))) 3 (sV (Value.slice x3a x3n x3c))) 2 (sI (x2))) 1 (sI (x1))) (splice [(Value.int .u8 0), (Value.int .u8 0), (Value.int .u8 0), (Value.int .u8 0), (Value.int .u8 0), (Value.int .i64 0), (Value.bool false)] 0 l_18) hp _) ?_ (Rv 1 _ (Rv 2 _ (Rv 3 _ (Rv 9 _ (Rv 11 _ (RefOk.p 12 12 0 (Rn) (fun e => by cases e))))))) (Sc rfl (Sc rfl (Sc rfl (Sc rfl (Sc rfl (Sc rfl (Sn))))))) (Sc rfl (Sn))
         refine fun b_21 hb_b_21 => ?_
         replace h := h b_21 hb_b_21
         refine AWP.seq' ?_
         refine AWP.rgn (F10_r12 (upd (upd (upd (upd (upd (upd E0 13 (sV (Value.map (some b_21)))) 12 (SV.priv 12 0)) 11 (sI (x11))) 3 (sV (Value.slice x3a x3n x3c))) 2 (sI (x2))) 1 (sI (x1))) x9 (splice [(Value.int .u8 0), (Value.int .u8 0), (Value.int .u8 0), (Value.int .u8 0), (Value.int .u8 0), (Value.int .i64 0), (Value.bool false)] 0 l_18) (HP.set hp b_21 (.obj (.map #[] 0))) _) ?_ (Rv 9 _ (Rv 1 _ (Rv 2 _ (Rv 3 _ (Rv 11 _ (RefOk.p 12 12 0 (Rv 13 _ (Rn)) (fun e => by cases e))))))) (Sc rfl (Sc rfl (Sc rfl (Sc rfl (Sc rfl (Sc rfl (Sc rfl (Sn)))))))) (Sc rfl (Sn))
         refine CF_mono h (fun u_22 h_23 h => ?_)
         refine slcV_mono h (fun a_24 n_25 c_26 h => ?_)
         refine AWP.seq (fun env pv hp => ∃ (x11 : Int) (x13 : Option Nat) (x14a : Option Addr) (x14n : Nat) (x14c : Nat) (k12 : List Value), Sub (upd (upd (upd (upd (upd (upd (upd (upd E0 14 (sV (Value.slice x14a x14n x14c))) 13 (sV (Value.map x13))) 12 (SV.priv 12 0)) 11 (sI (x11))) 9 (sV (Value.pointer x9))) 3 (sV (Value.slice x3a x3n x3c))) 2 (sI (x2))) 1 (sI (x1))) env ∧ Sub (upd V0 12 (77, k12)) pv ∧ (F10_j6 x1 x2 x3a x3n x3c x9 x11 x13 x14a x14n x14c k12 hp I4 K)) ?_ ?_
         ·refine AWP.seq (fun env pv hp => ∃ (x11 : Int) (x13 : Option Nat) (x14a : Option Addr) (x14n : Nat) (x14c : Nat) (x15 : Int) (k12 : List Value), Sub (upd (upd (upd (upd (upd (upd (upd (upd (upd E0 15 (sI (x15))) 14 (sV (Value.slice x14a x14n x14c))) 13 (sV (Value.map x13))) 12 (SV.priv 12 0)) 11 (sI (x11))) 9 (sV (Value.pointer x9))) 3 (sV (Value.slice x3a x3n x3c))) 2 (sI (x2))) 1 (sI (x1))) env ∧ Sub (upd V0 12 (77, k12)) pv ∧ (F10_j16 x1 x2 x3a x3n x3c x9 x11 x13 x14a x14n x14c x15 k12 hp I4 K)) ?_ ?_
          ·refine AWP.rgn (F10_r34 (upd (upd (upd (upd (upd (upd (upd (upd E0 14 (sV (Value.slice a_24 n_25 c_26))) 13 (sV (Value.map (some b_21)))) 12 (SV.priv 12 0)) 11 (sI (x11))) 9 (sV (Value.pointer x9))) 3 (sV (Value.slice x3a x3n x3c))) 2 (sI (x2))) 1 (sI (x1))) (splice [(Value.int .u8 0), (Value.int .u8 0), (Value.int .u8 0), (Value.int .u8 0), (Value.int .u8 0), (Value.int .i64 0), (Value.bool false)] 0 l_18) h_23 _) ?_ (Rv 1 _ (Rv 2 _ (Rv 3 _ (Rv 9 _ (Rv 11 _ (RefOk.p 12 12 0 (Rv 13 _ (Rv 14 _ (Rn))) (fun e => by cases e))))))) (Sc rfl (Sc rfl (Sc rfl (Sc rfl (Sc rfl (Sc rfl (Sc rfl (Sc rfl (Sn))))))))) (Sc rfl (Sn))
           exact ⟨x11, (some b_21), a_24, n_25, c_26, 0, (splice [(Value.int .u8 0), (Value.int .u8 0), (Value.int .u8 0), (Value.int .u8 0), (Value.int .u8 0), (Value.int .i64 0), (Value.bool false)] 0 l_18), (Sc rfl (Sc rfl (Sc rfl (Sc rfl (Sc rfl (Sc rfl (Sc rfl (Sc rfl (Sc rfl (Sn)))))))))), (Sc rfl (Sn)), h⟩
          ·rintro env pv hp ⟨x11, x13, x14a, x14n, x14c, x15, k12, he, hv, h⟩
           refine AWP.sub (env' := (upd (upd (upd (upd (upd (upd (upd (upd (upd E0 15 (sI (x15))) 14 (sV (Value.slice x14a x14n x14c))) 13 (sV (Value.map x13))) 12 (SV.priv 12 0)) 11 (sI (x11))) 9 (sV (Value.pointer x9))) 3 (sV (Value.slice x3a x3n x3c))) 2 (sI (x2))) 1 (sI (x1)))) (pv' := (upd V0 12 (77, k12))) ?_ (Rv 1 _ (Rv 2 _ (Rv 3 _ (Rv 9 _ (Rv 11 _ (RefOk.p 12 12 0 (Rv 13 _ (Rv 14 _ (Rv 15 _ (Rn)))) (fun e => by cases e))))))) he hv (HSub.refl _)
           clear he hv
           unfold F10_j16 at h
           refine AWP.block ?_
           refine AWP.loop (σ := Int) (fun I s hp => F10_l17 x1 x2 x3a x3n x3c x9 x11 x13 x14a x14n x14c k12 I4 K I s hp) (fun s => (upd (upd (upd (upd (upd (upd (upd (upd (upd E0 15 (sI (s))) 14 (sV (Value.slice x14a x14n x14c))) 13 (sV (Value.map x13))) 12 (SV.priv 12 0)) 11 (sI (x11))) 9 (sV (Value.pointer x9))) 3 (sV (Value.slice x3a x3n x3c))) 2 (sI (x2))) 1 (sI (x1)))) (fun s => (upd V0 12 (77, k12))) x15 h (fun s => (Rv 1 _ (Rv 2 _ (Rv 3 _ (Rv 9 _ (Rv 11 _ (RefOk.p 12 12 0 (Rv 13 _ (Rv 14 _ (Rv 15 _ (Rn)))) (fun e => by cases e)))))))) (Sc rfl (Sc rfl (Sc rfl (Sc rfl (Sc rfl (Sc rfl (Sc rfl (Sc rfl (Sc rfl (Sn)))))))))) (Sc rfl (Sn)) ?_
           intro I17 s hp h
           obtain ⟨x15, hs⟩ : ∃ x, x = s := ⟨s, rfl⟩
           subst hs
           replace h : F10_l17 x1 x2 x3a x3n x3c x9 x11 x13 x14a x14n x14c k12 I4 K I17 x15 hp := h
           unfold F10_l17 at h
           refine AWP.seq' ?_
           refine AWP.seq' ?_
           refine AWP.rgn (F10_r31 (upd (upd (upd (upd (upd (upd (upd E0 13 (sV (Value.map x13))) 12 (SV.priv 12 0)) 11 (sI (x11))) 9 (sV (Value.pointer x9))) 3 (sV (Value.slice x3a x3n x3c))) 2 (sI (x2))) 1 (sI (x1))) x14a x14n x14c x15 k12 hp _) ?_ (Rv 14 _ (Rv 15 _ (Rv 1 _ (Rv 2 _ (Rv 3 _ (Rv 9 _ (Rv 11 _ (RefOk.p 12 12 0 (Rv 13 _ (Rn)) (fun e => by cases e))))))))) (Sc rfl (Sc rfl (Sc rfl (Sc rfl (Sc rfl (Sc rfl (Sc rfl (Sc rfl (Sc rfl (Sn)))))))))) (Sc rfl (Sn))
           refine AWP.cond (t := (decide ((x15 : Int) < (x14n : Nat)))) rfl (fun e => ?_) (fun e => ?_)
           ·replace h := ite2_t h e
            refine AWP.skip ?_
            refine AWP.seq' ?_
            refine AWP.block ?_
            refine AWP.rgn (F10_r32 (upd (upd (upd (upd (upd (upd E0 12 (SV.priv 12 0)) 11 (sI (x11))) 9 (sV (Value.pointer x9))) 3 (sV (Value.slice x3a x3n x3c))) 2 (sI (x2))) 1 (sI (x1))) x13 x14a x14n x14c x15 k12 hp _) ?_ (Rv 13 _ (Rv 14 _ (Rv 15 _ (Rv 1 _ (Rv 2 _ (Rv 3 _ (Rv 9 _ (Rv 11 _ (RefOk.p 12 12 0 (Rn) (fun e => by cases e)))))))))) (Sc rfl (Sc rfl (Sc rfl (Sc rfl (Sc rfl (Sc rfl (Sc rfl (Sc rfl (Sc rfl (Sn)))))))))) (Sc rfl (Sn))
            refine ⟨h.1, h.2.1, ?_⟩
            replace h := h.2.2
            refine ptrN_mono h (fun b_111 o_112 h => ?_)
            refine ldL_mono h (fun l_113 h => ?_)
            refine opS_mono h (fun u_114 h_115 h => ?_)
            refine AWP.rgn (F10_r33 (upd (upd (upd (upd (upd (upd (upd (upd E0 14 (sV (Value.slice x14a x14n x14c))) 13 (sV (Value.map x13))) 12 (SV.priv 12 0)) 11 (sI (x11))) 9 (sV (Value.pointer x9))) 3 (sV (Value.slice x3a x3n x3c))) 2 (sI (x2))) 1 (sI (x1))) x15 k12 h_115 _) ?_ (Rv 15 _ (Rv 1 _ (Rv 2 _ (Rv 3 _ (Rv 9 _ (Rv 11 _ (RefOk.p 12 12 0 (Rv 13 _ (Rv 14 _ (Rn))) (fun e => by cases e)))))))) (Sc rfl (Sc rfl (Sc rfl (Sc rfl (Sc rfl (Sc rfl (Sc rfl (Sc rfl (Sc rfl (Sn)))))))))) (Sc rfl (Sn))
            exact ⟨(IntKind.wrap .i64 (x15 + 1)), (Sc rfl (Sc rfl (Sc rfl (Sc rfl (Sc rfl (Sc rfl (Sc rfl (Sc rfl (Sc rfl (Sn)))))))))), (Sc rfl (Sn)), h⟩
           ·replace h := ite2_f h e
            refine AWP.exit ?_
            exact ⟨x11, x13, x14a, x14n, x14c, k12, (Sc rfl (Sc rfl (Sc rfl (Sc rfl (Sc rfl (Sc rfl (Sc rfl (Sc rfl (Sn))))))))), (Sc rfl (Sn)), h⟩
         ·rintro env pv hp ⟨x11, x13, x14a, x14n, x14c, k12, he, hv, h⟩
          refine AWP.sub (env' := (upd (upd (upd (upd (upd (upd (upd (upd E0 14 (sV (Value.slice x14a x14n x14c))) 13 (sV (Value.map x13))) 12 (SV.priv 12 0)) 11 (sI (x11))) 9 (sV (Value.pointer x9))) 3 (sV (Value.slice x3a x3n x3c))) 2 (sI (x2))) 1 (sI (x1)))) (pv' := (upd V0 12 (77, k12))) ?_ (Rv 1 _ (Rv 2 _ (Rv 3 _ (Rv 9 _ (Rv 11 _ (RefOk.p 12 12 0 (Rv 13 _ (Rv 14 _ (Rn))) (fun e => by cases e))))))) he hv (HSub.refl _)
          clear he hv
          unfold F10_j6 at h
          refine AWP.seq' ?_
          refine AWP.rgn (F10_r13 (upd (upd (upd (upd (upd (upd E0 14 (sV (Value.slice x14a x14n x14c))) 13 (sV (Value.map x13))) 11 (sI (x11))) 3 (sV (Value.slice x3a x3n x3c))) 2 (sI (x2))) 1 (sI (x1))) x9 k12 hp _) ?_ (Rv 9 _ (RefOk.p 12 12 0 (Rv 1 _ (Rv 2 _ (Rv 3 _ (Rv 11 _ (Rv 13 _ (Rv 14 _ (Rn))))))) (fun e => by cases e))) (Sc rfl (Sc rfl (Sc rfl (Sc rfl (Sc rfl (Sc rfl (Sc rfl (Sc rfl (Sn))))))))) (Sc rfl (Sn))
          refine ldL_mono h (fun l_27 h => ?_)
          refine ldV_mono h (fun v_28 h => ?_)
          refine intV_mono h (fun i_29 h => ?_)
          refine ldV_mono h (fun v_30 h => ?_)
          refine boolV_mono h (fun q_31 h => ?_)
          refine CF_mono h (fun u_32 h_33 h => ?_)
          refine tup2V_mono h (fun u_34 u_35 h => ?_)
          refine aggV_mono h (fun l_36 h => ?_)
          refine intV_mono h (fun i_37 h => ?_)
          refine if_mono h (fun h => ?_)
          refine if_mono h (fun h => ?_)
          refine if_mono h (fun h => ?_)
          refine AWP.seq' ?_
          refine AWP.seq' ?_
          refine AWP.rgn (F10_r14 (upd (upd (upd (upd (upd (upd (upd (upd (upd E0 16 (SV.priv 16 0)) 14 (sV (Value.slice x14a x14n x14c))) 13 (sV (Value.map x13))) 12 (SV.priv 12 0)) 11 (sI (x11))) 9 (sV (Value.pointer x9))) 3 (sV (Value.slice x3a x3n x3c))) 2 (sI (x2))) 1 (sI (x1))) i_37 k12 (splice [(Value.int .u8 0), (Value.int .u8 0), (Value.int .u8 0), (Value.int .u8 0), (Value.int .i64 0)] 0 l_36) h_33 _) ?_ (Rv 17 _ (Rv 1 _ (Rv 2 _ (Rv 3 _ (Rv 9 _ (Rv 11 _ (RefOk.p 12 12 0 (Rv 13 _ (Rv 14 _ (RefOk.p 16 16 0 (Rn) (fun e => by cases e)))) (fun e => by cases e)))))))) (Sc rfl (Sc rfl (Sc rfl (Sc rfl (Sc rfl (Sc rfl (Sc rfl (Sc rfl (Sc rfl (Sc rfl (Sn))))))))))) (Sc rfl (Sc rfl (Sn)))
          refine AWP.cond (t := ((i_37 : Int) != 0)) rfl (fun e => ?_) (fun e => ?_)
          ·replace h := ite2_t h e
           refine AWP.seq' ?_
           refine AWP.seq' ?_
           refine AWP.rgn (F10_r15 (upd (upd (upd (upd E0 11 (sI (x11))) 3 (sV (Value.slice x3a x3n x3c))) 2 (sI (x2))) 1 (sI (x1))) x9 x14a x14n x14c h_33 _) ?_ (Rv 9 _ (Rv 14 _ (Rv 1 _ (Rv 2 _ (Rv 3 _ (Rv 11 _ (Rn))))))) (Sc rfl (Sc rfl (Sc rfl (Sc rfl (Sc rfl (Sc rfl (Sn))))))) (Sn)
           refine CF_mono h (fun u_38 h_39 h => ?_)
           refine slcV_mono h (fun a_40 n_41 c_42 h => ?_)
           refine AWP.cond (t := (((n_41 : Nat) : Int) != (x14n : Nat))) rfl (fun e => ?_) (fun e => ?_)
           ·replace h := ite2_t h e
            refine AWP.seq' ?_
            refine AWP.rgn (F10_r16 E0  h_39 _) ?_ (Rn) (Sn) (Sn)
            refine AWP.ret ?_
            exact h
           ·replace h := ite2_f h e
            refine AWP.skip ?_
            refine AWP.exit ?_
            exact ⟨x11, (Sc rfl (Sc rfl (Sc rfl (Sc rfl (Sc rfl (Sn)))))), (Sn), h⟩
          ·replace h := ite2_f h e
           refine AWP.skip ?_
           refine AWP.seq' ?_
           refine AWP.rgn (F10_r17 (upd (upd (upd (upd (upd (upd (upd E0 14 (sV (Value.slice x14a x14n x14c))) 13 (sV (Value.map x13))) 12 (SV.priv 12 0)) 11 (sI (x11))) 3 (sV (Value.slice x3a x3n x3c))) 2 (sI (x2))) 1 (sI (x1))) x9 k12 (splice [(Value.int .u8 0), (Value.int .u8 0), (Value.int .u8 0), (Value.int .u8 0), (Value.int .i64 0)] 0 l_36) h_33 _) ?_ (Rv 9 _ (RefOk.p 16 16 0 (Rv 1 _ (Rv 2 _ (Rv 3 _ (Rv 11 _ (RefOk.p 12 12 0 (Rv 13 _ (Rv 14 _ (Rn))) (fun e => by cases e)))))) (fun e => by cases e))) (Sc rfl (Sc rfl (Sc rfl (Sc rfl (Sc rfl (Sc rfl (Sc rfl (Sc rfl (Sc rfl (Sn)))))))))) (Sc rfl (Sc rfl (Sn)))
           refine ldL_mono h (fun l_43 h => ?_)
           refine CF_mono h (fun u_44 h_45 h => ?_)
           refine tup2V_mono h (fun u_46 u_47 h => ?_)
           refine boolV_mono h (fun q_48 h => ?_)
           refine boolV_mono h (fun q_49 h => ?_)
           refine AWP.seq' ?_
           refine AWP.seq (fun env pv hp => ∃ (x11 : Int) (x13 : Option Nat) (x146 : Bool) (k12 : List Value) (k16 : List Value), Sub (upd (upd (upd (upd (upd (upd (upd (upd (upd E0 146 (sB (x146))) 16 (SV.priv 16 0)) 13 (sV (Value.map x13))) 12 (SV.priv 12 0)) 11 (sI (x11))) 9 (sV (Value.pointer x9))) 3 (sV (Value.slice x3a x3n x3c))) 2 (sI (x2))) 1 (sI (x1))) env ∧ Sub (upd (upd V0 16 (75, k16)) 12 (77, k12)) pv ∧ (F10_j7 x1 x2 x3a x3n x3c x9 x11 x13 x146 k12 k16 hp I4 K)) ?_ ?_
           ·refine AWP.rgn (F10_r30 (upd (upd E0 11 (sI (x11))) 3 (sV (Value.slice x3a x3n x3c))) x1 x2 x9 x13 x14a x14n x14c q_48 q_49 k12 (splice [(Value.int .u8 0), (Value.int .u8 0), (Value.int .u8 0), (Value.int .u8 0), (Value.int .i64 0)] 0 l_36) h_45 _) ?_ (Rv 1 _ (Rv 2 _ (Rv 9 _ (RefOk.p 12 12 0 (Rv 13 _ (Rv 14 _ (RefOk.p 16 16 0 (Rv 18 _ (Rv 19 _ (Rv 3 _ (Rv 11 _ (Rn))))) (fun e => by cases e)))) (fun e => by cases e))))) (Sc rfl (Sc rfl (Sc rfl (Sc rfl (Sc rfl (Sc rfl (Sc rfl (Sc rfl (Sc rfl (Sc rfl (Sc rfl (Sn)))))))))))) (Sc rfl (Sc rfl (Sn)))
            refine ldL_mono h (fun l_85 h => ?_)
            refine rdS_mono h (fun u_86 h => ?_)
            refine intV_mono h (fun i_87 h => ?_)
            refine ite2_mono h (fun h => ?_) (fun h => ?_)
            ·exact ⟨x11, x13, true, k12, (splice [(Value.int .u8 0), (Value.int .u8 0), (Value.int .u8 0), (Value.int .u8 0), (Value.int .i64 0)] 0 l_36), (Sc rfl (Sc rfl (Sc rfl (Sc rfl (Sc rfl (Sc rfl (Sc rfl (Sc rfl (Sc rfl (Sn)))))))))), (Sc rfl (Sc rfl (Sn))), h⟩
            ·refine ite2_mono h (fun h => ?_) (fun h => ?_)
             ·exact ⟨x11, x13, true, k12, (splice [(Value.int .u8 0), (Value.int .u8 0), (Value.int .u8 0), (Value.int .u8 0), (Value.int .i64 0)] 0 l_36), (Sc rfl (Sc rfl (Sc rfl (Sc rfl (Sc rfl (Sc rfl (Sc rfl (Sc rfl (Sc rfl (Sn)))))))))), (Sc rfl (Sc rfl (Sn))), h⟩
             ·refine ite2_mono h (fun h => ?_) (fun h => ?_)
              ·exact ⟨x11, x13, true, k12, (splice [(Value.int .u8 0), (Value.int .u8 0), (Value.int .u8 0), (Value.int .u8 0), (Value.int .i64 0)] 0 l_36), (Sc rfl (Sc rfl (Sc rfl (Sc rfl (Sc rfl (Sc rfl (Sc rfl (Sc rfl (Sc rfl (Sn)))))))))), (Sc rfl (Sc rfl (Sn))), h⟩
              ·refine ldV_mono h (fun v_88 h => ?_)
               refine intV_mono h (fun i_89 h => ?_)
               refine ite2_mono h (fun h => ?_) (fun h => ?_)
               ·exact ⟨x11, x13, true, k12, (splice [(Value.int .u8 0), (Value.int .u8 0), (Value.int .u8 0), (Value.int .u8 0), (Value.int .i64 0)] 0 l_36), (Sc rfl (Sc rfl (Sc rfl (Sc rfl (Sc rfl (Sc rfl (Sc rfl (Sc rfl (Sc rfl (Sn)))))))))), (Sc rfl (Sc rfl (Sn))), h⟩
               ·refine ldV_mono h (fun v_90 h => ?_)
                refine intV_mono h (fun i_91 h => ?_)
                refine ite2_mono h (fun h => ?_) (fun h => ?_)
                ·exact ⟨x11, x13, true, k12, (splice [(Value.int .u8 0), (Value.int .u8 0), (Value.int .u8 0), (Value.int .u8 0), (Value.int .i64 0)] 0 l_36), (Sc rfl (Sc rfl (Sc rfl (Sc rfl (Sc rfl (Sc rfl (Sc rfl (Sc rfl (Sc rfl (Sn)))))))))), (Sc rfl (Sc rfl (Sn))), h⟩
                ·refine ldV_mono h (fun v_92 h => ?_)
                 refine boolV_mono h (fun q_93 h => ?_)
                 refine ite2_mono h (fun h => ?_) (fun h => ?_)
                 ·refine ldV_mono h (fun v_94 h => ?_)
                  refine intV_mono h (fun i_95 h => ?_)
                  refine ldV_mono h (fun v_96 h => ?_)
                  refine intV_mono h (fun i_97 h => ?_)
                  refine CF_mono h (fun u_98 h_99 h => ?_)
                  refine boolV_mono h (fun q_100 h => ?_)
                  refine ite2_mono h (fun h => ?_) (fun h => ?_)
                  ·exact ⟨x11, x13, true, k12, (splice [(Value.int .u8 0), (Value.int .u8 0), (Value.int .u8 0), (Value.int .u8 0), (Value.int .i64 0)] 0 l_36), (Sc rfl (Sc rfl (Sc rfl (Sc rfl (Sc rfl (Sc rfl (Sc rfl (Sc rfl (Sc rfl (Sn)))))))))), (Sc rfl (Sc rfl (Sn))), h⟩
                  ·refine CF_mono h (fun u_101 h_102 h => ?_)
                   refine slcV_mono h (fun a_103 n_104 c_105 h => ?_)
                   exact ⟨x11, x13, (((n_104 : Nat) : Int) != (IntKind.wrap .i64 ((x14n : Nat) + 1))), k12, (splice [(Value.int .u8 0), (Value.int .u8 0), (Value.int .u8 0), (Value.int .u8 0), (Value.int .i64 0)] 0 l_36), (Sc rfl (Sc rfl (Sc rfl (Sc rfl (Sc rfl (Sc rfl (Sc rfl (Sc rfl (Sc rfl (Sn)))))))))), (Sc rfl (Sc rfl (Sn))), h⟩
                 ·refine CF_mono h (fun u_106 h_107 h => ?_)
                  refine slcV_mono h (fun a_108 n_109 c_110 h => ?_)
                  exact ⟨x11, x13, (((n_109 : Nat) : Int) != (IntKind.wrap .i64 ((x14n : Nat) + 1))), k12, (splice [(Value.int .u8 0), (Value.int .u8 0), (Value.int .u8 0), (Value.int .u8 0), (Value.int .i64 0)] 0 l_36), (Sc rfl (Sc rfl (Sc rfl (Sc rfl (Sc rfl (Sc rfl (Sc rfl (Sc rfl (Sc rfl (Sn)))))))))), (Sc rfl (Sc rfl (Sn))), h⟩
           ·rintro env pv hp ⟨x11, x13, x146, k12, k16, he, hv, h⟩
            refine AWP.sub (env' := (upd (upd (upd (upd (upd (upd (upd (upd (upd E0 146 (sB (x146))) 16 (SV.priv 16 0)) 13 (sV (Value.map x13))) 12 (SV.priv 12 0)) 11 (sI (x11))) 9 (sV (Value.pointer x9))) 3 (sV (Value.slice x3a x3n x3c))) 2 (sI (x2))) 1 (sI (x1)))) (pv' := (upd (upd V0 16 (75, k16)) 12 (77, k12))) ?_ (Rv 1 _ (Rv 2 _ (Rv 3 _ (Rv 9 _ (Rv 11 _ (RefOk.p 12 12 0 (Rv 13 _ (RefOk.p 16 16 0 (Rv 146 _ (Rn)) (fun e => by cases e))) (fun e => by cases e))))))) he hv (HSub.refl _)
            clear he hv
            unfold F10_j7 at h
            refine AWP.cond (t := x146) rfl (fun e => ?_) (fun e => ?_)
            ·replace h := ite2_t h e
             refine AWP.seq' ?_
             refine AWP.rgn (F10_r18 E0  hp _) ?_ (Rn) (Sn) (Sn)
             refine AWP.ret ?_
             exact h
            ·replace h := ite2_f h e
             refine AWP.skip ?_
             refine AWP.seq (fun env pv hp => ∃ (x11 : Int) (x13 : Option Nat) (k12 : List Value) (k16 : List Value), Sub (upd (upd (upd (upd (upd (upd (upd (upd E0 16 (SV.priv 16 0)) 13 (sV (Value.map x13))) 12 (SV.priv 12 0)) 11 (sI (x11))) 9 (sV (Value.pointer x9))) 3 (sV (Value.slice x3a x3n x3c))) 2 (sI (x2))) 1 (sI (x1))) env ∧ Sub (upd (upd V0 16 (75, k16)) 12 (77, k12)) pv ∧ (F10_j8 x1 x2 x3a x3n x3c x9 x11 x13 k12 k16 hp I4 K)) ?_ ?_
             ·refine AWP.seq (fun env pv hp => ∃ (x11 : Int) (x13 : Option Nat) (x20 : Int) (k12 : List Value) (k16 : List Value), Sub (upd (upd (upd (upd (upd (upd (upd (upd (upd E0 20 (sI (x20))) 16 (SV.priv 16 0)) 13 (sV (Value.map x13))) 12 (SV.priv 12 0)) 11 (sI (x11))) 9 (sV (Value.pointer x9))) 3 (sV (Value.slice x3a x3n x3c))) 2 (sI (x2))) 1 (sI (x1))) env ∧ Sub (upd (upd V0 16 (75, k16)) 12 (77, k12)) pv ∧ (F10_j13 x1 x2 x3a x3n x3c x9 x11 x13 x20 k12 k16 hp I4 K)) ?_ ?_
              ·refine AWP.rgn (F10_r29 (upd (upd (upd (upd (upd (upd (upd E0 16 (SV.priv 16 0)) 13 (sV (Value.map x13))) 12 (SV.priv 12 0)) 11 (sI (x11))) 9 (sV (Value.pointer x9))) 3 (sV (Value.slice x3a x3n x3c))) 2 (sI (x2))) x1 k12 k16 hp _) ?_ (Rv 1 _ (Rv 2 _ (Rv 3 _ (Rv 9 _ (Rv 11 _ (RefOk.p 12 12 0 (Rv 13 _ (RefOk.p 16 16 0 (Rn) (fun e => by cases e))) (fun e => by cases e))))))) (Sc rfl (Sc rfl (Sc rfl (Sc rfl (Sc rfl (Sc rfl (Sc rfl (Sc rfl (Sn))))))))) (Sc rfl (Sc rfl (Sn)))
               exact ⟨x11, x13, x1, k12, k16, (Sc rfl (Sc rfl (Sc rfl (Sc rfl (Sc rfl (Sc rfl (Sc rfl (Sc rfl (Sc rfl (Sn)))))))))), (Sc rfl (Sc rfl (Sn))), h⟩
              ·rintro env pv hp ⟨x11, x13, x20, k12, k16, he, hv, h⟩
               refine AWP.sub (env' := (upd (upd (upd (upd (upd (upd (upd (upd (upd E0 20 (sI (x20))) 16 (SV.priv 16 0)) 13 (sV (Value.map x13))) 12 (SV.priv 12 0)) 11 (sI (x11))) 9 (sV (Value.pointer x9))) 3 (sV (Value.slice x3a x3n x3c))) 2 (sI (x2))) 1 (sI (x1)))) (pv' := (upd (upd V0 16 (75, k16)) 12 (77, k12))) ?_ (Rv 1 _ (Rv 2 _ (Rv 3 _ (Rv 9 _ (Rv 11 _ (RefOk.p 12 12 0 (Rv 13 _ (RefOk.p 16 16 0 (Rv 20 _ (Rn)) (fun e => by cases e))) (fun e => by cases e))))))) he hv (HSub.refl _)
               clear he hv
               unfold F10_j13 at h
               refine AWP.block ?_
               refine AWP.loop (σ := Int) (fun I s hp => F10_l14 x1 x2 x3a x3n x3c x9 x11 x13 k12 k16 I4 K I s hp) (fun s => (upd (upd (upd (upd (upd (upd (upd (upd (upd E0 20 (sI (s))) 16 (SV.priv 16 0)) 13 (sV (Value.map x13))) 12 (SV.priv 12 0)) 11 (sI (x11))) 9 (sV (Value.pointer x9))) 3 (sV (Value.slice x3a x3n x3c))) 2 (sI (x2))) 1 (sI (x1)))) (fun s => (upd (upd V0 16 (75, k16)) 12 (77, k12))) x20 h (fun s => (Rv 1 _ (Rv 2 _ (Rv 3 _ (Rv 9 _ (Rv 11 _ (RefOk.p 12 12 0 (Rv 13 _ (RefOk.p 16 16 0 (Rv 20 _ (Rn)) (fun e => by cases e))) (fun e => by cases e)))))))) (Sc rfl (Sc rfl (Sc rfl (Sc rfl (Sc rfl (Sc rfl (Sc rfl (Sc rfl (Sc rfl (Sn)))))))))) (Sc rfl (Sc rfl (Sn))) ?_
               intro I14 s hp h
               obtain ⟨x20, hs⟩ : ∃ x, x = s := ⟨s, rfl⟩
               subst hs
               replace h : F10_l14 x1 x2 x3a x3n x3c x9 x11 x13 k12 k16 I4 K I14 x20 hp := h
               unfold F10_l14 at h
               refine AWP.seq' ?_
               refine AWP.seq' ?_
               refine AWP.rgn (F10_r25 (upd (upd (upd (upd (upd (upd (upd E0 13 (sV (Value.map x13))) 12 (SV.priv 12 0)) 11 (sI (x11))) 9 (sV (Value.pointer x9))) 3 (sV (Value.slice x3a x3n x3c))) 2 (sI (x2))) 1 (sI (x1))) x20 k12 k16 hp _) ?_ (RefOk.p 16 16 0 (Rv 20 _ (Rv 1 _ (Rv 2 _ (Rv 3 _ (Rv 9 _ (Rv 11 _ (RefOk.p 12 12 0 (Rv 13 _ (Rn)) (fun e => by cases e)))))))) (fun e => by cases e)) (Sc rfl (Sc rfl (Sc rfl (Sc rfl (Sc rfl (Sc rfl (Sc rfl (Sc rfl (Sc rfl (Sn)))))))))) (Sc rfl (Sc rfl (Sn)))
               refine ldV_mono h (fun v_70 h => ?_)
               refine intV_mono h (fun i_71 h => ?_)
               refine AWP.cond (t := (decide ((x20 : Int) < i_71))) rfl (fun e => ?_) (fun e => ?_)
               ·replace h := ite2_t h e
                refine AWP.skip ?_
                refine AWP.seq' ?_
                refine AWP.block ?_
                refine AWP.seq (fun env pv hp => ∃ (x20 : Int) (x171 : Bool), Sub (upd (upd (upd (upd (upd (upd (upd (upd (upd (upd E0 171 (sB (x171))) 20 (sI (x20))) 16 (SV.priv 16 0)) 13 (sV (Value.map x13))) 12 (SV.priv 12 0)) 11 (sI (x11))) 9 (sV (Value.pointer x9))) 3 (sV (Value.slice x3a x3n x3c))) 2 (sI (x2))) 1 (sI (x1))) env ∧ Sub (upd (upd V0 16 (75, k16)) 12 (77, k12)) pv ∧ (F10_j15 x1 x2 x3a x3n x3c x9 x11 x13 x20 x171 k12 k16 hp I4 I14 K)) ?_ ?_
                ·refine AWP.rgn (F10_r28 (upd (upd (upd (upd (upd E0 11 (sI (x11))) 9 (sV (Value.pointer x9))) 3 (sV (Value.slice x3a x3n x3c))) 2 (sI (x2))) 1 (sI (x1))) x13 x20 k12 k16 hp _) ?_ (RefOk.p 12 12 0 (Rv 13 _ (RefOk.p 16 16 0 (Rv 20 _ (Rv 1 _ (Rv 2 _ (Rv 3 _ (Rv 9 _ (Rv 11 _ (Rn))))))) (fun e => by cases e))) (fun e => by cases e)) (Sc rfl (Sc rfl (Sc rfl (Sc rfl (Sc rfl (Sc rfl (Sc rfl (Sc rfl (Sc rfl (Sn)))))))))) (Sc rfl (Sc rfl (Sn)))
                 refine ldV_mono h (fun v_72 h => ?_)
                 refine boolV_mono h (fun q_73 h => ?_)
                 refine ite2_mono h (fun h => ?_) (fun h => ?_)
                 ·refine ldL_mono h (fun l_74 h => ?_)
                  refine if_mono h (fun h => ?_)
                  refine rdS_mono h (fun u_75 h => ?_)
                  refine intV_mono h (fun i_76 h => ?_)
                  exact ⟨x20, ((i_76 : Int) == 0), (Sc rfl (Sc rfl (Sc rfl (Sc rfl (Sc rfl (Sc rfl (Sc rfl (Sc rfl (Sc rfl (Sc rfl (Sn))))))))))), (Sc rfl (Sc rfl (Sn))), h⟩
                 ·refine ldV_mono h (fun v_77 h => ?_)
                  refine intV_mono h (fun i_78 h => ?_)
                  refine CF_mono h (fun u_79 h_80 h => ?_)
                  refine boolV_mono h (fun q_81 h => ?_)
                  refine ite2_mono h (fun h => ?_) (fun h => ?_)
                  ·refine ldL_mono h (fun l_82 h => ?_)
                   refine if_mono h (fun h => ?_)
                   refine rdS_mono h (fun u_83 h => ?_)
                   refine intV_mono h (fun i_84 h => ?_)
                   exact ⟨x20, ((i_84 : Int) == 0), (Sc rfl (Sc rfl (Sc rfl (Sc rfl (Sc rfl (Sc rfl (Sc rfl (Sc rfl (Sc rfl (Sc rfl (Sn))))))))))), (Sc rfl (Sc rfl (Sn))), h⟩
                  ·exact ⟨x20, false, (Sc rfl (Sc rfl (Sc rfl (Sc rfl (Sc rfl (Sc rfl (Sc rfl (Sc rfl (Sc rfl (Sc rfl (Sn))))))))))), (Sc rfl (Sc rfl (Sn))), h⟩
                ·rintro env pv hp ⟨x20, x171, he, hv, h⟩
                 refine AWP.sub (env' := (upd (upd (upd (upd (upd (upd (upd (upd (upd (upd E0 171 (sB (x171))) 20 (sI (x20))) 16 (SV.priv 16 0)) 13 (sV (Value.map x13))) 12 (SV.priv 12 0)) 11 (sI (x11))) 9 (sV (Value.pointer x9))) 3 (sV (Value.slice x3a x3n x3c))) 2 (sI (x2))) 1 (sI (x1)))) (pv' := (upd (upd V0 16 (75, k16)) 12 (77, k12))) ?_ (Rv 1 _ (Rv 2 _ (Rv 3 _ (Rv 9 _ (Rv 11 _ (RefOk.p 12 12 0 (Rv 13 _ (RefOk.p 16 16 0 (Rv 20 _ (Rv 171 _ (Rn))) (fun e => by cases e))) (fun e => by cases e))))))) he hv (HSub.refl _)
                 clear he hv
                 unfold F10_j15 at h
                 refine AWP.cond (t := x171) rfl (fun e => ?_) (fun e => ?_)
                 ·replace h := ite2_t h e
                  refine AWP.seq' ?_
                  refine AWP.rgn (F10_r26 E0  hp _) ?_ (Rn) (Sn) (Sn)
                  refine AWP.ret ?_
                  exact h
                 ·replace h := ite2_f h e
                  refine AWP.skip ?_
                  refine AWP.rgn (F10_r27 (upd (upd (upd (upd (upd (upd (upd (upd E0 16 (SV.priv 16 0)) 13 (sV (Value.map x13))) 12 (SV.priv 12 0)) 11 (sI (x11))) 9 (sV (Value.pointer x9))) 3 (sV (Value.slice x3a x3n x3c))) 2 (sI (x2))) 1 (sI (x1))) x20 k12 k16 hp _) ?_ (Rv 20 _ (Rv 1 _ (Rv 2 _ (Rv 3 _ (Rv 9 _ (Rv 11 _ (RefOk.p 12 12 0 (Rv 13 _ (RefOk.p 16 16 0 (Rn) (fun e => by cases e))) (fun e => by cases e)))))))) (Sc rfl (Sc rfl (Sc rfl (Sc rfl (Sc rfl (Sc rfl (Sc rfl (Sc rfl (Sc rfl (Sn)))))))))) (Sc rfl (Sc rfl (Sn)))
                  exact ⟨(IntKind.wrap .i64 (x20 + 1)), (Sc rfl (Sc rfl (Sc rfl (Sc rfl (Sc rfl (Sc rfl (Sc rfl (Sc rfl (Sc rfl (Sn)))))))))), (Sc rfl (Sc rfl (Sn))), h⟩
               ·replace h := ite2_f h e
                refine AWP.exit ?_
                exact ⟨x11, x13, k12, k16, (Sc rfl (Sc rfl (Sc rfl (Sc rfl (Sc rfl (Sc rfl (Sc rfl (Sc rfl (Sn))))))))), (Sc rfl (Sc rfl (Sn))), h⟩
             ·rintro env pv hp ⟨x11, x13, k12, k16, he, hv, h⟩
              refine AWP.sub (env' := (upd (upd (upd (upd (upd (upd (upd (upd E0 16 (SV.priv 16 0)) 13 (sV (Value.map x13))) 12 (SV.priv 12 0)) 11 (sI (x11))) 9 (sV (Value.pointer x9))) 3 (sV (Value.slice x3a x3n x3c))) 2 (sI (x2))) 1 (sI (x1)))) (pv' := (upd (upd V0 16 (75, k16)) 12 (77, k12))) ?_ (Rv 1 _ (Rv 2 _ (Rv 3 _ (Rv 9 _ (Rv 11 _ (RefOk.p 12 12 0 (Rv 13 _ (RefOk.p 16 16 0 (Rn) (fun e => by cases e))) (fun e => by cases e))))))) he hv (HSub.refl _)
              clear he hv
              unfold F10_j8 at h
              refine AWP.seq (fun env pv hp => ∃ (x11 : Int) (x13 : Option Nat) (x184 : Bool) (k12 : List Value), Sub (upd (upd (upd (upd (upd (upd (upd (upd E0 184 (sB (x184))) 13 (sV (Value.map x13))) 12 (SV.priv 12 0)) 11 (sI (x11))) 9 (sV (Value.pointer x9))) 3 (sV (Value.slice x3a x3n x3c))) 2 (sI (x2))) 1 (sI (x1))) env ∧ Sub (upd V0 12 (77, k12)) pv ∧ (F10_j9 x1 x2 x3a x3n x3c x9 x11 x13 x184 k12 hp I4 K)) ?_ ?_
              ·refine AWP.rgn (F10_r24 (upd (upd (upd (upd (upd E0 13 (sV (Value.map x13))) 11 (sI (x11))) 3 (sV (Value.slice x3a x3n x3c))) 2 (sI (x2))) 1 (sI (x1))) x9 k12 k16 hp _) ?_ (Rv 9 _ (RefOk.p 12 12 0 (RefOk.p 16 16 0 (Rv 1 _ (Rv 2 _ (Rv 3 _ (Rv 11 _ (Rv 13 _ (Rn)))))) (fun e => by cases e)) (fun e => by cases e))) (Sc rfl (Sc rfl (Sc rfl (Sc rfl (Sc rfl (Sc rfl (Sc rfl (Sc rfl (Sn))))))))) (Sc rfl (Sc rfl (Sn)))
               refine ldL_mono h (fun l_63 h => ?_)
               refine CF_mono h (fun u_64 h_65 h => ?_)
               refine boolV_mono h (fun q_66 h => ?_)
               refine ite2_mono h (fun h => ?_) (fun h => ?_)
               ·refine ldL_mono h (fun l_67 h => ?_)
                refine ldL_mono h (fun l_68 h => ?_)
                refine eqAgg_mono h (fun q_69 h => ?_)
                exact ⟨x11, x13, (!q_69), k12, (Sc rfl (Sc rfl (Sc rfl (Sc rfl (Sc rfl (Sc rfl (Sc rfl (Sc rfl (Sn))))))))), (Sc rfl (Sn)), h⟩
               ·exact ⟨x11, x13, false, k12, (Sc rfl (Sc rfl (Sc rfl (Sc rfl (Sc rfl (Sc rfl (Sc rfl (Sc rfl (Sn))))))))), (Sc rfl (Sn)), h⟩
              ·rintro env pv hp ⟨x11, x13, x184, k12, he, hv, h⟩
               refine AWP.sub (env' := (upd (upd (upd (upd (upd (upd (upd (upd E0 184 (sB (x184))) 13 (sV (Value.map x13))) 12 (SV.priv 12 0)) 11 (sI (x11))) 9 (sV (Value.pointer x9))) 3 (sV (Value.slice x3a x3n x3c))) 2 (sI (x2))) 1 (sI (x1)))) (pv' := (upd V0 12 (77, k12))) ?_ (Rv 1 _ (Rv 2 _ (Rv 3 _ (Rv 9 _ (Rv 11 _ (RefOk.p 12 12 0 (Rv 13 _ (Rv 184 _ (Rn))) (fun e => by cases e))))))) he hv (HSub.refl _)
               clear he hv
               unfold F10_j9 at h
               refine AWP.cond (t := x184) rfl (fun e => ?_) (fun e => ?_)
               ·replace h := ite2_t h e
                refine AWP.seq (fun env pv hp => ∃ (x11 : Int) (x13 : Option Nat) (x21 : Int) (k12 : List Value), Sub (upd (upd (upd (upd (upd (upd (upd (upd E0 21 (sI (x21))) 13 (sV (Value.map x13))) 12 (SV.priv 12 0)) 11 (sI (x11))) 9 (sV (Value.pointer x9))) 3 (sV (Value.slice x3a x3n x3c))) 2 (sI (x2))) 1 (sI (x1))) env ∧ Sub (upd V0 12 (77, k12)) pv ∧ (F10_j10 x1 x2 x3a x3n x3c x9 x11 x13 x21 k12 hp I4 K)) ?_ ?_
                ·refine AWP.rgn (F10_r23 (upd (upd (upd (upd (upd (upd E0 13 (sV (Value.map x13))) 12 (SV.priv 12 0)) 11 (sI (x11))) 9 (sV (Value.pointer x9))) 3 (sV (Value.slice x3a x3n x3c))) 2 (sI (x2))) x1 k12 hp _) ?_ (Rv 1 _ (Rv 2 _ (Rv 3 _ (Rv 9 _ (Rv 11 _ (RefOk.p 12 12 0 (Rv 13 _ (Rn)) (fun e => by cases e))))))) (Sc rfl (Sc rfl (Sc rfl (Sc rfl (Sc rfl (Sc rfl (Sc rfl (Sn)))))))) (Sc rfl (Sn))
                 exact ⟨x11, x13, x1, k12, (Sc rfl (Sc rfl (Sc rfl (Sc rfl (Sc rfl (Sc rfl (Sc rfl (Sc rfl (Sn))))))))), (Sc rfl (Sn)), h⟩
                ·rintro env pv hp ⟨x11, x13, x21, k12, he, hv, h⟩
                 refine AWP.sub (env' := (upd (upd (upd (upd (upd (upd (upd (upd E0 21 (sI (x21))) 13 (sV (Value.map x13))) 12 (SV.priv 12 0)) 11 (sI (x11))) 9 (sV (Value.pointer x9))) 3 (sV (Value.slice x3a x3n x3c))) 2 (sI (x2))) 1 (sI (x1)))) (pv' := (upd V0 12 (77, k12))) ?_ (Rv 1 _ (Rv 2 _ (Rv 3 _ (Rv 9 _ (Rv 11 _ (RefOk.p 12 12 0 (Rv 13 _ (Rv 21 _ (Rn))) (fun e => by cases e))))))) he hv (HSub.refl _)
                 clear he hv
                 unfold F10_j10 at h
                 refine AWP.block ?_
                 refine AWP.loop (σ := Int) (fun I s hp => F10_l11 x1 x2 x3a x3n x3c x9 x11 x13 k12 I4 K I s hp) (fun s => (upd (upd (upd (upd (upd (upd (upd (upd E0 21 (sI (s))) 13 (sV (Value.map x13))) 12 (SV.priv 12 0)) 11 (sI (x11))) 9 (sV (Value.pointer x9))) 3 (sV (Value.slice x3a x3n x3c))) 2 (sI (x2))) 1 (sI (x1)))) (fun s => (upd V0 12 (77, k12))) x21 h (fun s => (Rv 1 _ (Rv 2 _ (Rv 3 _ (Rv 9 _ (Rv 11 _ (RefOk.p 12 12 0 (Rv 13 _ (Rv 21 _ (Rn))) (fun e => by cases e)))))))) (Sc rfl (Sc rfl (Sc rfl (Sc rfl (Sc rfl (Sc rfl (Sc rfl (Sc rfl (Sn))))))))) (Sc rfl (Sn)) ?_
                 intro I11 s hp h
                 obtain ⟨x21, hs⟩ : ∃ x, x = s := ⟨s, rfl⟩
                 subst hs
                 replace h : F10_l11 x1 x2 x3a x3n x3c x9 x11 x13 k12 I4 K I11 x21 hp := h
                 unfold F10_l11 at h
                 refine AWP.seq' ?_
                 refine AWP.seq' ?_
                 refine AWP.rgn (F10_r19 (upd (upd (upd (upd (upd (upd E0 13 (sV (Value.map x13))) 12 (SV.priv 12 0)) 11 (sI (x11))) 9 (sV (Value.pointer x9))) 3 (sV (Value.slice x3a x3n x3c))) 1 (sI (x1))) x2 x21 k12 hp _) ?_ (Rv 2 _ (Rv 21 _ (Rv 1 _ (Rv 3 _ (Rv 9 _ (Rv 11 _ (RefOk.p 12 12 0 (Rv 13 _ (Rn)) (fun e => by cases e)))))))) (Sc rfl (Sc rfl (Sc rfl (Sc rfl (Sc rfl (Sc rfl (Sc rfl (Sc rfl (Sn))))))))) (Sc rfl (Sn))
                 refine AWP.cond (t := (decide ((x21 : Int) ≤ x2))) rfl (fun e => ?_) (fun e => ?_)
                 ·replace h := ite2_t h e
                  refine AWP.skip ?_
                  refine AWP.seq' ?_
                  refine AWP.block ?_
                  refine AWP.seq (fun env pv hp => ∃ (x21 : Int) (x209 : Bool), Sub (upd (upd (upd (upd (upd (upd (upd (upd (upd E0 209 (sB (x209))) 21 (sI (x21))) 13 (sV (Value.map x13))) 12 (SV.priv 12 0)) 11 (sI (x11))) 9 (sV (Value.pointer x9))) 3 (sV (Value.slice x3a x3n x3c))) 2 (sI (x2))) 1 (sI (x1))) env ∧ Sub (upd V0 12 (77, k12)) pv ∧ (F10_j12 x1 x2 x3a x3n x3c x9 x11 x13 x21 x209 k12 hp I4 I11 K)) ?_ ?_
                  ·refine AWP.rgn (F10_r22 (upd (upd (upd (upd (upd E0 11 (sI (x11))) 9 (sV (Value.pointer x9))) 3 (sV (Value.slice x3a x3n x3c))) 2 (sI (x2))) 1 (sI (x1))) x13 x21 k12 hp _) ?_ (RefOk.p 12 12 0 (Rv 13 _ (Rv 21 _ (Rv 1 _ (Rv 2 _ (Rv 3 _ (Rv 9 _ (Rv 11 _ (Rn)))))))) (fun e => by cases e)) (Sc rfl (Sc rfl (Sc rfl (Sc rfl (Sc rfl (Sc rfl (Sc rfl (Sc rfl (Sn))))))))) (Sc rfl (Sn))
                   refine ldV_mono h (fun v_50 h => ?_)
                   refine boolV_mono h (fun q_51 h => ?_)
                   refine ite2_mono h (fun h => ?_) (fun h => ?_)
                   ·refine ldL_mono h (fun l_52 h => ?_)
                    refine if_mono h (fun h => ?_)
                    refine rdS_mono h (fun u_53 h => ?_)
                    refine intV_mono h (fun i_54 h => ?_)
                    exact ⟨x21, ((i_54 : Int) == 0), (Sc rfl (Sc rfl (Sc rfl (Sc rfl (Sc rfl (Sc rfl (Sc rfl (Sc rfl (Sc rfl (Sn)))))))))), (Sc rfl (Sn)), h⟩
                   ·refine ldV_mono h (fun v_55 h => ?_)
                    refine intV_mono h (fun i_56 h => ?_)
                    refine CF_mono h (fun u_57 h_58 h => ?_)
                    refine boolV_mono h (fun q_59 h => ?_)
                    refine ite2_mono h (fun h => ?_) (fun h => ?_)
                    ·refine ldL_mono h (fun l_60 h => ?_)
                     refine if_mono h (fun h => ?_)
                     refine rdS_mono h (fun u_61 h => ?_)
                     refine intV_mono h (fun i_62 h => ?_)
                     exact ⟨x21, ((i_62 : Int) == 0), (Sc rfl (Sc rfl (Sc rfl (Sc rfl (Sc rfl (Sc rfl (Sc rfl (Sc rfl (Sc rfl (Sn)))))))))), (Sc rfl (Sn)), h⟩
                    ·exact ⟨x21, false, (Sc rfl (Sc rfl (Sc rfl (Sc rfl (Sc rfl (Sc rfl (Sc rfl (Sc rfl (Sc rfl (Sn)))))))))), (Sc rfl (Sn)), h⟩
                  ·rintro env pv hp ⟨x21, x209, he, hv, h⟩
                   refine AWP.sub (env' := (upd (upd (upd (upd (upd (upd (upd (upd (upd E0 209 (sB (x209))) 21 (sI (x21))) 13 (sV (Value.map x13))) 12 (SV.priv 12 0)) 11 (sI (x11))) 9 (sV (Value.pointer x9))) 3 (sV (Value.slice x3a x3n x3c))) 2 (sI (x2))) 1 (sI (x1)))) (pv' := (upd V0 12 (77, k12))) ?_ (Rv 1 _ (Rv 2 _ (Rv 3 _ (Rv 9 _ (Rv 11 _ (RefOk.p 12 12 0 (Rv 13 _ (Rv 21 _ (Rv 209 _ (Rn)))) (fun e => by cases e))))))) he hv (HSub.refl _)
                   clear he hv
                   unfold F10_j12 at h
                   refine AWP.cond (t := x209) rfl (fun e => ?_) (fun e => ?_)
                   ·replace h := ite2_t h e
                    refine AWP.seq' ?_
                    refine AWP.rgn (F10_r20 E0  hp _) ?_ (Rn) (Sn) (Sn)
                    refine AWP.ret ?_
                    exact h
                   ·replace h := ite2_f h e
                    refine AWP.skip ?_
                    refine AWP.rgn (F10_r21 (upd (upd (upd (upd (upd (upd (upd E0 13 (sV (Value.map x13))) 12 (SV.priv 12 0)) 11 (sI (x11))) 9 (sV (Value.pointer x9))) 3 (sV (Value.slice x3a x3n x3c))) 2 (sI (x2))) 1 (sI (x1))) x21 k12 hp _) ?_ (Rv 21 _ (Rv 1 _ (Rv 2 _ (Rv 3 _ (Rv 9 _ (Rv 11 _ (RefOk.p 12 12 0 (Rv 13 _ (Rn)) (fun e => by cases e)))))))) (Sc rfl (Sc rfl (Sc rfl (Sc rfl (Sc rfl (Sc rfl (Sc rfl (Sc rfl (Sn))))))))) (Sc rfl (Sn))
                    exact ⟨(IntKind.wrap .i64 (x21 + 1)), (Sc rfl (Sc rfl (Sc rfl (Sc rfl (Sc rfl (Sc rfl (Sc rfl (Sc rfl (Sn))))))))), (Sc rfl (Sn)), h⟩
                 ·replace h := ite2_f h e
                  refine AWP.exit ?_
                  exact ⟨x11, (Sc rfl (Sc rfl (Sc rfl (Sc rfl (Sc rfl (Sn)))))), (Sn), h⟩
               ·replace h := ite2_f h e
                refine AWP.skip ?_
                exact ⟨x11, (Sc rfl (Sc rfl (Sc rfl (Sc rfl (Sc rfl (Sn)))))), (Sn), h⟩
        ·replace h := ite2_f h e
         refine AWP.seq' ?_
         refine AWP.rgn (F10_r35 (upd (upd (upd (upd (upd (upd E0 12 (SV.priv 12 0)) 11 (sI (x11))) 9 (sV (Value.pointer x9))) 3 (sV (Value.slice x3a x3n x3c))) 2 (sI (x2))) 1 (sI (x1))) i_20 (splice [(Value.int .u8 0), (Value.int .u8 0), (Value.int .u8 0), (Value.int .u8 0), (Value.int .u8 0), (Value.int .i64 0), (Value.bool false)] 0 l_18) hp _) ?_ (Rv 57 _ (Rv 1 _ (Rv 2 _ (Rv 3 _ (Rv 9 _ (Rv 11 _ (RefOk.p 12 12 0 (Rn) (fun e => by cases e)))))))) (Sc rfl (Sc rfl (Sc rfl (Sc rfl (Sc rfl (Sc rfl (Sc rfl (Sn)))))))) (Sc rfl (Sn))
         refine AWP.cond (t := ((i_20 : Int) == 1)) rfl (fun e => ?_) (fun e => ?_)
         ·replace h := ite2_t h e
          refine AWP.rgn (F10_r36 (upd (upd (upd (upd E0 11 (sI (x11))) 3 (sV (Value.slice x3a x3n x3c))) 2 (sI (x2))) 1 (sI (x1))) x9 (splice [(Value.int .u8 0), (Value.int .u8 0), (Value.int .u8 0), (Value.int .u8 0), (Value.int .u8 0), (Value.int .i64 0), (Value.bool false)] 0 l_18) hp _) ?_ (Rv 9 _ (RefOk.p 12 12 0 (Rv 1 _ (Rv 2 _ (Rv 3 _ (Rv 11 _ (Rn))))) (fun e => by cases e))) (Sc rfl (Sc rfl (Sc rfl (Sc rfl (Sc rfl (Sc rfl (Sn))))))) (Sc rfl (Sn))
          refine ldL_mono h (fun l_116 h => ?_)
          refine CF_mono h (fun u_117 h_118 h => ?_)
          refine intV_mono h (fun i_119 h => ?_)
          exact ⟨x11, (Sc rfl (Sc rfl (Sc rfl (Sc rfl (Sc rfl (Sn)))))), (Sn), h⟩
         ·replace h := ite2_f h e
          refine AWP.seq' ?_
          refine AWP.rgn (F10_r37 (upd (upd (upd (upd (upd (upd E0 12 (SV.priv 12 0)) 11 (sI (x11))) 9 (sV (Value.pointer x9))) 3 (sV (Value.slice x3a x3n x3c))) 2 (sI (x2))) 1 (sI (x1))) i_20 (splice [(Value.int .u8 0), (Value.int .u8 0), (Value.int .u8 0), (Value.int .u8 0), (Value.int .u8 0), (Value.int .i64 0), (Value.bool false)] 0 l_18) hp _) ?_ (Rv 57 _ (Rv 1 _ (Rv 2 _ (Rv 3 _ (Rv 9 _ (Rv 11 _ (RefOk.p 12 12 0 (Rn) (fun e => by cases e)))))))) (Sc rfl (Sc rfl (Sc rfl (Sc rfl (Sc rfl (Sc rfl (Sc rfl (Sn)))))))) (Sc rfl (Sn))
          refine AWP.cond (t := ((i_20 : Int) == 2)) rfl (fun e => ?_) (fun e => ?_)
          ·replace h := ite2_t h e
           refine AWP.rgn (F10_r38 (upd (upd (upd (upd E0 11 (sI (x11))) 3 (sV (Value.slice x3a x3n x3c))) 2 (sI (x2))) 1 (sI (x1))) x9 (splice [(Value.int .u8 0), (Value.int .u8 0), (Value.int .u8 0), (Value.int .u8 0), (Value.int .u8 0), (Value.int .i64 0), (Value.bool false)] 0 l_18) hp _) ?_ (Rv 9 _ (RefOk.p 12 12 0 (Rv 1 _ (Rv 2 _ (Rv 3 _ (Rv 11 _ (Rn))))) (fun e => by cases e))) (Sc rfl (Sc rfl (Sc rfl (Sc rfl (Sc rfl (Sc rfl (Sn))))))) (Sc rfl (Sn))
           refine ldL_mono h (fun l_120 h => ?_)
           refine CF_mono h (fun u_121 h_122 h => ?_)
           refine intV_mono h (fun i_123 h => ?_)
           exact ⟨x11, (Sc rfl (Sc rfl (Sc rfl (Sc rfl (Sc rfl (Sn)))))), (Sn), h⟩
          ·replace h := ite2_f h e
           refine AWP.seq' ?_
           refine AWP.rgn (F10_r39 (upd (upd (upd (upd (upd (upd E0 12 (SV.priv 12 0)) 11 (sI (x11))) 9 (sV (Value.pointer x9))) 3 (sV (Value.slice x3a x3n x3c))) 2 (sI (x2))) 1 (sI (x1))) i_20 (splice [(Value.int .u8 0), (Value.int .u8 0), (Value.int .u8 0), (Value.int .u8 0), (Value.int .u8 0), (Value.int .i64 0), (Value.bool false)] 0 l_18) hp _) ?_ (Rv 57 _ (Rv 1 _ (Rv 2 _ (Rv 3 _ (Rv 9 _ (Rv 11 _ (RefOk.p 12 12 0 (Rn) (fun e => by cases e)))))))) (Sc rfl (Sc rfl (Sc rfl (Sc rfl (Sc rfl (Sc rfl (Sc rfl (Sn)))))))) (Sc rfl (Sn))
           refine AWP.cond (t := ((i_20 : Int) == 3)) rfl (fun e => ?_) (fun e => ?_)
           ·replace h := ite2_t h e
            refine AWP.rgn (F10_r40 (upd (upd (upd (upd E0 11 (sI (x11))) 3 (sV (Value.slice x3a x3n x3c))) 2 (sI (x2))) 1 (sI (x1))) x9 (splice [(Value.int .u8 0), (Value.int .u8 0), (Value.int .u8 0), (Value.int .u8 0), (Value.int .u8 0), (Value.int .i64 0), (Value.bool false)] 0 l_18) hp _) ?_ (Rv 9 _ (RefOk.p 12 12 0 (Rv 1 _ (Rv 2 _ (Rv 3 _ (Rv 11 _ (Rn))))) (fun e => by cases e))) (Sc rfl (Sc rfl (Sc rfl (Sc rfl (Sc rfl (Sc rfl (Sn))))))) (Sc rfl (Sn))
            refine ldL_mono h (fun l_124 h => ?_)
            refine CF_mono h (fun u_125 h_126 h => ?_)
            refine intV_mono h (fun i_127 h => ?_)
            exact ⟨x11, (Sc rfl (Sc rfl (Sc rfl (Sc rfl (Sc rfl (Sn)))))), (Sn), h⟩
           ·replace h := ite2_f h e
            refine AWP.skip ?_
            exact ⟨x11, (Sc rfl (Sc rfl (Sc rfl (Sc rfl (Sc rfl (Sn)))))), (Sn), h⟩
       ·rintro env pv hp ⟨x11, he, hv, h⟩
        refine AWP.sub (env' := (upd (upd (upd (upd (upd E0 11 (sI (x11))) 9 (sV (Value.pointer x9))) 3 (sV (Value.slice x3a x3n x3c))) 2 (sI (x2))) 1 (sI (x1)))) (pv' := V0) ?_ (Rv 1 _ (Rv 2 _ (Rv 3 _ (Rv 9 _ (Rv 11 _ (Rn)))))) he hv (HSub.refl _)
        clear he hv
        unfold F10_j5 at h
        refine AWP.rgn (F10_r7 (upd (upd (upd (upd E0 9 (sV (Value.pointer x9))) 3 (sV (Value.slice x3a x3n x3c))) 2 (sI (x2))) 1 (sI (x1))) x11 hp _) ?_ (Rv 11 _ (Rv 1 _ (Rv 2 _ (Rv 3 _ (Rv 9 _ (Rn)))))) (Sc rfl (Sc rfl (Sc rfl (Sc rfl (Sc rfl (Sn)))))) (Sn)
        exact ⟨(IntKind.wrap .i64 (x11 + 1)), (Sc rfl (Sc rfl (Sc rfl (Sc rfl (Sc rfl (Sn)))))), (Sn), h⟩
      ·replace h := ite2_f h e
       refine AWP.exit ?_
       exact ⟨(Sn), (Sn), h⟩
    ·rintro env pv hp ⟨he, hv, h⟩
     refine AWP.sub (env' := E0) (pv' := V0) ?_ (Rn) he hv (HSub.refl _)
     clear he hv
     unfold F10_j2 at h
     refine AWP.seq' ?_
     refine AWP.rgn (F10_r5 E0  hp _) ?_ (Rn) (Sn) (Sn)
     refine CF_mono h (fun u_13 h_14 h => ?_)
     refine boolV_mono h (fun q_15 h => ?_)
     refine AWP.ret ?_
     exact h
-- 43 interpreter/interpreterlaw18.Great
theorem F43_r0 (e : Env) (hp : HP) (K : Env → PV → HP → Prop) : RW Try.prog 27 [] (opsAt Try.f43 [0]) (List.range 1) e V0 hp K =
    (K (upd e 6 (sB (false))) V0 hp) := by kernel_rfl
theorem F43_r1 (e : Env) (x0 : Int) (x1 : Int) (x2a : Option Addr) (x2n : Nat) (x2c : Nat) (hp : HP) (K : Env → PV → HP → Prop) : RW Try.prog 27 [] (opsAt Try.f43 [1, 0]) (List.range 21) (upd (upd (upd e 2 (sV (Value.slice x2a x2n x2c))) 1 (sI (x1))) 0 (sI (x0))) V0 hp K =
    (ite2 (decide (((x2n : Nat) : Int) > 200)) (K (upd (upd (upd (upd (upd (upd (upd (upd (upd (upd (upd (upd (upd (upd (upd (upd (upd (upd (upd (upd (upd (upd (upd (upd e 2 (sV (Value.slice x2a x2n x2c))) 1 (sI (x1))) 0 (sI (x0))) 7 (sV (Value.slice x2a x2n x2c))) 8 (sI ((x2n : Nat)))) 9 (sB ((decide (((x2n : Nat) : Int) > 200))))) 10 (sB (true))) 11 (sV undef)) 12 (sV undef)) 13 (sV undef)) 14 (sV undef)) 15 (sB (true))) 16 (sB (true))) 17 (sV undef)) 18 (sV undef)) 19 (sV undef)) 20 (sV undef)) 21 (sV undef)) 22 (sV undef)) 23 (sV undef)) 24 (sV undef)) 25 (sV undef)) 26 (sB (true))) 6 (sB (true))) V0 hp) (ite2 (decide (((IntKind.wrap .i64 (x1 - x0)) : Int) > 60)) (K (upd (upd (upd (upd (upd (upd (upd (upd (upd (upd (upd (upd (upd (upd (upd (upd (upd (upd (upd (upd (upd (upd (upd (upd e 2 (sV (Value.slice x2a x2n x2c))) 1 (sI (x1))) 0 (sI (x0))) 7 (sV (Value.slice x2a x2n x2c))) 8 (sI ((x2n : Nat)))) 9 (sB ((decide (((x2n : Nat) : Int) > 200))))) 10 (sB (false))) 11 (sI (x1))) 12 (sI (x0))) 13 (sI ((IntKind.wrap .i64 (x1 - x0))))) 14 (sB ((decide (((IntKind.wrap .i64 (x1 - x0)) : Int) > 60))))) 15 (sB ((decide (((IntKind.wrap .i64 (x1 - x0)) : Int) > 60))))) 16 (sB (true))) 17 (sV undef)) 18 (sV undef)) 19 (sV undef)) 20 (sV undef)) 21 (sV undef)) 22 (sV undef)) 23 (sV undef)) 24 (sV undef)) 25 (sV undef)) 26 (sB (true))) 6 (sB (true))) V0 hp) (ite2 (decide (((IntKind.wrap .i64 (x1 - x0)) : Int) < 0)) (K (upd (upd (upd (upd (upd (upd (upd (upd (upd (upd (upd (upd (upd (upd (upd (upd (upd (upd (upd (upd (upd (upd (upd (upd e 2 (sV (Value.slice x2a x2n x2c))) 1 (sI (x1))) 0 (sI (x0))) 7 (sV (Value.slice x2a x2n x2c))) 8 (sI ((x2n : Nat)))) 9 (sB ((decide (((x2n : Nat) : Int) > 200))))) 10 (sB (false))) 11 (sI (x1))) 12 (sI (x0))) 13 (sI ((IntKind.wrap .i64 (x1 - x0))))) 14 (sB ((decide (((IntKind.wrap .i64 (x1 - x0)) : Int) > 60))))) 15 (sB ((decide (((IntKind.wrap .i64 (x1 - x0)) : Int) > 60))))) 16 (sB (false))) 17 (sI (x1))) 18 (sI (x0))) 19 (sI ((IntKind.wrap .i64 (x1 - x0))))) 20 (sB ((decide (((IntKind.wrap .i64 (x1 - x0)) : Int) < 0))))) 21 (sB (true))) 22 (sI (x1))) 23 (sI (x0))) 24 (sB ((decide ((x1 : Int) > x0))))) 25 (sB ((decide ((x1 : Int) > x0))))) 26 (sB ((decide ((x1 : Int) > x0))))) 6 (sB ((decide ((x1 : Int) > x0))))) V0 hp) (K (upd (upd (upd (upd (upd (upd (upd (upd (upd (upd (upd (upd (upd (upd (upd (upd (upd (upd (upd (upd (upd (upd (upd (upd e 2 (sV (Value.slice x2a x2n x2c))) 1 (sI (x1))) 0 (sI (x0))) 7 (sV (Value.slice x2a x2n x2c))) 8 (sI ((x2n : Nat)))) 9 (sB ((decide (((x2n : Nat) : Int) > 200))))) 10 (sB (false))) 11 (sI (x1))) 12 (sI (x0))) 13 (sI ((IntKind.wrap .i64 (x1 - x0))))) 14 (sB ((decide (((IntKind.wrap .i64 (x1 - x0)) : Int) > 60))))) 15 (sB ((decide (((IntKind.wrap .i64 (x1 - x0)) : Int) > 60))))) 16 (sB (false))) 17 (sI (x1))) 18 (sI (x0))) 19 (sI ((IntKind.wrap .i64 (x1 - x0))))) 20 (sB ((decide (((IntKind.wrap .i64 (x1 - x0)) : Int) < 0))))) 21 (sB (false))) 22 (sV undef)) 23 (sV undef)) 24 (sV undef)) 25 (sB (false))) 26 (sB (false))) 6 (sB (false))) V0 hp)))) := by kernel_rfl
def F43 (x0 : Int) (x1 : Int) (x2a : Option Addr) (x2n : Nat) (x2c : Nat) (hp : HP) (K : Value → HP → Prop) : Prop :=
  (ite2 (decide (((x2n : Nat) : Int) > 200)) (K (Value.bool true) hp) (ite2 (decide (((IntKind.wrap .i64 (x1 - x0)) : Int) > 60)) (K (Value.bool true) hp) (ite2 (decide (((IntKind.wrap .i64 (x1 - x0)) : Int) < 0)) (K (Value.bool (decide ((x1 : Int) > x0))) hp) (K (Value.bool false) hp))))
noncomputable def F43_code : Code := (.seq (.region 0 (opsAt Try.f43 [0]) false) (.seq (.region 1 (opsAt Try.f43 [1, 0]) false) .ret))
theorem F43_body : Try.f43.body = some F43_code := by kernel_rfl
theorem F43_ok (x0 : Int) (x1 : Int) (x2a : Option Addr) (x2n : Nat) (x2c : Nat) (hp : HP) (K : Value → HP → Prop) (h : F43 x0 x1 x2a x2n x2c hp K) : CF Try.prog 43 [(Value.int .i64 x0), (Value.int .i64 x1), (Value.slice x2a x2n x2c)] hp K := by
 refine .inl ⟨by kernel_rfl, AC.intro (N := 27) Try.func43 F43_body rfl (Nat.le_of_ble_eq_true rfl) ?_⟩
 unfold F43 at h
 unfold F43_code
 refine AWP.seq' ?_
 refine AWP.rgn (F43_r0 (upd (upd (upd E0 2 (sV (Value.slice x2a x2n x2c))) 1 (sI (x1))) 0 (sI (x0)))  hp _) ?_ (Rv 0 _ (Rv 1 _ (Rv 2 _ (Rn)))) (Sc rfl (Sc rfl (Sc rfl (Sn)))) (Sn)
 refine AWP.seq' ?_
 refine AWP.rgn (F43_r1 E0 x0 x1 x2a x2n x2c hp _) ?_ (Rv 0 _ (Rv 1 _ (Rv 2 _ (Rn)))) (Sc rfl (Sc rfl (Sc rfl (Sn)))) (Sn)
 refine ite2_mono h (fun h => ?_) (fun h => ?_)
 ·refine AWP.ret ?_
  exact h
 ·refine ite2_mono h (fun h => ?_) (fun h => ?_)
  ·refine AWP.ret ?_
   exact h
  ·refine ite2_mono h (fun h => ?_) (fun h => ?_)
   ·refine AWP.ret ?_
    exact h
   ·refine AWP.ret ?_
    exact h
end Go.Proofs

set_option linter.unusedVariables false
set_option maxRecDepth 20000
namespace Go.Proofs
open Go Go.HL

def iv (n : Int) : Value := .int .i64 n
theorem u78 : Try.prog.underlying 78 = some (.map 75 3) := by kernel_rfl
theorem z3 : ∀ w : World, (zeroValue 3).run Try.prog w = .ok (.int .i64 0) w := zero_of (by kernel_rfl)

theorem C43 {low high : Int} {a : Option Addr} {n c : Nat} {hp : HP} {K : Value → HP → Prop} (h : ∀ g : Bool, (g = false → n ≤ 200) → K (.bool g) hp) : CF Try.prog 43 [.int .i64 low, .int .i64 high, .slice a n c] hp K := by
  refine F43_ok low high a n c hp K ?_
  unfold F43
  by_cases h1 : n > 200
  · rw [decide_eq_true (by omega : ((n : Nat) : Int) > 200), ite2_true]
    exact h true (fun e => by cases e)
  rw [decide_eq_false (by omega : ¬ ((n : Nat) : Int) > 200), ite2_false]
  cases decide (IntKind.wrap .i64 (high - low) > 60)
  · rw [ite2_false]
    cases decide (IntKind.wrap .i64 (high - low) < 0)
    · rw [ite2_false]; exact h _ (fun _ => by omega)
    · rw [ite2_true]; exact h _ (fun _ => by omega)
  · rw [ite2_true]; exact h _ (fun _ => by omega)

/-- What was not free, as a map. -/
def wasL : List (Q × Int) → List ((Q × Int) × Int)
  | [] => []
  | t :: l => putL t 1 (wasL l)
theorem wasL_get (t : Q × Int) : ∀ l : List (Q × Int), getL t (wasL l) = if t ∈ l then some 1 else none
  | [] => by simp [wasL, getL]
  | u :: l => by
    rw [wasL, getL_put, wasL_get t l]
    by_cases h : t = u
    · simp [h]
    · simp [h]

theorem lookW {hp : HP} {mw : Nat} {ts : List (Q × Int)} {w : List (Q × Int)} (hw : MapE t4k iv (wasL w) (hp mw)) (t : Q × Int) {c : Int → Prop} (h : c (if t ∈ w then 1 else 0)) :
    rdS Try.prog (Instr.lookup 78 (.map (some mw)) (.agg ⟨t4 t⟩) false) hp fun u => intV u .i64 c := by
  refine rdS_lookup u78 enc75 z3 hw t ?_
  simp only [Bool.false_eq_true, if_false]
  rw [wasL_get]
  by_cases hm : t ∈ w
  · rw [if_pos hm] at h ⊢
    simpa [iv] using h
  · rw [if_neg hm] at h ⊢
    simpa using h

section
variable {a0 a3 : Option Addr} {n0 c0 n3 c3 : Nat} {l : List Q} {low high : Int} {acts : List Act} {hp : HP} {K : Value → HP → Prop}

theorem newOk_bounds (h : newOk l low high = true) : l.length ≤ 4 ∧ 0 ≤ low ∧ low ≤ 65535 ∧ 0 ≤ high ∧ high ≤ 65535 ∧ low ≤ high := by
  unfold newOk isPort at h
  simp only [Bool.and_eq_true, decide_eq_true_eq] at h
  omega

theorem C10 (hs0 : Shows hp a0 n0 4 (l.flatMap v4)) (hl : l.length = n0) (hnc : n0 ≤ c0) (hlo : -9223372036854775808 ≤ low ∧ low ≤ 9223372036854775807) (hhi : -9223372036854775808 ≤ high ∧ high ≤ 9223372036854775807)
    (hs3 : Shows hp a3 n3 7 (acts.flatMap act)) (hl3 : acts.length = n3) (h : K (.bool true) hp) :
    CF Try.prog 10 [.slice a0 n0 c0, .int .i64 low, .int .i64 high, .slice a3 n3 c3] hp K := by
  refine CF.drop (F10_ok a0 n0 c0 low high a3 n3 c3 hp _ ?_)
  unfold F10
  have hk : ∀ hp', HSub hp hp' → CF Try.prog 21 [] hp' fun u h => boolV u fun q => ∃ hp'', HSub hp'' h ∧ K (.bool q) hp'' := by
    intro hp' hs
    refine C21 ?_
    rw [boolV_bool]
    exact ⟨hp, hs, h⟩
  refine C43 fun g hg => ?_
  rw [boolV_bool]
  have tail : n3 ≤ 200 → ∀ q, F10_j1 a0 n0 c0 low high a3 n3 c3 q hp (fun v hp' => ∃ hp'', HL.HSub hp'' hp' ∧ K v hp'') := by
    intro h200 q
    unfold F10_j1
    cases q
    rotate_left
    · rw [ite2_true]; exact hk hp (HSub.refl _)
    rw [ite2_false]
    refine C44 hs0 hl hnc hlo hhi ?_ ?_
    · intro _
      simp only [tup2V_mk, ptrV_pointer, intV_int]
      show ite2 true _ _
      rw [ite2_true]
      show ite2 true _ _
      rw [ite2_true]
      exact hk hp (HSub.refl _)
    intro hok p m hp1 s1 hpn hmn hr1
    obtain ⟨hlen, hb1, hb2, hb3, hb4, hb5⟩ := newOk_bounds hok
    have hb : 0 ≤ low ∧ low ≤ 65535 ∧ 0 ≤ high ∧ high ≤ 65535 := ⟨hb1, hb2, hb3, hb4⟩
    simp only [tup2V_mk, intV_int]
    have pp : ∀ c : Option Addr → Prop, ptrV (ptr p 0) c = c (some ⟨p, 0, none⟩) := fun _ => rfl
    rw [pp]
    show ite2 false _ _
    rw [ite2_false]
    unfold F10_j3
    refine LoopP.by (J := fun k (x : Int) hp' => ∃ (i : Nat) (held : List ((Q × Int) × Bool)), x = i ∧ i + k = n3 ∧ HSub hp hp' ∧ PoolR hp' p l low high held m ∧ held.length ≤ i) ?_ (n := n3) ⟨0, [], rfl, by omega, s1, hr1, Nat.le_refl _⟩
    rintro I k x hp2 ⟨i, held, rfl, hik, s2, hr, hhl⟩ hI
    unfold F10_l4
    by_cases hi : i < n3
    rotate_left
    · rw [decide_eq_false (by omega : ¬ (i : Int) < (n3 : Int)), ite2_false]
      unfold F10_j2
      exact hk hp2 s2
    rw [decide_eq_true (by omega : (i : Int) < (n3 : Int)), ite2_true]
    have next : ∀ (hp3 : HP) (held3 : List ((Q × Int) × Bool)), HSub hp hp3 → PoolR hp3 p l low high held3 m → held3.length ≤ i + 1 → F10_j5 low high a3 n3 c3 (some ⟨p, 0, none⟩) i hp3 I (fun v hp' => ∃ hp'', HL.HSub hp'' hp' ∧ K v hp'') := by
      intro hp3 held3 s3 hr3 hh3
      unfold F10_j5
      have w : IntKind.wrap .i64 ((i : Int) + 1) = ((i + 1 : Nat) : Int) := wi (by omega) (by omega)
      rw [w]
      exact hI (k - 1) _ _ (by omega) ⟨i + 1, held3, rfl, by omega, s3, hr3, hh3⟩
    obtain ⟨b, o, rfl, hc⟩ := (hs3.sub s2).get act_len hl3 hi
    generalize acts[i]'(hl3 ▸ hi) = a at hc
    have hz7 : splice [(Value.int .u8 0), (Value.int .u8 0), (Value.int .u8 0), (Value.int .u8 0), (Value.int .u8 0), (Value.int .i64 0), (Value.bool false)] 0 (act a) = act a := splice_all rfl
    have hz5 : ∀ t, splice [Value.int .u8 0, .int .u8 0, .int .u8 0, .int .u8 0, .int .i64 0] 0 (t4 t) = t4 t := fun t => splice_all rfl
    have q0' : (act a)[0]? = some (.int .u8 a.1) := rfl
    have q1 : cellsN (act a) 1 5 = some (t4 a.2.1) := rfl
    have q2 : cellsN (act a) 1 4 = some (v4 a.2.1.1) := rfl
    have q3 : (act a)[5]? = some (.int .i64 a.2.1.2) := rfl
    have q4 : (act a)[6]? = some (.bool a.2.2) := rfl
    simp only [ptrN_some, Int.toNat_natCast, hc, ldL_some, act_len, act_one, if_true, hz7, q0', ldV_some, intV_int]
    refine ⟨by omega, by omega, ?_⟩
    refine ifI (by decide) ?_
    cases hd0 : (a.1 == 0)
    · rw [ite2_false]
      -- Give, Reserve, Release, or nothing
      have upm : ∀ e, HSub hp (hp2.set m e) := fun e => s2.up hmn e
      cases hd1 : (a.1 == 1)
      · rw [ite2_false]
        cases hd2 : (a.1 == 2)
        · rw [ite2_false]
          cases hd3 : (a.1 == 3)
          · rw [ite2_false]; exact next hp2 held s2 hr (by omega)
          · rw [ite2_true, q1, ldL_some]
            refine C51 hr hlen ?_ ?_
            · intro _; rw [intV_int]; exact next hp2 held s2 hr (by omega)
            · intro _ e he; rw [intV_int]; exact next _ _ (upm e) (hr.upd he) (by have := len_del_le a.2.1 held; omega)
        · rw [ite2_true, q1, ldL_some]
          refine C50 hr hlen ?_ ?_
          · intro _; rw [intV_int]; exact next hp2 held s2 hr (by omega)
          · intro _ e he; rw [intV_int]; exact next _ _ (upm e) (hr.upd he) (by have := len_put_le a.2.1 true held; omega)
      · rw [ite2_true, q1, ldL_some]
        refine C49 hr hlen ?_ ?_
        · intro _; rw [intV_int]; exact next hp2 held s2 hr (by omega)
        · intro _ e he; rw [intV_int]; exact next _ _ (upm e) (hr.upd he) (by have := len_del_le a.2.1 held; omega)
    rw [ite2_true]
    intro mw hmw
    have s3 : HSub hp2 (hp2.set mw (.obj (.map #[] 0))) := HSub.set_fresh _ _ hmw
    refine C45 (hr.sub s3) hlen (by omega) ?_
    intro s4 c4 hp4 ts s34 hperm _ hrow hfr4
    rw [slcV_slice]
    have hmw4 : MapE t4k iv (wasL []) (hp4 mw) := by
      rw [s34.obj (b := mw) (HP.set_eq ..)]; exact MapE.empty _ _
    have hmem : ∀ t, t ∈ ts ↔ (getL t held).isSome = true := fun t => by rw [hperm.mem_iff, getL_isSome]
    have htl : ts.length = held.length := by simpa using hperm.length_eq
    have s24 : HSub hp2 hp4 := s3.trans s34
    have hr4 := hr.sub s24
    have hmwm : mw ≠ m := fun e => by
      obtain ⟨es, clock, he, _⟩ := hr.mapM
      rw [← e, hmw] at he; cases he
    -- behind the map
    have six : ∀ hp5, HSub hp2 hp5 → PoolR hp5 p l low high held m → MapE t4k iv (wasL ts.reverse) (hp5 mw) → F10_j6 low high (some ⟨b, o, none⟩) n3 c3 (some ⟨p, 0, none⟩) i (some mw) s4 held.length c4 (act a) hp5 I (fun v hp' => ∃ hp'', HL.HSub hp'' hp' ∧ K v hp'') := by
      intro hp5 s5 hr5 hw5
      unfold F10_j6
      simp only [q2, q3, q4, ldL_some, ldV_some, intV_int, boolV_bool]
      -- it told nothing
      have no : ∀ x : Int, x ≠ 0 → tup2V (.tuple ⟨[.agg ⟨t4 (q0, 0)⟩, .int .i64 x]⟩) fun u_34 u_35 => aggV u_34 fun l_36 => intV u_35 .i64 fun i_37 => (if List.length l_36 = 5 then (if List.all l_36 one = true then (if 0 + List.length l_36 ≤ List.length [(Value.int .u8 0), (Value.int .u8 0), (Value.int .u8 0), (Value.int .u8 0), (Value.int .i64 0)] then (ite2 ((i_37 : Int) != 0) (CF Try.prog 45 [(Value.pointer (some ⟨p, 0, none⟩))] hp5 fun u_38 h_39 => (slcV u_38 fun a_40 n_41 c_42 => (ite2 (((n_41 : Nat) : Int) != (held.length : Nat)) (∃ hp'', HSub hp'' h_39 ∧ K (Value.bool false) hp'') (F10_j5 low high (some ⟨b, o, none⟩) n3 c3 (some ⟨p, 0, none⟩) i h_39 I (fun v hp' => ∃ hp'', HL.HSub hp'' hp' ∧ K v hp''))))) True) else False) else False) else False) := by
        intro x hx
        simp only [tup2V_mk, aggV_agg, intV_int, t4_len, t4_one, if_true]
        refine ifI (by decide) ?_
        have e : (x != 0) = true := by simpa using hx
        rw [e, ite2_true]
        refine C45 hr5 hlen (by omega) ?_
        intro s6 c6 hp6 ts6 s56 _ _ _ _
        rw [slcV_slice]
        have e2 : (((held.length : Nat) : Int) != ((held.length : Nat) : Int)) = false := by simp
        rw [e2, ite2_false]
        exact next hp6 held (s2.trans (s5.trans s56)) (hr5.sub s56) (by omega)
      refine C46 hr5 hlen hb ?_ ?_ ?_
      · intro _
        have := no 1 (by decide)
        simp only [tup2V_mk, aggV_agg, intV_int, t4_len, t4_one, if_true] at this ⊢
        rw [show ((1 : Int) != 0) = true from rfl, ite2_true] at this ⊢
        exact this
      · intro _ _
        have := no 6 (by decide)
        simp only [tup2V_mk, aggV_agg, intV_int, t4_len, t4_one, if_true] at this ⊢
        rw [show ((6 : Int) != 0) = true from rfl, ite2_true] at this ⊢
        exact this
      intro hpx t ht e he
      obtain ⟨f1, f2, f3, f4, f5, f6, f7⟩ := takeQ_some ht
      simp only [tup2V_mk, aggV_agg, intV_int, t4_len, t4_one, if_true]
      refine ifI (by decide) ?_
      rw [show ((0 : Int) != 0) = false from rfl, ite2_false]
      simp only [hz5, cellsN_all (t4_len t), ldL_some]
      have hr6 : PoolR (hp5.set m e) p l low high (putL t false held) m := hr5.upd he
      have s6 : HSub hp (hp5.set m e) := (s2.trans s5).up hmn e
      have hw6 : MapE t4k iv (wasL ts.reverse) ((hp5.set m e) mw) := by rw [HP.set_ne _ _ hmwm]; exact hw5
      have hl6 : (putL t false held).length = held.length + 1 := len_put_new f4
      generalize hp5.set m e = hp6 at hr6 s6 hw6
      refine C47 hr6 hlen ?_
      have hmay : mayQ l t = 0 := by
        unfold mayQ
        have hport : isPort t.2 = true := by unfold isPort; exact decide_eq_true (by omega)
        rw [hport]
        simp [f1]
      have hisq : isQ l (putL t false held) t = (true, false) := by
        unfold isQ
        rw [hmay, getL_put]
        simp
      rw [hisq]
      simp only [tup2V_mk, boolV_bool]
      have hnt : t ∉ ts.reverse := by
        rw [List.mem_reverse, hmem, f4]; simp
      refine lookW (ts := ts) hw6 t ?_
      rw [if_neg hnt, show decide ((0 : Int) > 0) = false from rfl, ite2_false, Bool.not_true, ite2_false, ite2_false]
      have p4 : (t4 t)[4]? = some (.int .i64 t.2) := rfl
      have p5 : cellsN (t4 t) 0 4 = some (v4 t.1) := rfl
      simp only [p4, ldV_some, intV_int]
      rw [decide_eq_false (by omega : ¬ t.2 < low), ite2_false, decide_eq_false (by omega : ¬ t.2 > high), ite2_false]
      -- the first addresses and ports were not free
      have seen : ∀ (t' : Q × Int), (getL t' held).isSome = true → t' ∈ ts.reverse := fun t' hg => by rw [List.mem_reverse, hmem]; exact hg
      have seven : ∀ hp7, HSub hp6 hp7 → F10_j7 low high (some ⟨b, o, none⟩) n3 c3 (some ⟨p, 0, none⟩) i (some mw) false (act a) (t4 t) hp7 I (fun v hp' => ∃ hp'', HL.HSub hp'' hp' ∧ K v hp'') := by
        intro hp7 s67
        have hr7 := hr6.sub s67
        have s7 := s6.trans s67
        have hw7 : MapE t4k iv (wasL ts.reverse) (hp7 mw) := by
          obtain ⟨es, clock, he', hrr⟩ := hw6
          exact ⟨es, clock, s67.obj he', hrr⟩
        have five : F10_j5 low high (some ⟨b, o, none⟩) n3 c3 (some ⟨p, 0, none⟩) i hp7 I (fun v hp' => ∃ hp'', HL.HSub hp'' hp' ∧ K v hp'') := next hp7 _ s7 hr7 (by omega)
        have one' : ∀ (q : Q) (x : Int), [Value.int .u8 0, .int .u8 0, .int .u8 0, .int .u8 0, .int .i64 0].length = 5 → (List.set (splice [(Value.int .u8 0), (Value.int .u8 0), (Value.int .u8 0), (Value.int .u8 0), (Value.int .i64 0)] 0 (v4 q)) 4 (Value.int .i64 x)) = t4 (q, x) := fun _ _ _ => rfl
        have one2 : ∀ (q : Q) (x : Int), (List.set (splice [(Value.int .u8 0), (Value.int .u8 0), (Value.int .u8 0), (Value.int .u8 0), (Value.int .i64 0)] 0 (v4 q)) 4 (Value.int .i64 x)) = t4 (q, x) := fun _ _ => rfl
        have eight : F10_j8 low high (some ⟨b, o, none⟩) n3 c3 (some ⟨p, 0, none⟩) i (some mw) (act a) (t4 t) hp7 I (fun v hp' => ∃ hp'', HL.HSub hp'' hp' ∧ K v hp'') := by
          unfold F10_j8
          rw [q2, ldL_some]
          refine C48 hr7 hlen ?_
          rw [boolV_bool]
          by_cases hm : a.2.1.1 ∈ l
          · rw [decide_eq_true hm, ite2_true, p5, ldL_some, ldL_some]
            refine eq73 ?_
            unfold F10_j9
            by_cases hne : t.1 = a.2.1.1
            · rw [decide_eq_true hne, Bool.not_true, ite2_false]; exact five
            rw [decide_eq_false hne, Bool.not_false, ite2_true]
            unfold F10_j10
            refine LoopP.by (J := fun k' (y : Int) hp' => hp' = hp7 ∧ low ≤ y ∧ k' = (high + 1 - y).toNat) ?_ (n := (high + 1 - low).toNat) ⟨rfl, Int.le_refl _, rfl⟩
            rintro I' k' y hp' ⟨rfl, hly, rfl⟩ hI'
            unfold F10_l11
            by_cases hyh : y ≤ high
            · rw [decide_eq_true hyh, ite2_true]
              simp only [q4, ldV_some, boolV_bool, q2, ldL_some, v4_len, if_true, one2, q3, intV_int]
              have step : F10_j12 low high (some ⟨b, o, none⟩) n3 c3 (some ⟨p, 0, none⟩) i (some mw) y false (act a) hp' I I' (fun v hp' => ∃ hp'', HL.HSub hp'' hp' ∧ K v hp'') := by
                unfold F10_j12
                rw [ite2_false, w64 (by omega) (by omega)]
                exact hI' (high + 1 - (y + 1)).toNat _ _ (by omega) ⟨rfl, by omega, rfl⟩
              have chk : (a.2.2 || cls a.2.1.2 y) = true → ((if (a.2.1.1, y) ∈ ts.reverse then (1 : Int) else 0) == 0) = false := fun hc => by
                rw [if_pos (seen _ (f7 hm hne y hly hyh hc))]; rfl
              cases hpl : a.2.2
              · rw [ite2_false]
                refine C20 ?_
                rw [boolV_bool]
                cases hcl : cls a.2.1.2 y
                · rw [ite2_false]; exact step
                · rw [ite2_true]
                  refine lookW (ts := ts) hw7 (a.2.1.1, y) ?_
                  rw [chk (by rw [hpl, hcl]; rfl)]; exact step
              · rw [ite2_true]
                refine lookW (ts := ts) hw7 (a.2.1.1, y) ?_
                rw [chk (by rw [hpl]; rfl)]; exact step
            · rw [decide_eq_false hyh, ite2_false]; exact five
          · rw [decide_eq_false hm, ite2_false]
            unfold F10_j9
            rw [ite2_false]; exact five
        unfold F10_j7
        rw [ite2_false]
        unfold F10_j13
        refine LoopP.by (J := fun k' (y : Int) hp' => hp' = hp7 ∧ low ≤ y ∧ k' = (t.2 - y).toNat) ?_ (n := (t.2 - low).toNat) ⟨rfl, Int.le_refl _, rfl⟩
        rintro I' k' y hp' ⟨rfl, hly, rfl⟩ hI'
        unfold F10_l14
        rw [p4, ldV_some, intV_int]
        by_cases hyt : y < t.2
        · rw [decide_eq_true hyt, ite2_true]
          simp only [q4, ldV_some, boolV_bool, p5, ldL_some, v4_len, if_true, one2, q3, intV_int]
          have step : F10_j15 low high (some ⟨b, o, none⟩) n3 c3 (some ⟨p, 0, none⟩) i (some mw) y false (act a) (t4 t) hp' I I' (fun v hp' => ∃ hp'', HL.HSub hp'' hp' ∧ K v hp'') := by
            unfold F10_j15
            rw [ite2_false, w64 (by omega) (by omega)]
            exact hI' (t.2 - (y + 1)).toNat _ _ (by omega) ⟨rfl, by omega, rfl⟩
          have chk : (a.2.2 || cls a.2.1.2 y) = true → ((if (t.1, y) ∈ ts.reverse then (1 : Int) else 0) == 0) = false := fun hc => by
            rw [if_pos (seen _ (f6 y hly hyt hc))]; rfl
          cases hpl : a.2.2
          · rw [ite2_false]
            refine C20 ?_
            rw [boolV_bool]
            cases hcl : cls a.2.1.2 y
            · rw [ite2_false]; exact step
            · rw [ite2_true]
              refine lookW (ts := ts) hw7 (t.1, y) ?_
              rw [chk (by rw [hpl, hcl]; rfl)]; exact step
          · rw [ite2_true]
            refine lookW (ts := ts) hw7 (t.1, y) ?_
            rw [chk (by rw [hpl]; rfl)]; exact step
        · rw [decide_eq_false hyt, ite2_false]; exact eight
      have last : CF Try.prog 45 [.pointer (some ⟨p, 0, none⟩)] hp6 fun u_101 h_102 => slcV u_101 fun a_103 n_104 c_105 => F10_j7 low high (some ⟨b, o, none⟩) n3 c3 (some ⟨p, 0, none⟩) i (some mw) (((n_104 : Nat) : Int) != (IntKind.wrap .i64 ((held.length : Nat) + 1))) (act a) (t4 t) h_102 I (fun v hp' => ∃ hp'', HL.HSub hp'' hp' ∧ K v hp'') := by
        refine C45 hr6 hlen (by omega) ?_
        intro s7 c7 hp7 ts7 s67 _ _ _ _
        rw [slcV_slice, hl6]
        have w : IntKind.wrap .i64 (((held.length : Nat) : Int) + 1) = ((held.length + 1 : Nat) : Int) := wi (by omega) (by omega)
        have e2 : ((((held.length + 1 : Nat)) : Int) != (((held.length + 1 : Nat)) : Int)) = false := by simp
        rw [w, e2]
        exact seven hp7 s67
      cases hpl : a.2.2
      · rw [Bool.not_false, ite2_true]
        refine C20 ?_
        rw [boolV_bool]
        rw [hpl, Bool.false_or] at f5
        rw [f5, Bool.not_true, ite2_false]
        exact last
      · rw [Bool.not_true, ite2_false]
        exact last
    unfold F10_j16
    refine LoopP.by (J := fun k' (y : Int) hp' => ∃ j : Nat, y = j ∧ j + k' = held.length ∧ HSub hp2 hp' ∧ PoolR hp' p l low high held m ∧ MapE t4k iv (wasL (ts.take j).reverse) (hp' mw) ∧ Row hp' s4 held.length c4 75 5 (ts.flatMap t4)) ?_ (n := held.length) ⟨0, rfl, by omega, s24, hr4, hmw4, hrow⟩
    rintro I' k' y hp' ⟨j, rfl, hjk, s5, hr5, hw5, hrow5⟩ hI'
    unfold F10_l17
    by_cases hj : j < held.length
    · rw [decide_eq_true (by omega : (j : Int) < ((held.length : Nat) : Int)), ite2_true]
      obtain ⟨b5, o5, hs5, hc5⟩ := hrow5.shows.get t4_len htl hj
      rw [hs5]
      simp only [ptrN_some, Int.toNat_natCast, hc5, ldL_some]
      refine ⟨by omega, by omega, ?_⟩
      refine opS_mapUpdate u78 enc75 hw5 (ts[j]'(htl ▸ hj)) (1 : Int) (ev := iv) fun e he => ?_
      have w : IntKind.wrap .i64 ((j : Int) + 1) = ((j + 1 : Nat) : Int) := wi (by omega) (by omega)
      rw [w]
      have hwo : ∃ ob, hp' mw = .obj ob := by obtain ⟨es, clock, he', _⟩ := hw5; exact ⟨_, he'⟩
      obtain ⟨ob, hob⟩ := hwo
      refine hI' (k' - 1) _ _ (by omega) ⟨j + 1, rfl, by omega, s5.up hmw e, ?_, ?_, ?_⟩
      · obtain ⟨aa, cc, g1, g2, g3⟩ := hr5
        refine ⟨aa, cc, ?_, ?_, by rw [HP.set_ne _ _ hmwm.symm]; exact g3⟩
        · rw [HP.set_ne _ _ (fun e' => by rw [e', hob] at g1; cases g1)]; exact g1
        · rcases g2 with g2 | ⟨b', g21, g22, g23, g24⟩
          · exact .inl g2
          · exact .inr ⟨b', g21, g22, g23, by rw [HP.set_ne _ _ (fun e' => by rw [e', hob] at g24; cases g24)]; exact g24⟩
      · rw [HP.set_eq]
        have : (ts.take (j + 1)).reverse = ts[j]'(htl ▸ hj) :: (ts.take j).reverse := by
          rw [List.take_succ_eq_append_getElem (htl ▸ hj)]; simp
        rw [this]
        exact he
      · rcases hrow5 with g2 | ⟨b', g21, g22, g23, g24⟩
        · exact .inl g2
        · exact .inr ⟨b', g21, g22, g23, by rw [HP.set_ne _ _ (fun e' => by rw [e', hob] at g24; cases g24)]; exact g24⟩
    · rw [decide_eq_false (by omega : ¬ (j : Int) < ((held.length : Nat) : Int)), ite2_false]
      have hje : j = ts.length := by omega
      rw [hje, List.take_length] at hw5
      exact six hp' s5 hr5 hw5
  cases g
  · rw [ite2_false]; exact tail (hg rfl) _
  · rw [ite2_true]
    unfold F10_j1
    rw [ite2_true]
    exact hk hp (HSub.refl _)
end
end Go.Proofs

