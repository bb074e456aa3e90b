/- Parts of the proof of BackProof: the logic of what is known of memory, functions' contracts. -/
import Derived.Test.YtidoceleobdkmaaBkD
import Derived.Test.YtidoceleobdkmaaHlAbb
import Derived.Test.YtidoceleobdkmaaProg
import Derived.Test.YtidoceleobdkmaaHlUse2
set_option linter.unusedVariables false
set_option maxRecDepth 20000
namespace Go.Proofs
open Go Go.HL
-- 12 interpreter/interpreterlaw18.PoolBack
theorem F12_r0 (e : Env) (hp : HP) (K : Env → PV → HP → Prop) : RW Try.prog 231 [20, 22] (opsAt Try.f12 [0]) (List.range 1) e V0 hp K =
    (K (upd e 8 (sB (false))) V0 hp) := by kernel_rfl
theorem F12_r1 (e : Env) (hp : HP) (K : Env → PV → HP → Prop) : RW Try.prog 231 [20, 22] (opsAt Try.f12 [1, 0, 1, 0, 0]) (List.range 2) e V0 hp K =
    (CF Try.prog 21 [] hp fun u1 h2 => (boolV u1 fun q3 => (K (upd (upd e 33 (sB (q3))) 8 (sB (q3))) V0 h2))) := by kernel_rfl
theorem F12_r2 (e : Env) (x0a : Option Addr) (x0n : Nat) (x0c : Nat) (x1 : Int) (x2 : Int) (hp : HP) (K : Env → PV → HP → Prop) : RW Try.prog 231 [20, 22] (opsAt Try.f12 [1, 1, 0]) (List.range 9) (upd (upd (upd e 2 (sI (x2))) 1 (sI (x1))) 0 (sV (Value.slice x0a x0n x0c))) V0 hp K =
    (CF Try.prog 44 [(Value.slice x0a x0n x0c), (Value.int .i64 x1), (Value.int .i64 x2)] hp fun u1 h2 => (tup2V u1 fun u3 u4 => (ptrV u3 fun p5 => (intV u4 .i64 fun i6 => (K (upd (upd (upd (upd (upd (upd (upd (upd (upd (upd (upd (upd e 2 (sI (x2))) 1 (sI (x1))) 0 (sV (Value.slice x0a x0n x0c))) 35 (sV (Value.slice x0a x0n x0c))) 36 (sI (x1))) 37 (sI (x2))) 38 (sV (Value.tuple ⟨[(Value.pointer p5), (Value.int .i64 i6)]⟩))) 34 (sV (Value.tuple ⟨[(Value.pointer p5), (Value.int .i64 i6)]⟩))) 39 (sV (Value.pointer p5))) 40 (sI (i6))) 9 (sV (Value.pointer p5))) 10 (sI (i6))) V0 h2))))) := by kernel_rfl
theorem F12_r3 (e : Env) (x0a : Option Addr) (x0n : Nat) (x0c : Nat) (x1 : Int) (x2 : Int) (hp : HP) (K : Env → PV → HP → Prop) : RW Try.prog 231 [20, 22] (opsAt Try.f12 [1, 1, 1, 0]) (List.range 9) (upd (upd (upd e 2 (sI (x2))) 1 (sI (x1))) 0 (sV (Value.slice x0a x0n x0c))) V0 hp K =
    (CF Try.prog 44 [(Value.slice x0a x0n x0c), (Value.int .i64 x1), (Value.int .i64 x2)] hp fun u1 h2 => (tup2V u1 fun u3 u4 => (ptrV u3 fun p5 => (intV u4 .i64 fun i6 => (K (upd (upd (upd (upd (upd (upd (upd (upd (upd (upd (upd (upd e 2 (sI (x2))) 1 (sI (x1))) 0 (sV (Value.slice x0a x0n x0c))) 42 (sV (Value.slice x0a x0n x0c))) 43 (sI (x1))) 44 (sI (x2))) 45 (sV (Value.tuple ⟨[(Value.pointer p5), (Value.int .i64 i6)]⟩))) 41 (sV (Value.tuple ⟨[(Value.pointer p5), (Value.int .i64 i6)]⟩))) 46 (sV (Value.pointer p5))) 47 (sI (i6))) 11 (sV (Value.pointer p5))) 12 (sI (i6))) V0 h2))))) := by kernel_rfl
theorem F12_r4 (e : Env) (x10 : Int) (x12 : Int) (hp : HP) (K : Env → PV → HP → Prop) : RW Try.prog 231 [20, 22] (opsAt Try.f12 [1, 1, 1, 1, 0, 1, 0, 0]) (List.range 7) (upd (upd e 12 (sI (x12))) 10 (sI (x10))) V0 hp K =
    (ite2 ((x10 : Int) == x12) (CF Try.prog 21 [] hp fun u1 h2 => (boolV u1 fun q3 => (K (upd (upd (upd (upd (upd (upd (upd (upd (upd e 12 (sI (x12))) 10 (sI (x10))) 54 (sI (x10))) 55 (sI (x12))) 56 (sB (((x10 : Int) == x12)))) 57 (sB (true))) 58 (sB (q3))) 59 (sB (q3))) 8 (sB (q3))) V0 h2))) (K (upd (upd (upd (upd (upd (upd (upd (upd (upd e 12 (sI (x12))) 10 (sI (x10))) 54 (sI (x10))) 55 (sI (x12))) 56 (sB (((x10 : Int) == x12)))) 57 (sB (false))) 58 (sV undef)) 59 (sB (false))) 8 (sB (false))) V0 hp)) := by kernel_rfl
theorem F12_r5 (e : Env) (x9 : Option Addr) (hp : HP) (K : Env → PV → HP → Prop) : RW Try.prog 231 [20, 22] (opsAt Try.f12 [1, 1, 1, 1, 1, 0]) (List.range 3) (upd e 9 (sV (Value.pointer x9))) V0 hp K =
    (CF Try.prog 54 [(Value.pointer x9)] hp fun u1 h2 => (intV u1 .i64 fun i3 => (K (upd (upd (upd (upd e 9 (sV (Value.pointer x9))) 60 (sV (Value.pointer x9))) 61 (sI (i3))) 13 (sI (i3))) V0 h2))) := by kernel_rfl
theorem F12_r6 (e : Env) (x9 : Option Addr) (hp : HP) (K : Env → PV → HP → Prop) : RW Try.prog 231 [20, 22] (opsAt Try.f12 [1, 1, 1, 1, 1, 1, 1, 0]) (List.range 3) (upd e 9 (sV (Value.pointer x9))) V0 hp K =
    (CF Try.prog 45 [(Value.pointer x9)] hp fun u1 h2 => (slcV u1 fun a3 n4 c5 => (K (upd (upd (upd (upd e 9 (sV (Value.pointer x9))) 103 (sV (Value.pointer x9))) 104 (sV (Value.slice a3 n4 c5))) 15 (sV (Value.slice a3 n4 c5))) V0 h2))) := by kernel_rfl
theorem F12_r7 (e : Env) (hp : HP) (K : Env → PV → HP → Prop) : RW Try.prog 231 [20, 22] (opsAt Try.f12 [1, 1, 1, 1, 1, 1, 1, 1, 1, 0, 1, 0, 0]) (List.range 1) e V0 hp K =
    (K (upd e 8 (sB (false))) V0 hp) := by kernel_rfl
theorem F12_r8 (e : Env) (hp : HP) (K : Env → PV → HP → Prop) : RW Try.prog 231 [20, 22] (opsAt Try.f12 [1, 1, 1, 1, 1, 1, 1, 1, 1, 1, 1, 0]) (List.range 2) e V0 hp K =
    (CF Try.prog 21 [] hp fun u1 h2 => (boolV u1 fun q3 => (K (upd (upd e 230 (sB (q3))) 8 (sB (q3))) V0 h2))) := by kernel_rfl
def F12_j6 (hp : HP) (K : Value → HP → Prop) : Prop :=
  (CF Try.prog 21 [] hp fun u_27 h_28 => (boolV u_27 fun q_29 => (K (Value.bool q_29) h_28)))
theorem F12_r9 (e : Env) (x3a : Option Addr) (x3n : Nat) (x3c : Nat) (x19 : Int) (hp : HP) (K : Env → PV → HP → Prop) : RW Try.prog 231 [20, 22] (opsAt Try.f12 [1, 1, 1, 1, 1, 1, 1, 1, 1, 1, 0, 1, 0, 0, 0, 0]) (List.range 4) (upd (upd e 19 (sI (x19))) 3 (sV (Value.slice x3a x3n x3c))) V0 hp K =
    (K (upd (upd (upd (upd (upd (upd e 19 (sI (x19))) 3 (sV (Value.slice x3a x3n x3c))) 172 (sI (x19))) 173 (sV (Value.slice x3a x3n x3c))) 174 (sI ((x3n : Nat)))) 175 (sB ((decide ((x19 : Int) < (x3n : Nat)))))) V0 hp) := by kernel_rfl
theorem F12_r10 (e : Env) (x3a : Option Addr) (x3n : Nat) (x3c : Nat) (x9 : Option Addr) (x19 : Int) (hp : HP) (K : Env → PV → HP → Prop) : RW Try.prog 231 [20, 22] (opsAt Try.f12 [1, 1, 1, 1, 1, 1, 1, 1, 1, 1, 0, 1, 0, 0, 1, 0, 0, 0]) (List.range 25) (upd (upd (upd e 19 (sI (x19))) 9 (sV (Value.pointer x9))) 3 (sV (Value.slice x3a x3n x3c))) V0 hp K =
    ((0 ≤ (x19 : Int)) ∧ ((x19 : Int) < (x3n : Nat)) ∧ (ptrN x3a fun b1 o2 => (ldL (HP.cellN hp b1 (((o2 + Int.toNat x19 * 7) + 1) + 0) 4) fun l3 => ((0 ≤ (x19 : Int)) ∧ ((x19 : Int) < (x3n : Nat)) ∧ (ptrN x3a fun b4 o5 => (ldV (HP.cell hp b4 (((o5 + Int.toNat x19 * 7) + 1) + 4)) fun v6 => (intV v6 .i64 fun i7 => ((0 ≤ (x19 : Int)) ∧ ((x19 : Int) < (x3n : Nat)) ∧ (ptrN x3a fun b8 o9 => (ldV (HP.cell hp b8 ((o9 + Int.toNat x19 * 7) + 6)) fun v10 => (boolV v10 fun q11 => (CF Try.prog 46 [(Value.pointer x9), (Value.agg ⟨l3⟩), (Value.int .i64 i7), (Value.bool q11)] hp fun u12 h13 => (tup2V u12 fun u14 u15 => (aggV u14 fun l16 => (intV u15 .i64 fun i17 => (if List.length l16 = 5 then (if List.all l16 one = true then (if 0 + List.length l16 ≤ List.length [(Value.int .u8 0), (Value.int .u8 0), (Value.int .u8 0), (Value.int .u8 0), (Value.int .i64 0)] then (K (upd (upd (upd (upd (upd (upd (upd (upd (upd (upd (upd (upd (upd (upd (upd (upd (upd (upd (upd (upd (upd (upd (upd (upd (upd (upd (upd e 19 (sI (x19))) 9 (sV (Value.pointer x9))) 3 (sV (Value.slice x3a x3n x3c))) 179 (sV (Value.pointer x9))) 180 (sV (Value.slice x3a x3n x3c))) 181 (sI (x19))) 182 (sV (ptr b1 (o2 + Int.toNat x19 * 7)))) 183 (sV (ptr b1 ((o2 + Int.toNat x19 * 7) + 1)))) 184 (sV (ptr b1 (((o2 + Int.toNat x19 * 7) + 1) + 0)))) 185 (sV (Value.agg ⟨l3⟩))) 186 (sV (Value.slice x3a x3n x3c))) 187 (sI (x19))) 188 (sV (ptr b4 (o5 + Int.toNat x19 * 7)))) 189 (sV (ptr b4 ((o5 + Int.toNat x19 * 7) + 1)))) 190 (sV (ptr b4 (((o5 + Int.toNat x19 * 7) + 1) + 4)))) 191 (sI (i7))) 192 (sV (Value.slice x3a x3n x3c))) 193 (sI (x19))) 194 (sV (ptr b8 (o9 + Int.toNat x19 * 7)))) 195 (sV (ptr b8 ((o9 + Int.toNat x19 * 7) + 6)))) 196 (sB (q11))) 197 (sV (Value.tuple ⟨[(Value.agg ⟨l16⟩), (Value.int .i64 i17)]⟩))) 178 (sV (Value.tuple ⟨[(Value.agg ⟨l16⟩), (Value.int .i64 i17)]⟩))) 198 (sV (Value.agg ⟨l16⟩))) 199 (sI (i17))) 20 (SV.priv 20 0)) 21 (sI (i17))) (upd (upd V0 20 (75, [(Value.int .u8 0), (Value.int .u8 0), (Value.int .u8 0), (Value.int .u8 0), (Value.int .i64 0)])) 20 (75, (splice [(Value.int .u8 0), (Value.int .u8 0), (Value.int .u8 0), (Value.int .u8 0), (Value.int .i64 0)] 0 l16))) h13) else False) else False) else False)))))))))))))))) := by kernel_rfl
theorem F12_r11 (e : Env) (x3a : Option Addr) (x3n : Nat) (x3c : Nat) (x11 : Option Addr) (x19 : Int) (k20 : List Value) (hp : HP) (K : Env → PV → HP → Prop) : RW Try.prog 231 [20, 22] (opsAt Try.f12 [1, 1, 1, 1, 1, 1, 1, 1, 1, 1, 0, 1, 0, 0, 1, 0, 0, 1, 0]) (List.range 25) (upd (upd (upd e 19 (sI (x19))) 11 (sV (Value.pointer x11))) 3 (sV (Value.slice x3a x3n x3c))) (upd V0 20 (75, k20)) hp K =
    ((0 ≤ (x19 : Int)) ∧ ((x19 : Int) < (x3n : Nat)) ∧ (ptrN x3a fun b1 o2 => (ldL (HP.cellN hp b1 (((o2 + Int.toNat x19 * 7) + 1) + 0) 4) fun l3 => ((0 ≤ (x19 : Int)) ∧ ((x19 : Int) < (x3n : Nat)) ∧ (ptrN x3a fun b4 o5 => (ldV (HP.cell hp b4 (((o5 + Int.toNat x19 * 7) + 1) + 4)) fun v6 => (intV v6 .i64 fun i7 => ((0 ≤ (x19 : Int)) ∧ ((x19 : Int) < (x3n : Nat)) ∧ (ptrN x3a fun b8 o9 => (ldV (HP.cell hp b8 ((o9 + Int.toNat x19 * 7) + 6)) fun v10 => (boolV v10 fun q11 => (CF Try.prog 46 [(Value.pointer x11), (Value.agg ⟨l3⟩), (Value.int .i64 i7), (Value.bool q11)] hp fun u12 h13 => (tup2V u12 fun u14 u15 => (aggV u14 fun l16 => (intV u15 .i64 fun i17 => (if List.length l16 = 5 then (if List.all l16 one = true then (if 0 + List.length l16 ≤ List.length [(Value.int .u8 0), (Value.int .u8 0), (Value.int .u8 0), (Value.int .u8 0), (Value.int .i64 0)] then (K (upd (upd (upd (upd (upd (upd (upd (upd (upd (upd (upd (upd (upd (upd (upd (upd (upd (upd (upd (upd (upd (upd (upd (upd (upd (upd (upd e 19 (sI (x19))) 11 (sV (Value.pointer x11))) 3 (sV (Value.slice x3a x3n x3c))) 201 (sV (Value.pointer x11))) 202 (sV (Value.slice x3a x3n x3c))) 203 (sI (x19))) 204 (sV (ptr b1 (o2 + Int.toNat x19 * 7)))) 205 (sV (ptr b1 ((o2 + Int.toNat x19 * 7) + 1)))) 206 (sV (ptr b1 (((o2 + Int.toNat x19 * 7) + 1) + 0)))) 207 (sV (Value.agg ⟨l3⟩))) 208 (sV (Value.slice x3a x3n x3c))) 209 (sI (x19))) 210 (sV (ptr b4 (o5 + Int.toNat x19 * 7)))) 211 (sV (ptr b4 ((o5 + Int.toNat x19 * 7) + 1)))) 212 (sV (ptr b4 (((o5 + Int.toNat x19 * 7) + 1) + 4)))) 213 (sI (i7))) 214 (sV (Value.slice x3a x3n x3c))) 215 (sI (x19))) 216 (sV (ptr b8 (o9 + Int.toNat x19 * 7)))) 217 (sV (ptr b8 ((o9 + Int.toNat x19 * 7) + 6)))) 218 (sB (q11))) 219 (sV (Value.tuple ⟨[(Value.agg ⟨l16⟩), (Value.int .i64 i17)]⟩))) 200 (sV (Value.tuple ⟨[(Value.agg ⟨l16⟩), (Value.int .i64 i17)]⟩))) 220 (sV (Value.agg ⟨l16⟩))) 221 (sI (i17))) 22 (SV.priv 22 0)) 23 (sI (i17))) (upd (upd (upd V0 20 (75, k20)) 22 (75, [(Value.int .u8 0), (Value.int .u8 0), (Value.int .u8 0), (Value.int .u8 0), (Value.int .i64 0)])) 22 (75, (splice [(Value.int .u8 0), (Value.int .u8 0), (Value.int .u8 0), (Value.int .u8 0), (Value.int .i64 0)] 0 l16))) h13) else False) else False) else False)))))))))))))))) := by kernel_rfl
theorem F12_r12 (e : Env) (hp : HP) (K : Env → PV → HP → Prop) : RW Try.prog 231 [20, 22] (opsAt Try.f12 [1, 1, 1, 1, 1, 1, 1, 1, 1, 1, 0, 1, 0, 0, 1, 0, 0, 1, 1, 1, 0, 0]) (List.range 1) e V0 hp K =
    (K (upd e 8 (sB (false))) V0 hp) := by kernel_rfl
theorem F12_r13 (e : Env) (x19 : Int) (hp : HP) (K : Env → PV → HP → Prop) : RW Try.prog 231 [20, 22] (opsAt Try.f12 [1, 1, 1, 1, 1, 1, 1, 1, 1, 1, 0, 1, 0, 0, 1, 1]) (List.range 3) (upd e 19 (sI (x19))) V0 hp K =
    (K (upd (upd (upd (upd e 19 (sI (x19))) 176 (sI (x19))) 177 (sI ((IntKind.wrap .i64 (x19 + 1))))) 19 (sI ((IntKind.wrap .i64 (x19 + 1))))) V0 hp) := by kernel_rfl
def F12_j9 (x3a : Option Addr) (x3n : Nat) (x3c : Nat) (x9 : Option Addr) (x11 : Option Addr) (x19 : Int) (x229 : Bool) (hp : HP) (I8 : (Int) → HP → Prop) (K : Value → HP → Prop) : Prop :=
  (ite2 x229 (K (Value.bool false) hp) (I8 (IntKind.wrap .i64 (x19 + 1)) hp))
theorem F12_r14 (e : Env) (x21 : Int) (x23 : Int) (k20 : List Value) (k22 : List Value) (hp : HP) (K : Env → PV → HP → Prop) : RW Try.prog 231 [20, 22] (opsAt Try.f12 [1, 1, 1, 1, 1, 1, 1, 1, 1, 1, 0, 1, 0, 0, 1, 0, 0, 1, 1, 0]) (List.range 8) (upd (upd (upd (upd e 23 (sI (x23))) 22 (SV.priv 22 0)) 21 (sI (x21))) 20 (SV.priv 20 0)) (upd (upd V0 22 (75, k22)) 20 (75, k20)) hp K =
    (ldL (cellsN k20 0 5) fun l1 => (ldL (cellsN k22 0 5) fun l2 => (eqAgg Try.prog 75 l1 l2 fun q3 => (ite2 (!q3) (K (upd (upd (upd (upd (upd (upd (upd (upd (upd (upd (upd (upd e 23 (sI (x23))) 22 (SV.priv 22 0)) 21 (sI (x21))) 20 (SV.priv 20 0)) 222 (sV (Value.agg ⟨l1⟩))) 223 (sV (Value.agg ⟨l2⟩))) 224 (sB ((!q3)))) 225 (sB (true))) 226 (sV undef)) 227 (sV undef)) 228 (sV undef)) 229 (sB (true))) (upd (upd V0 22 (75, k22)) 20 (75, k20)) hp) (K (upd (upd (upd (upd (upd (upd (upd (upd (upd (upd (upd (upd e 23 (sI (x23))) 22 (SV.priv 22 0)) 21 (sI (x21))) 20 (SV.priv 20 0)) 222 (sV (Value.agg ⟨l1⟩))) 223 (sV (Value.agg ⟨l2⟩))) 224 (sB ((!q3)))) 225 (sB (false))) 226 (sI (x21))) 227 (sI (x23))) 228 (sB (((x21 : Int) != x23)))) 229 (sB (((x21 : Int) != x23)))) (upd (upd V0 22 (75, k22)) 20 (75, k20)) hp))))) := by kernel_rfl
def F12_l8 (x3a : Option Addr) (x3n : Nat) (x3c : Nat) (x9 : Option Addr) (x11 : Option Addr) (K : Value → HP → Prop) (I8 : (Int) → HP → Prop) (x19 : Int) (hp : HP) : Prop :=
  (ite2 (decide ((x19 : Int) < (x3n : Nat))) ((0 ≤ (x19 : Int)) ∧ ((x19 : Int) < (x3n : Nat)) ∧ (ptrN x3a fun b_30 o_31 => (ldL (HP.cellN hp b_30 (((o_31 + Int.toNat x19 * 7) + 1) + 0) 4) fun l_32 => ((0 ≤ (x19 : Int)) ∧ ((x19 : Int) < (x3n : Nat)) ∧ (ptrN x3a fun b_33 o_34 => (ldV (HP.cell hp b_33 (((o_34 + Int.toNat x19 * 7) + 1) + 4)) fun v_35 => (intV v_35 .i64 fun i_36 => ((0 ≤ (x19 : Int)) ∧ ((x19 : Int) < (x3n : Nat)) ∧ (ptrN x3a fun b_37 o_38 => (ldV (HP.cell hp b_37 ((o_38 + Int.toNat x19 * 7) + 6)) fun v_39 => (boolV v_39 fun q_40 => (CF Try.prog 46 [(Value.pointer x9), (Value.agg ⟨l_32⟩), (Value.int .i64 i_36), (Value.bool q_40)] hp fun u_41 h_42 => (tup2V u_41 fun u_43 u_44 => (aggV u_43 fun l_45 => (intV u_44 .i64 fun i_46 => (if List.length l_45 = 5 then (if List.all l_45 one = true then (if 0 + List.length l_45 ≤ List.length [(Value.int .u8 0), (Value.int .u8 0), (Value.int .u8 0), (Value.int .u8 0), (Value.int .i64 0)] then ((0 ≤ (x19 : Int)) ∧ ((x19 : Int) < (x3n : Nat)) ∧ (ptrN x3a fun b_47 o_48 => (ldL (HP.cellN h_42 b_47 (((o_48 + Int.toNat x19 * 7) + 1) + 0) 4) fun l_49 => ((0 ≤ (x19 : Int)) ∧ ((x19 : Int) < (x3n : Nat)) ∧ (ptrN x3a fun b_50 o_51 => (ldV (HP.cell h_42 b_50 (((o_51 + Int.toNat x19 * 7) + 1) + 4)) fun v_52 => (intV v_52 .i64 fun i_53 => ((0 ≤ (x19 : Int)) ∧ ((x19 : Int) < (x3n : Nat)) ∧ (ptrN x3a fun b_54 o_55 => (ldV (HP.cell h_42 b_54 ((o_55 + Int.toNat x19 * 7) + 6)) fun v_56 => (boolV v_56 fun q_57 => (CF Try.prog 46 [(Value.pointer x11), (Value.agg ⟨l_49⟩), (Value.int .i64 i_53), (Value.bool q_57)] h_42 fun u_58 h_59 => (tup2V u_58 fun u_60 u_61 => (aggV u_60 fun l_62 => (intV u_61 .i64 fun i_63 => (if List.length l_62 = 5 then (if List.all l_62 one = true then (if 0 + List.length l_62 ≤ List.length [(Value.int .u8 0), (Value.int .u8 0), (Value.int .u8 0), (Value.int .u8 0), (Value.int .i64 0)] then (ldL (cellsN (splice [(Value.int .u8 0), (Value.int .u8 0), (Value.int .u8 0), (Value.int .u8 0), (Value.int .i64 0)] 0 l_45) 0 5) fun l_64 => (ldL (cellsN (splice [(Value.int .u8 0), (Value.int .u8 0), (Value.int .u8 0), (Value.int .u8 0), (Value.int .i64 0)] 0 l_62) 0 5) fun l_65 => (eqAgg Try.prog 75 l_64 l_65 fun q_66 => (ite2 (!q_66) (F12_j9 x3a x3n x3c x9 x11 x19 true h_59 I8 K) (F12_j9 x3a x3n x3c x9 x11 x19 ((i_46 : Int) != i_63) h_59 I8 K))))) else False) else False) else False)))))))))))))))) else False) else False) else False)))))))))))))))) (F12_j6  hp  K))
def F12_j7 (x3a : Option Addr) (x3n : Nat) (x3c : Nat) (x9 : Option Addr) (x11 : Option Addr) (x19 : Int) (hp : HP) (K : Value → HP → Prop) : Prop :=
  (LoopP (σ := Int) (fun I s hp => F12_l8 x3a x3n x3c x9 x11  K I s hp) x19 hp)
theorem F12_r15 (e : Env) (hp : HP) (K : Env → PV → HP → Prop) : RW Try.prog 231 [20, 22] (opsAt Try.f12 [1, 1, 1, 1, 1, 1, 1, 1, 1, 1, 0, 0]) (List.range 1) e V0 hp K =
    (K (upd e 19 (sI (0))) V0 hp) := by kernel_rfl
def F12_j5 (x3a : Option Addr) (x3n : Nat) (x3c : Nat) (x9 : Option Addr) (x11 : Option Addr) (x171 : Bool) (hp : HP) (K : Value → HP → Prop) : Prop :=
  (ite2 x171 (K (Value.bool false) hp) (F12_j7 x3a x3n x3c x9 x11 0 hp  K))
theorem F12_r16 (e : Env) (x9 : Option Addr) (x13 : Int) (hp : HP) (K : Env → PV → HP → Prop) : RW Try.prog 231 [20, 22] (opsAt Try.f12 [1, 1, 1, 1, 1, 1, 1, 1, 1, 0, 0]) (List.range 10) (upd (upd e 13 (sI (x13))) 9 (sV (Value.pointer x9))) V0 hp K =
    (CF Try.prog 45 [(Value.pointer x9)] hp fun u1 h2 => (slcV u1 fun a3 n4 c5 => (ite2 (((n4 : Nat) : Int) != 0) (K (upd (upd (upd (upd (upd (upd (upd (upd (upd (upd (upd (upd e 13 (sI (x13))) 9 (sV (Value.pointer x9))) 162 (sV (Value.pointer x9))) 163 (sV (Value.slice a3 n4 c5))) 164 (sI ((n4 : Nat)))) 165 (sB ((((n4 : Nat) : Int) != 0)))) 166 (sB (true))) 167 (sV undef)) 168 (sV undef)) 169 (sV undef)) 170 (sV undef)) 171 (sB (true))) V0 h2) (CF Try.prog 54 [(Value.pointer x9)] h2 fun u6 h7 => (intV u6 .i64 fun i8 => (K (upd (upd (upd (upd (upd (upd (upd (upd (upd (upd (upd (upd e 13 (sI (x13))) 9 (sV (Value.pointer x9))) 162 (sV (Value.pointer x9))) 163 (sV (Value.slice a3 n4 c5))) 164 (sI ((n4 : Nat)))) 165 (sB ((((n4 : Nat) : Int) != 0)))) 166 (sB (false))) 167 (sV (Value.pointer x9))) 168 (sI (i8))) 169 (sI (x13))) 170 (sB (((i8 : Int) != x13)))) 171 (sB (((i8 : Int) != x13)))) V0 h7)))))) := by kernel_rfl
def F12_j4 (x3a : Option Addr) (x3n : Nat) (x3c : Nat) (x9 : Option Addr) (x11 : Option Addr) (x13 : Int) (hp : HP) (K : Value → HP → Prop) : Prop :=
  (CF Try.prog 45 [(Value.pointer x9)] hp fun u_67 h_68 => (slcV u_67 fun a_69 n_70 c_71 => (ite2 (((n_70 : Nat) : Int) != 0) (F12_j5 x3a x3n x3c x9 x11 true h_68  K) (CF Try.prog 54 [(Value.pointer x9)] h_68 fun u_72 h_73 => (intV u_72 .i64 fun i_74 => (F12_j5 x3a x3n x3c x9 x11 ((i_74 : Int) != x13) h_73  K))))))
theorem F12_r17 (e : Env) (x16 : Int) (hp : HP) (K : Env → PV → HP → Prop) : RW Try.prog 231 [20, 22] (opsAt Try.f12 [1, 1, 1, 1, 1, 1, 1, 1, 0, 1, 0, 0, 0, 0]) (List.range 2) (upd e 16 (sI (x16))) V0 hp K =
    (K (upd (upd (upd e 16 (sI (x16))) 108 (sI (x16))) 109 (sB ((decide ((x16 : Int) ≥ 0))))) V0 hp) := by kernel_rfl
theorem F12_r18 (e : Env) (x9 : Option Addr) (x15a : Option Addr) (x15n : Nat) (x15c : Nat) (x16 : Int) (hp : HP) (K : Env → PV → HP → Prop) : RW Try.prog 231 [20, 22] (opsAt Try.f12 [1, 1, 1, 1, 1, 1, 1, 1, 0, 1, 0, 0, 1, 0, 0, 0]) (List.range 11) (upd (upd (upd e 16 (sI (x16))) 15 (sV (Value.slice x15a x15n x15c))) 9 (sV (Value.pointer x9))) V0 hp K =
    ((0 ≤ (x16 : Int)) ∧ ((x16 : Int) < (x15n : Nat)) ∧ (ptrN x15a fun b1 o2 => (ldL (HP.cellN hp b1 (o2 + Int.toNat x16 * 5) 5) fun l3 => (CF Try.prog 47 [(Value.pointer x9), (Value.agg ⟨l3⟩)] hp fun u4 h5 => (tup2V u4 fun u6 u7 => (boolV u6 fun q8 => (boolV u7 fun q9 => (K (upd (upd (upd (upd (upd (upd (upd (upd (upd (upd (upd (upd (upd (upd e 16 (sI (x16))) 15 (sV (Value.slice x15a x15n x15c))) 9 (sV (Value.pointer x9))) 113 (sV (Value.pointer x9))) 114 (sV (Value.slice x15a x15n x15c))) 115 (sI (x16))) 116 (sV (ptr b1 (o2 + Int.toNat x16 * 5)))) 117 (sV (Value.agg ⟨l3⟩))) 118 (sV (Value.tuple ⟨[(Value.bool q8), (Value.bool q9)]⟩))) 112 (sV (Value.tuple ⟨[(Value.bool q8), (Value.bool q9)]⟩))) 119 (sB (q8))) 120 (sB (q9))) 17 (sB (q8))) 18 (sB (q9))) V0 h5)))))))) := by kernel_rfl
theorem F12_r19 (e : Env) (hp : HP) (K : Env → PV → HP → Prop) : RW Try.prog 231 [20, 22] (opsAt Try.f12 [1, 1, 1, 1, 1, 1, 1, 1, 0, 1, 0, 0, 1, 0, 0, 1, 1, 0, 0]) (List.range 1) e V0 hp K =
    (K (upd e 8 (sB (false))) V0 hp) := by kernel_rfl
theorem F12_r20 (e : Env) (x16 : Int) (hp : HP) (K : Env → PV → HP → Prop) : RW Try.prog 231 [20, 22] (opsAt Try.f12 [1, 1, 1, 1, 1, 1, 1, 1, 0, 1, 0, 0, 1, 1]) (List.range 3) (upd e 16 (sI (x16))) V0 hp K =
    (K (upd (upd (upd (upd e 16 (sI (x16))) 110 (sI (x16))) 111 (sI ((IntKind.wrap .i64 (x16 - 1))))) 16 (sI ((IntKind.wrap .i64 (x16 - 1))))) V0 hp) := by kernel_rfl
def F12_j12 (x3a : Option Addr) (x3n : Nat) (x3c : Nat) (x9 : Option Addr) (x11 : Option Addr) (x13 : Int) (x15a : Option Addr) (x15n : Nat) (x15c : Nat) (x16 : Int) (x161 : Bool) (hp : HP) (I11 : (Int) → HP → Prop) (K : Value → HP → Prop) : Prop :=
  (ite2 x161 (K (Value.bool false) hp) (I11 (IntKind.wrap .i64 (x16 - 1)) hp))
theorem F12_r21 (e : Env) (x9 : Option Addr) (x15a : Option Addr) (x15n : Nat) (x15c : Nat) (x16 : Int) (x18 : Bool) (hp : HP) (K : Env → PV → HP → Prop) : RW Try.prog 231 [20, 22] (opsAt Try.f12 [1, 1, 1, 1, 1, 1, 1, 1, 0, 1, 0, 0, 1, 0, 0, 1, 0]) (List.range 41) (upd (upd (upd (upd e 18 (sB (x18))) 16 (sI (x16))) 15 (sV (Value.slice x15a x15n x15c))) 9 (sV (Value.pointer x9))) V0 hp K =
    (ite2 x18 ((0 ≤ (x16 : Int)) ∧ ((x16 : Int) < (x15n : Nat)) ∧ (ptrN x15a fun b1 o2 => (ldL (HP.cellN hp b1 (o2 + Int.toNat x16 * 5) 5) fun l3 => (CF Try.prog 49 [(Value.pointer x9), (Value.agg ⟨l3⟩)] hp fun u4 h5 => (intV u4 .i64 fun i6 => (ite2 ((i6 : Int) != 11) (K (upd (upd (upd (upd (upd (upd (upd (upd (upd (upd (upd (upd (upd (upd (upd (upd (upd (upd (upd (upd (upd (upd (upd (upd (upd (upd (upd (upd (upd (upd (upd (upd (upd (upd (upd (upd (upd (upd (upd (upd (upd (upd (upd (upd (upd e 18 (sB (x18))) 16 (sI (x16))) 15 (sV (Value.slice x15a x15n x15c))) 9 (sV (Value.pointer x9))) 121 (sB (x18))) 122 (sB (true))) 123 (sV (Value.pointer x9))) 124 (sV (Value.slice x15a x15n x15c))) 125 (sI (x16))) 126 (sV (ptr b1 (o2 + Int.toNat x16 * 5)))) 127 (sV (Value.agg ⟨l3⟩))) 128 (sI (i6))) 129 (sB (((i6 : Int) != 11)))) 130 (sB (true))) 131 (sV undef)) 132 (sV undef)) 133 (sV undef)) 134 (sV undef)) 135 (sV undef)) 136 (sV undef)) 137 (sV undef)) 138 (sB (true))) 139 (sB (true))) 140 (sB (true))) 141 (sV undef)) 142 (sV undef)) 143 (sV undef)) 144 (sV undef)) 145 (sV undef)) 146 (sV undef)) 147 (sV undef)) 148 (sV undef)) 149 (sV undef)) 150 (sV undef)) 151 (sV undef)) 152 (sV undef)) 153 (sV undef)) 154 (sV undef)) 155 (sV undef)) 156 (sV undef)) 157 (sV undef)) 158 (sV undef)) 159 (sV undef)) 160 (sV undef)) 161 (sB (true))) V0 h5) ((0 ≤ (x16 : Int)) ∧ ((x16 : Int) < (x15n : Nat)) ∧ (ptrN x15a fun b7 o8 => (ldL (HP.cellN h5 b7 (o8 + Int.toNat x16 * 5) 5) fun l9 => (CF Try.prog 51 [(Value.pointer x9), (Value.agg ⟨l9⟩)] h5 fun u10 h11 => (intV u10 .i64 fun i12 => (ite2 ((i12 : Int) != 0) (K (upd (upd (upd (upd (upd (upd (upd (upd (upd (upd (upd (upd (upd (upd (upd (upd (upd (upd (upd (upd (upd (upd (upd (upd (upd (upd (upd (upd (upd (upd (upd (upd (upd (upd (upd (upd (upd (upd (upd (upd (upd (upd (upd (upd (upd e 18 (sB (x18))) 16 (sI (x16))) 15 (sV (Value.slice x15a x15n x15c))) 9 (sV (Value.pointer x9))) 121 (sB (x18))) 122 (sB (true))) 123 (sV (Value.pointer x9))) 124 (sV (Value.slice x15a x15n x15c))) 125 (sI (x16))) 126 (sV (ptr b1 (o2 + Int.toNat x16 * 5)))) 127 (sV (Value.agg ⟨l3⟩))) 128 (sI (i6))) 129 (sB (((i6 : Int) != 11)))) 130 (sB (false))) 131 (sV (Value.pointer x9))) 132 (sV (Value.slice x15a x15n x15c))) 133 (sI (x16))) 134 (sV (ptr b7 (o8 + Int.toNat x16 * 5)))) 135 (sV (Value.agg ⟨l9⟩))) 136 (sI (i12))) 137 (sB (((i12 : Int) != 0)))) 138 (sB (((i12 : Int) != 0)))) 139 (sB (((i12 : Int) != 0)))) 140 (sB (true))) 141 (sV undef)) 142 (sV undef)) 143 (sV undef)) 144 (sV undef)) 145 (sV undef)) 146 (sV undef)) 147 (sV undef)) 148 (sV undef)) 149 (sV undef)) 150 (sV undef)) 151 (sV undef)) 152 (sV undef)) 153 (sV undef)) 154 (sV undef)) 155 (sV undef)) 156 (sV undef)) 157 (sV undef)) 158 (sV undef)) 159 (sV undef)) 160 (sV undef)) 161 (sB (true))) V0 h11) (ite2 (!x18) ((0 ≤ (x16 : Int)) ∧ ((x16 : Int) < (x15n : Nat)) ∧ (ptrN x15a fun b13 o14 => (ldL (HP.cellN h11 b13 (o14 + Int.toNat x16 * 5) 5) fun l15 => (CF Try.prog 51 [(Value.pointer x9), (Value.agg ⟨l15⟩)] h11 fun u16 h17 => (intV u16 .i64 fun i18 => (ite2 ((i18 : Int) != 4) (K (upd (upd (upd (upd (upd (upd (upd (upd (upd (upd (upd (upd (upd (upd (upd (upd (upd (upd (upd (upd (upd (upd (upd (upd (upd (upd (upd (upd (upd (upd (upd (upd (upd (upd (upd (upd (upd (upd (upd (upd (upd (upd (upd (upd (upd e 18 (sB (x18))) 16 (sI (x16))) 15 (sV (Value.slice x15a x15n x15c))) 9 (sV (Value.pointer x9))) 121 (sB (x18))) 122 (sB (true))) 123 (sV (Value.pointer x9))) 124 (sV (Value.slice x15a x15n x15c))) 125 (sI (x16))) 126 (sV (ptr b1 (o2 + Int.toNat x16 * 5)))) 127 (sV (Value.agg ⟨l3⟩))) 128 (sI (i6))) 129 (sB (((i6 : Int) != 11)))) 130 (sB (false))) 131 (sV (Value.pointer x9))) 132 (sV (Value.slice x15a x15n x15c))) 133 (sI (x16))) 134 (sV (ptr b7 (o8 + Int.toNat x16 * 5)))) 135 (sV (Value.agg ⟨l9⟩))) 136 (sI (i12))) 137 (sB (((i12 : Int) != 0)))) 138 (sB (((i12 : Int) != 0)))) 139 (sB (((i12 : Int) != 0)))) 140 (sB (false))) 141 (sB (x18))) 142 (sB ((!x18)))) 143 (sB (true))) 144 (sV (Value.pointer x9))) 145 (sV (Value.slice x15a x15n x15c))) 146 (sI (x16))) 147 (sV (ptr b13 (o14 + Int.toNat x16 * 5)))) 148 (sV (Value.agg ⟨l15⟩))) 149 (sI (i18))) 150 (sB (((i18 : Int) != 4)))) 151 (sB (true))) 152 (sV undef)) 153 (sV undef)) 154 (sV undef)) 155 (sV undef)) 156 (sV undef)) 157 (sV undef)) 158 (sV undef)) 159 (sB (true))) 160 (sB (true))) 161 (sB (true))) V0 h17) ((0 ≤ (x16 : Int)) ∧ ((x16 : Int) < (x15n : Nat)) ∧ (ptrN x15a fun b19 o20 => (ldL (HP.cellN h17 b19 (o20 + Int.toNat x16 * 5) 5) fun l21 => (CF Try.prog 49 [(Value.pointer x9), (Value.agg ⟨l21⟩)] h17 fun u22 h23 => (intV u22 .i64 fun i24 => (K (upd (upd (upd (upd (upd (upd (upd (upd (upd (upd (upd (upd (upd (upd (upd (upd (upd (upd (upd (upd (upd (upd (upd (upd (upd (upd (upd (upd (upd (upd (upd (upd (upd (upd (upd (upd (upd (upd (upd (upd (upd (upd (upd (upd (upd e 18 (sB (x18))) 16 (sI (x16))) 15 (sV (Value.slice x15a x15n x15c))) 9 (sV (Value.pointer x9))) 121 (sB (x18))) 122 (sB (true))) 123 (sV (Value.pointer x9))) 124 (sV (Value.slice x15a x15n x15c))) 125 (sI (x16))) 126 (sV (ptr b1 (o2 + Int.toNat x16 * 5)))) 127 (sV (Value.agg ⟨l3⟩))) 128 (sI (i6))) 129 (sB (((i6 : Int) != 11)))) 130 (sB (false))) 131 (sV (Value.pointer x9))) 132 (sV (Value.slice x15a x15n x15c))) 133 (sI (x16))) 134 (sV (ptr b7 (o8 + Int.toNat x16 * 5)))) 135 (sV (Value.agg ⟨l9⟩))) 136 (sI (i12))) 137 (sB (((i12 : Int) != 0)))) 138 (sB (((i12 : Int) != 0)))) 139 (sB (((i12 : Int) != 0)))) 140 (sB (false))) 141 (sB (x18))) 142 (sB ((!x18)))) 143 (sB (true))) 144 (sV (Value.pointer x9))) 145 (sV (Value.slice x15a x15n x15c))) 146 (sI (x16))) 147 (sV (ptr b13 (o14 + Int.toNat x16 * 5)))) 148 (sV (Value.agg ⟨l15⟩))) 149 (sI (i18))) 150 (sB (((i18 : Int) != 4)))) 151 (sB (false))) 152 (sV (Value.pointer x9))) 153 (sV (Value.slice x15a x15n x15c))) 154 (sI (x16))) 155 (sV (ptr b19 (o20 + Int.toNat x16 * 5)))) 156 (sV (Value.agg ⟨l21⟩))) 157 (sI (i24))) 158 (sB (((i24 : Int) != 0)))) 159 (sB (((i24 : Int) != 0)))) 160 (sB (((i24 : Int) != 0)))) 161 (sB (((i24 : Int) != 0)))) V0 h23)))))))))))) (K (upd (upd (upd (upd (upd (upd (upd (upd (upd (upd (upd (upd (upd (upd (upd (upd (upd (upd (upd (upd (upd (upd (upd (upd (upd (upd (upd (upd (upd (upd (upd (upd (upd (upd (upd (upd (upd (upd (upd (upd (upd (upd (upd (upd (upd e 18 (sB (x18))) 16 (sI (x16))) 15 (sV (Value.slice x15a x15n x15c))) 9 (sV (Value.pointer x9))) 121 (sB (x18))) 122 (sB (true))) 123 (sV (Value.pointer x9))) 124 (sV (Value.slice x15a x15n x15c))) 125 (sI (x16))) 126 (sV (ptr b1 (o2 + Int.toNat x16 * 5)))) 127 (sV (Value.agg ⟨l3⟩))) 128 (sI (i6))) 129 (sB (((i6 : Int) != 11)))) 130 (sB (false))) 131 (sV (Value.pointer x9))) 132 (sV (Value.slice x15a x15n x15c))) 133 (sI (x16))) 134 (sV (ptr b7 (o8 + Int.toNat x16 * 5)))) 135 (sV (Value.agg ⟨l9⟩))) 136 (sI (i12))) 137 (sB (((i12 : Int) != 0)))) 138 (sB (((i12 : Int) != 0)))) 139 (sB (((i12 : Int) != 0)))) 140 (sB (false))) 141 (sB (x18))) 142 (sB ((!x18)))) 143 (sB (false))) 144 (sV undef)) 145 (sV undef)) 146 (sV undef)) 147 (sV undef)) 148 (sV undef)) 149 (sV undef)) 150 (sV undef)) 151 (sV undef)) 152 (sV undef)) 153 (sV undef)) 154 (sV undef)) 155 (sV undef)) 156 (sV undef)) 157 (sV undef)) 158 (sV undef)) 159 (sV undef)) 160 (sB (false))) 161 (sB (false))) V0 h11)))))))))))))) (ite2 (!x18) ((0 ≤ (x16 : Int)) ∧ ((x16 : Int) < (x15n : Nat)) ∧ (ptrN x15a fun b25 o26 => (ldL (HP.cellN hp b25 (o26 + Int.toNat x16 * 5) 5) fun l27 => (CF Try.prog 51 [(Value.pointer x9), (Value.agg ⟨l27⟩)] hp fun u28 h29 => (intV u28 .i64 fun i30 => (ite2 ((i30 : Int) != 4) (K (upd (upd (upd (upd (upd (upd (upd (upd (upd (upd (upd (upd (upd (upd (upd (upd (upd (upd (upd (upd (upd (upd (upd (upd (upd (upd (upd (upd (upd (upd (upd (upd (upd (upd (upd (upd (upd (upd (upd (upd (upd (upd (upd (upd (upd e 18 (sB (x18))) 16 (sI (x16))) 15 (sV (Value.slice x15a x15n x15c))) 9 (sV (Value.pointer x9))) 121 (sB (x18))) 122 (sB (false))) 123 (sV undef)) 124 (sV undef)) 125 (sV undef)) 126 (sV undef)) 127 (sV undef)) 128 (sV undef)) 129 (sV undef)) 130 (sV undef)) 131 (sV undef)) 132 (sV undef)) 133 (sV undef)) 134 (sV undef)) 135 (sV undef)) 136 (sV undef)) 137 (sV undef)) 138 (sV undef)) 139 (sB (false))) 140 (sB (false))) 141 (sB (x18))) 142 (sB ((!x18)))) 143 (sB (true))) 144 (sV (Value.pointer x9))) 145 (sV (Value.slice x15a x15n x15c))) 146 (sI (x16))) 147 (sV (ptr b25 (o26 + Int.toNat x16 * 5)))) 148 (sV (Value.agg ⟨l27⟩))) 149 (sI (i30))) 150 (sB (((i30 : Int) != 4)))) 151 (sB (true))) 152 (sV undef)) 153 (sV undef)) 154 (sV undef)) 155 (sV undef)) 156 (sV undef)) 157 (sV undef)) 158 (sV undef)) 159 (sB (true))) 160 (sB (true))) 161 (sB (true))) V0 h29) ((0 ≤ (x16 : Int)) ∧ ((x16 : Int) < (x15n : Nat)) ∧ (ptrN x15a fun b31 o32 => (ldL (HP.cellN h29 b31 (o32 + Int.toNat x16 * 5) 5) fun l33 => (CF Try.prog 49 [(Value.pointer x9), (Value.agg ⟨l33⟩)] h29 fun u34 h35 => (intV u34 .i64 fun i36 => (K (upd (upd (upd (upd (upd (upd (upd (upd (upd (upd (upd (upd (upd (upd (upd (upd (upd (upd (upd (upd (upd (upd (upd (upd (upd (upd (upd (upd (upd (upd (upd (upd (upd (upd (upd (upd (upd (upd (upd (upd (upd (upd (upd (upd (upd e 18 (sB (x18))) 16 (sI (x16))) 15 (sV (Value.slice x15a x15n x15c))) 9 (sV (Value.pointer x9))) 121 (sB (x18))) 122 (sB (false))) 123 (sV undef)) 124 (sV undef)) 125 (sV undef)) 126 (sV undef)) 127 (sV undef)) 128 (sV undef)) 129 (sV undef)) 130 (sV undef)) 131 (sV undef)) 132 (sV undef)) 133 (sV undef)) 134 (sV undef)) 135 (sV undef)) 136 (sV undef)) 137 (sV undef)) 138 (sV undef)) 139 (sB (false))) 140 (sB (false))) 141 (sB (x18))) 142 (sB ((!x18)))) 143 (sB (true))) 144 (sV (Value.pointer x9))) 145 (sV (Value.slice x15a x15n x15c))) 146 (sI (x16))) 147 (sV (ptr b25 (o26 + Int.toNat x16 * 5)))) 148 (sV (Value.agg ⟨l27⟩))) 149 (sI (i30))) 150 (sB (((i30 : Int) != 4)))) 151 (sB (false))) 152 (sV (Value.pointer x9))) 153 (sV (Value.slice x15a x15n x15c))) 154 (sI (x16))) 155 (sV (ptr b31 (o32 + Int.toNat x16 * 5)))) 156 (sV (Value.agg ⟨l33⟩))) 157 (sI (i36))) 158 (sB (((i36 : Int) != 0)))) 159 (sB (((i36 : Int) != 0)))) 160 (sB (((i36 : Int) != 0)))) 161 (sB (((i36 : Int) != 0)))) V0 h35)))))))))))) (K (upd (upd (upd (upd (upd (upd (upd (upd (upd (upd (upd (upd (upd (upd (upd (upd (upd (upd (upd (upd (upd (upd (upd (upd (upd (upd (upd (upd (upd (upd (upd (upd (upd (upd (upd (upd (upd (upd (upd (upd (upd (upd (upd (upd (upd e 18 (sB (x18))) 16 (sI (x16))) 15 (sV (Value.slice x15a x15n x15c))) 9 (sV (Value.pointer x9))) 121 (sB (x18))) 122 (sB (false))) 123 (sV undef)) 124 (sV undef)) 125 (sV undef)) 126 (sV undef)) 127 (sV undef)) 128 (sV undef)) 129 (sV undef)) 130 (sV undef)) 131 (sV undef)) 132 (sV undef)) 133 (sV undef)) 134 (sV undef)) 135 (sV undef)) 136 (sV undef)) 137 (sV undef)) 138 (sV undef)) 139 (sB (false))) 140 (sB (false))) 141 (sB (x18))) 142 (sB ((!x18)))) 143 (sB (false))) 144 (sV undef)) 145 (sV undef)) 146 (sV undef)) 147 (sV undef)) 148 (sV undef)) 149 (sV undef)) 150 (sV undef)) 151 (sV undef)) 152 (sV undef)) 153 (sV undef)) 154 (sV undef)) 155 (sV undef)) 156 (sV undef)) 157 (sV undef)) 158 (sV undef)) 159 (sV undef)) 160 (sB (false))) 161 (sB (false))) V0 hp))) := by kernel_rfl
def F12_l11 (x3a : Option Addr) (x3n : Nat) (x3c : Nat) (x9 : Option Addr) (x11 : Option Addr) (x13 : Int) (x15a : Option Addr) (x15n : Nat) (x15c : Nat) (K : Value → HP → Prop) (I11 : (Int) → HP → Prop) (x16 : Int) (hp : HP) : Prop :=
  (ite2 (decide ((x16 : Int) ≥ 0)) ((0 ≤ (x16 : Int)) ∧ ((x16 : Int) < (x15n : Nat)) ∧ (ptrN x15a fun b_75 o_76 => (ldL (HP.cellN hp b_75 (o_76 + Int.toNat x16 * 5) 5) fun l_77 => (CF Try.prog 47 [(Value.pointer x9), (Value.agg ⟨l_77⟩)] hp fun u_78 h_79 => (tup2V u_78 fun u_80 u_81 => (boolV u_80 fun q_82 => (boolV u_81 fun q_83 => (ite2 q_83 ((0 ≤ (x16 : Int)) ∧ ((x16 : Int) < (x15n : Nat)) ∧ (ptrN x15a fun b_84 o_85 => (ldL (HP.cellN h_79 b_84 (o_85 + Int.toNat x16 * 5) 5) fun l_86 => (CF Try.prog 49 [(Value.pointer x9), (Value.agg ⟨l_86⟩)] h_79 fun u_87 h_88 => (intV u_87 .i64 fun i_89 => (ite2 ((i_89 : Int) != 11) (F12_j12 x3a x3n x3c x9 x11 x13 x15a x15n x15c x16 true h_88 I11 K) ((0 ≤ (x16 : Int)) ∧ ((x16 : Int) < (x15n : Nat)) ∧ (ptrN x15a fun b_90 o_91 => (ldL (HP.cellN h_88 b_90 (o_91 + Int.toNat x16 * 5) 5) fun l_92 => (CF Try.prog 51 [(Value.pointer x9), (Value.agg ⟨l_92⟩)] h_88 fun u_93 h_94 => (intV u_93 .i64 fun i_95 => (ite2 ((i_95 : Int) != 0) (F12_j12 x3a x3n x3c x9 x11 x13 x15a x15n x15c x16 true h_94 I11 K) (ite2 (!q_83) ((0 ≤ (x16 : Int)) ∧ ((x16 : Int) < (x15n : Nat)) ∧ (ptrN x15a fun b_96 o_97 => (ldL (HP.cellN h_94 b_96 (o_97 + Int.toNat x16 * 5) 5) fun l_98 => (CF Try.prog 51 [(Value.pointer x9), (Value.agg ⟨l_98⟩)] h_94 fun u_99 h_100 => (intV u_99 .i64 fun i_101 => (ite2 ((i_101 : Int) != 4) (F12_j12 x3a x3n x3c x9 x11 x13 x15a x15n x15c x16 true h_100 I11 K) ((0 ≤ (x16 : Int)) ∧ ((x16 : Int) < (x15n : Nat)) ∧ (ptrN x15a fun b_102 o_103 => (ldL (HP.cellN h_100 b_102 (o_103 + Int.toNat x16 * 5) 5) fun l_104 => (CF Try.prog 49 [(Value.pointer x9), (Value.agg ⟨l_104⟩)] h_100 fun u_105 h_106 => (intV u_105 .i64 fun i_107 => (F12_j12 x3a x3n x3c x9 x11 x13 x15a x15n x15c x16 ((i_107 : Int) != 0) h_106 I11 K)))))))))))) (F12_j12 x3a x3n x3c x9 x11 x13 x15a x15n x15c x16 false h_94 I11 K)))))))))))))) (ite2 (!q_83) ((0 ≤ (x16 : Int)) ∧ ((x16 : Int) < (x15n : Nat)) ∧ (ptrN x15a fun b_108 o_109 => (ldL (HP.cellN h_79 b_108 (o_109 + Int.toNat x16 * 5) 5) fun l_110 => (CF Try.prog 51 [(Value.pointer x9), (Value.agg ⟨l_110⟩)] h_79 fun u_111 h_112 => (intV u_111 .i64 fun i_113 => (ite2 ((i_113 : Int) != 4) (F12_j12 x3a x3n x3c x9 x11 x13 x15a x15n x15c x16 true h_112 I11 K) ((0 ≤ (x16 : Int)) ∧ ((x16 : Int) < (x15n : Nat)) ∧ (ptrN x15a fun b_114 o_115 => (ldL (HP.cellN h_112 b_114 (o_115 + Int.toNat x16 * 5) 5) fun l_116 => (CF Try.prog 49 [(Value.pointer x9), (Value.agg ⟨l_116⟩)] h_112 fun u_117 h_118 => (intV u_117 .i64 fun i_119 => (F12_j12 x3a x3n x3c x9 x11 x13 x15a x15n x15c x16 ((i_119 : Int) != 0) h_118 I11 K)))))))))))) (F12_j12 x3a x3n x3c x9 x11 x13 x15a x15n x15c x16 false h_79 I11 K)))))))))) (F12_j4 x3a x3n x3c x9 x11 x13 hp  K))
def F12_j10 (x3a : Option Addr) (x3n : Nat) (x3c : Nat) (x9 : Option Addr) (x11 : Option Addr) (x13 : Int) (x15a : Option Addr) (x15n : Nat) (x15c : Nat) (x16 : Int) (hp : HP) (K : Value → HP → Prop) : Prop :=
  (LoopP (σ := Int) (fun I s hp => F12_l11 x3a x3n x3c x9 x11 x13 x15a x15n x15c  K I s hp) x16 hp)
theorem F12_r22 (e : Env) (x15a : Option Addr) (x15n : Nat) (x15c : Nat) (hp : HP) (K : Env → PV → HP → Prop) : RW Try.prog 231 [20, 22] (opsAt Try.f12 [1, 1, 1, 1, 1, 1, 1, 1, 0, 0]) (List.range 4) (upd e 15 (sV (Value.slice x15a x15n x15c))) V0 hp K =
    (K (upd (upd (upd (upd (upd e 15 (sV (Value.slice x15a x15n x15c))) 105 (sV (Value.slice x15a x15n x15c))) 106 (sI ((x15n : Nat)))) 107 (sI ((IntKind.wrap .i64 ((x15n : Nat) - 1))))) 16 (sI ((IntKind.wrap .i64 ((x15n : Nat) - 1))))) V0 hp) := by kernel_rfl
def F12_j3 (x3a : Option Addr) (x3n : Nat) (x3c : Nat) (x9 : Option Addr) (x11 : Option Addr) (x13 : Int) (hp : HP) (K : Value → HP → Prop) : Prop :=
  (CF Try.prog 45 [(Value.pointer x9)] hp fun u_22 h_23 => (slcV u_22 fun a_24 n_25 c_26 => (F12_j10 x3a x3n x3c x9 x11 x13 a_24 n_25 c_26 (IntKind.wrap .i64 ((n_25 : Nat) - 1)) h_23  K)))
theorem F12_r23 (e : Env) (x3a : Option Addr) (x3n : Nat) (x3c : Nat) (x14 : Int) (hp : HP) (K : Env → PV → HP → Prop) : RW Try.prog 231 [20, 22] (opsAt Try.f12 [1, 1, 1, 1, 1, 1, 0, 1, 0, 0, 0, 0]) (List.range 4) (upd (upd e 14 (sI (x14))) 3 (sV (Value.slice x3a x3n x3c))) V0 hp K =
    (K (upd (upd (upd (upd (upd (upd e 14 (sI (x14))) 3 (sV (Value.slice x3a x3n x3c))) 62 (sI (x14))) 63 (sV (Value.slice x3a x3n x3c))) 64 (sI ((x3n : Nat)))) 65 (sB ((decide ((x14 : Int) < (x3n : Nat)))))) V0 hp) := by kernel_rfl
theorem F12_r24 (e : Env) (x14 : Int) (hp : HP) (K : Env → PV → HP → Prop) : RW Try.prog 231 [20, 22] (opsAt Try.f12 [1, 1, 1, 1, 1, 1, 0, 1, 0, 0, 1, 1]) (List.range 3) (upd e 14 (sI (x14))) V0 hp K =
    (K (upd (upd (upd (upd e 14 (sI (x14))) 66 (sI (x14))) 67 (sI ((IntKind.wrap .i64 (x14 + 1))))) 14 (sI ((IntKind.wrap .i64 (x14 + 1))))) V0 hp) := by kernel_rfl
def F12_j15 (x3a : Option Addr) (x3n : Nat) (x3c : Nat) (x9 : Option Addr) (x11 : Option Addr) (x13 : Int) (x14 : Int) (hp : HP) (I14 : (Int) → HP → Prop) (K : Value → HP → Prop) : Prop :=
  (I14 (IntKind.wrap .i64 (x14 + 1)) hp)
theorem F12_r25 (e : Env) (x3a : Option Addr) (x3n : Nat) (x3c : Nat) (x14 : Int) (hp : HP) (K : Env → PV → HP → Prop) : RW Try.prog 231 [20, 22] (opsAt Try.f12 [1, 1, 1, 1, 1, 1, 0, 1, 0, 0, 1, 0, 0, 0]) (List.range 5) (upd (upd e 14 (sI (x14))) 3 (sV (Value.slice x3a x3n x3c))) V0 hp K =
    ((0 ≤ (x14 : Int)) ∧ ((x14 : Int) < (x3n : Nat)) ∧ (ptrN x3a fun b1 o2 => (ldV (HP.cell hp b1 ((o2 + Int.toNat x14 * 7) + 0)) fun v3 => (intV v3 .u8 fun i4 => (K (upd (upd (upd (upd (upd (upd (upd e 14 (sI (x14))) 3 (sV (Value.slice x3a x3n x3c))) 68 (sV (Value.slice x3a x3n x3c))) 69 (sI (x14))) 70 (sV (ptr b1 (o2 + Int.toNat x14 * 7)))) 71 (sV (ptr b1 ((o2 + Int.toNat x14 * 7) + 0)))) 72 (sV (Value.int .u8 i4))) V0 hp))))) := by kernel_rfl
theorem F12_r26 (e : Env) (x72 : Int) (hp : HP) (K : Env → PV → HP → Prop) : RW Try.prog 231 [20, 22] (opsAt Try.f12 [1, 1, 1, 1, 1, 1, 0, 1, 0, 0, 1, 0, 0, 1, 0, 0]) (List.range 2) (upd e 72 (sV (Value.int .u8 x72))) V0 hp K =
    (K (upd (upd (upd e 72 (sV (Value.int .u8 x72))) 74 (sB (((x72 : Int) == 0)))) 73 (sB (((x72 : Int) == 0)))) V0 hp) := by kernel_rfl
theorem F12_r27 (e : Env) (x3a : Option Addr) (x3n : Nat) (x3c : Nat) (x9 : Option Addr) (x14 : Int) (hp : HP) (K : Env → PV → HP → Prop) : RW Try.prog 231 [20, 22] (opsAt Try.f12 [1, 1, 1, 1, 1, 1, 0, 1, 0, 0, 1, 0, 0, 1, 0, 1, 0]) (List.range 19) (upd (upd (upd e 14 (sI (x14))) 9 (sV (Value.pointer x9))) 3 (sV (Value.slice x3a x3n x3c))) V0 hp K =
    ((0 ≤ (x14 : Int)) ∧ ((x14 : Int) < (x3n : Nat)) ∧ (ptrN x3a fun b1 o2 => (ldL (HP.cellN hp b1 (((o2 + Int.toNat x14 * 7) + 1) + 0) 4) fun l3 => ((0 ≤ (x14 : Int)) ∧ ((x14 : Int) < (x3n : Nat)) ∧ (ptrN x3a fun b4 o5 => (ldV (HP.cell hp b4 (((o5 + Int.toNat x14 * 7) + 1) + 4)) fun v6 => (intV v6 .i64 fun i7 => ((0 ≤ (x14 : Int)) ∧ ((x14 : Int) < (x3n : Nat)) ∧ (ptrN x3a fun b8 o9 => (ldV (HP.cell hp b8 ((o9 + Int.toNat x14 * 7) + 6)) fun v10 => (boolV v10 fun q11 => (CF Try.prog 46 [(Value.pointer x9), (Value.agg ⟨l3⟩), (Value.int .i64 i7), (Value.bool q11)] hp fun u12 h13 => (tup2V u12 fun u14 u15 => (aggV u14 fun l16 => (intV u15 .i64 fun i17 => (K (upd (upd (upd (upd (upd (upd (upd (upd (upd (upd (upd (upd (upd (upd (upd (upd (upd (upd (upd (upd (upd (upd e 14 (sI (x14))) 9 (sV (Value.pointer x9))) 3 (sV (Value.slice x3a x3n x3c))) 75 (sV (Value.pointer x9))) 76 (sV (Value.slice x3a x3n x3c))) 77 (sI (x14))) 78 (sV (ptr b1 (o2 + Int.toNat x14 * 7)))) 79 (sV (ptr b1 ((o2 + Int.toNat x14 * 7) + 1)))) 80 (sV (ptr b1 (((o2 + Int.toNat x14 * 7) + 1) + 0)))) 81 (sV (Value.agg ⟨l3⟩))) 82 (sV (Value.slice x3a x3n x3c))) 83 (sI (x14))) 84 (sV (ptr b4 (o5 + Int.toNat x14 * 7)))) 85 (sV (ptr b4 ((o5 + Int.toNat x14 * 7) + 1)))) 86 (sV (ptr b4 (((o5 + Int.toNat x14 * 7) + 1) + 4)))) 87 (sI (i7))) 88 (sV (Value.slice x3a x3n x3c))) 89 (sI (x14))) 90 (sV (ptr b8 (o9 + Int.toNat x14 * 7)))) 91 (sV (ptr b8 ((o9 + Int.toNat x14 * 7) + 6)))) 92 (sB (q11))) 93 (sV (Value.tuple ⟨[(Value.agg ⟨l16⟩), (Value.int .i64 i17)]⟩))) V0 h13)))))))))))))))) := by kernel_rfl
theorem F12_r28 (e : Env) (x72 : Int) (hp : HP) (K : Env → PV → HP → Prop) : RW Try.prog 231 [20, 22] (opsAt Try.f12 [1, 1, 1, 1, 1, 1, 0, 1, 0, 0, 1, 0, 0, 1, 0, 1, 1, 0]) (List.range 2) (upd e 72 (sV (Value.int .u8 x72))) V0 hp K =
    (K (upd (upd (upd e 72 (sV (Value.int .u8 x72))) 95 (sB (((x72 : Int) == 2)))) 94 (sB (((x72 : Int) == 2)))) V0 hp) := by kernel_rfl
theorem F12_r29 (e : Env) (x3a : Option Addr) (x3n : Nat) (x3c : Nat) (x9 : Option Addr) (x14 : Int) (hp : HP) (K : Env → PV → HP → Prop) : RW Try.prog 231 [20, 22] (opsAt Try.f12 [1, 1, 1, 1, 1, 1, 0, 1, 0, 0, 1, 0, 0, 1, 0, 1, 1, 1, 0]) (List.range 7) (upd (upd (upd e 14 (sI (x14))) 9 (sV (Value.pointer x9))) 3 (sV (Value.slice x3a x3n x3c))) V0 hp K =
    ((0 ≤ (x14 : Int)) ∧ ((x14 : Int) < (x3n : Nat)) ∧ (ptrN x3a fun b1 o2 => (ldL (HP.cellN hp b1 ((o2 + Int.toNat x14 * 7) + 1) 5) fun l3 => (CF Try.prog 50 [(Value.pointer x9), (Value.agg ⟨l3⟩)] hp fun u4 h5 => (intV u4 .i64 fun i6 => (K (upd (upd (upd (upd (upd (upd (upd (upd (upd (upd e 14 (sI (x14))) 9 (sV (Value.pointer x9))) 3 (sV (Value.slice x3a x3n x3c))) 96 (sV (Value.pointer x9))) 97 (sV (Value.slice x3a x3n x3c))) 98 (sI (x14))) 99 (sV (ptr b1 (o2 + Int.toNat x14 * 7)))) 100 (sV (ptr b1 ((o2 + Int.toNat x14 * 7) + 1)))) 101 (sV (Value.agg ⟨l3⟩))) 102 (sI (i6))) V0 h5)))))) := by kernel_rfl
def F12_l14 (x3a : Option Addr) (x3n : Nat) (x3c : Nat) (x9 : Option Addr) (x11 : Option Addr) (x13 : Int) (K : Value → HP → Prop) (I14 : (Int) → HP → Prop) (x14 : Int) (hp : HP) : Prop :=
  (ite2 (decide ((x14 : Int) < (x3n : Nat))) ((0 ≤ (x14 : Int)) ∧ ((x14 : Int) < (x3n : Nat)) ∧ (ptrN x3a fun b_120 o_121 => (ldV (HP.cell hp b_120 ((o_121 + Int.toNat x14 * 7) + 0)) fun v_122 => (intV v_122 .u8 fun i_123 => (ite2 ((i_123 : Int) == 0) ((0 ≤ (x14 : Int)) ∧ ((x14 : Int) < (x3n : Nat)) ∧ (ptrN x3a fun b_124 o_125 => (ldL (HP.cellN hp b_124 (((o_125 + Int.toNat x14 * 7) + 1) + 0) 4) fun l_126 => ((0 ≤ (x14 : Int)) ∧ ((x14 : Int) < (x3n : Nat)) ∧ (ptrN x3a fun b_127 o_128 => (ldV (HP.cell hp b_127 (((o_128 + Int.toNat x14 * 7) + 1) + 4)) fun v_129 => (intV v_129 .i64 fun i_130 => ((0 ≤ (x14 : Int)) ∧ ((x14 : Int) < (x3n : Nat)) ∧ (ptrN x3a fun b_131 o_132 => (ldV (HP.cell hp b_131 ((o_132 + Int.toNat x14 * 7) + 6)) fun v_133 => (boolV v_133 fun q_134 => (CF Try.prog 46 [(Value.pointer x9), (Value.agg ⟨l_126⟩), (Value.int .i64 i_130), (Value.bool q_134)] hp fun u_135 h_136 => (tup2V u_135 fun u_137 u_138 => (aggV u_137 fun l_139 => (intV u_138 .i64 fun i_140 => (F12_j15 x3a x3n x3c x9 x11 x13 x14 h_136 I14 K)))))))))))))))) (ite2 ((i_123 : Int) == 2) ((0 ≤ (x14 : Int)) ∧ ((x14 : Int) < (x3n : Nat)) ∧ (ptrN x3a fun b_141 o_142 => (ldL (HP.cellN hp b_141 ((o_142 + Int.toNat x14 * 7) + 1) 5) fun l_143 => (CF Try.prog 50 [(Value.pointer x9), (Value.agg ⟨l_143⟩)] hp fun u_144 h_145 => (intV u_144 .i64 fun i_146 => (F12_j15 x3a x3n x3c x9 x11 x13 x14 h_145 I14 K)))))) (F12_j15 x3a x3n x3c x9 x11 x13 x14 hp I14 K))))))) (F12_j3 x3a x3n x3c x9 x11 x13 hp  K))
def F12_j13 (x3a : Option Addr) (x3n : Nat) (x3c : Nat) (x9 : Option Addr) (x11 : Option Addr) (x13 : Int) (x14 : Int) (hp : HP) (K : Value → HP → Prop) : Prop :=
  (LoopP (σ := Int) (fun I s hp => F12_l14 x3a x3n x3c x9 x11 x13  K I s hp) x14 hp)
theorem F12_r30 (e : Env) (hp : HP) (K : Env → PV → HP → Prop) : RW Try.prog 231 [20, 22] (opsAt Try.f12 [1, 1, 1, 1, 1, 1, 0, 0]) (List.range 1) e V0 hp K =
    (K (upd e 14 (sI (0))) V0 hp) := by kernel_rfl
def F12_j2 (x3a : Option Addr) (x3n : Nat) (x3c : Nat) (x9 : Option Addr) (x10 : Int) (x11 : Option Addr) (x12 : Int) (x53 : Bool) (hp : HP) (K : Value → HP → Prop) : Prop :=
  (ite2 x53 (ite2 ((x10 : Int) == x12) (CF Try.prog 21 [] hp fun u_16 h_17 => (boolV u_16 fun q_18 => (K (Value.bool q_18) h_17))) (K (Value.bool false) hp)) (CF Try.prog 54 [(Value.pointer x9)] hp fun u_19 h_20 => (intV u_19 .i64 fun i_21 => (F12_j13 x3a x3n x3c x9 x11 i_21 0 h_20  K))))
theorem F12_r31 (e : Env) (x10 : Int) (x12 : Int) (hp : HP) (K : Env → PV → HP → Prop) : RW Try.prog 231 [20, 22] (opsAt Try.f12 [1, 1, 1, 1, 0, 0]) (List.range 6) (upd (upd e 12 (sI (x12))) 10 (sI (x10))) V0 hp K =
    (ite2 ((x10 : Int) != 0) (K (upd (upd (upd (upd (upd (upd (upd (upd e 12 (sI (x12))) 10 (sI (x10))) 48 (sI (x10))) 49 (sB (((x10 : Int) != 0)))) 50 (sB (true))) 51 (sV undef)) 52 (sV undef)) 53 (sB (true))) V0 hp) (K (upd (upd (upd (upd (upd (upd (upd (upd e 12 (sI (x12))) 10 (sI (x10))) 48 (sI (x10))) 49 (sB (((x10 : Int) != 0)))) 50 (sB (false))) 51 (sI (x12))) 52 (sB (((x12 : Int) != 0)))) 53 (sB (((x12 : Int) != 0)))) V0 hp)) := by kernel_rfl
def F12_j1 (x0a : Option Addr) (x0n : Nat) (x0c : Nat) (x1 : Int) (x2 : Int) (x3a : Option Addr) (x3n : Nat) (x3c : Nat) (x32 : Bool) (hp : HP) (K : Value → HP → Prop) : Prop :=
  (ite2 x32 (CF Try.prog 21 [] hp fun u_1 h_2 => (boolV u_1 fun q_3 => (K (Value.bool q_3) h_2))) (CF Try.prog 44 [(Value.slice x0a x0n x0c), (Value.int .i64 x1), (Value.int .i64 x2)] hp fun u_4 h_5 => (tup2V u_4 fun u_6 u_7 => (ptrV u_6 fun p_8 => (intV u_7 .i64 fun i_9 => (CF Try.prog 44 [(Value.slice x0a x0n x0c), (Value.int .i64 x1), (Value.int .i64 x2)] h_5 fun u_10 h_11 => (tup2V u_10 fun u_12 u_13 => (ptrV u_12 fun p_14 => (intV u_13 .i64 fun i_15 => (ite2 ((i_9 : Int) != 0) (F12_j2 x3a x3n x3c p_8 i_9 p_14 i_15 true h_11  K) (F12_j2 x3a x3n x3c p_8 i_9 p_14 i_15 ((i_15 : Int) != 0) h_11  K)))))))))))
theorem F12_r32 (e : Env) (x0a : Option Addr) (x0n : Nat) (x0c : Nat) (x1 : Int) (x2 : Int) (x3a : Option Addr) (x3n : Nat) (x3c : Nat) (hp : HP) (K : Env → PV → HP → Prop) : RW Try.prog 231 [20, 22] (opsAt Try.f12 [1, 0, 0]) (List.range 9) (upd (upd (upd (upd e 3 (sV (Value.slice x3a x3n x3c))) 2 (sI (x2))) 1 (sI (x1))) 0 (sV (Value.slice x0a x0n x0c))) V0 hp K =
    (CF Try.prog 43 [(Value.int .i64 x1), (Value.int .i64 x2), (Value.slice x3a x3n x3c)] hp fun u1 h2 => (boolV u1 fun q3 => (ite2 q3 (K (upd (upd (upd (upd (upd (upd (upd (upd (upd (upd (upd (upd (upd e 3 (sV (Value.slice x3a x3n x3c))) 2 (sI (x2))) 1 (sI (x1))) 0 (sV (Value.slice x0a x0n x0c))) 24 (sI (x1))) 25 (sI (x2))) 26 (sV (Value.slice x3a x3n x3c))) 27 (sB (q3))) 28 (sB (true))) 29 (sV undef)) 30 (sV undef)) 31 (sV undef)) 32 (sB (true))) V0 h2) (K (upd (upd (upd (upd (upd (upd (upd (upd (upd (upd (upd (upd (upd e 3 (sV (Value.slice x3a x3n x3c))) 2 (sI (x2))) 1 (sI (x1))) 0 (sV (Value.slice x0a x0n x0c))) 24 (sI (x1))) 25 (sI (x2))) 26 (sV (Value.slice x3a x3n x3c))) 27 (sB (q3))) 28 (sB (false))) 29 (sV (Value.slice x0a x0n x0c))) 30 (sI ((x0n : Nat)))) 31 (sB ((decide (((x0n : Nat) : Int) > 10))))) 32 (sB ((decide (((x0n : Nat) : Int) > 10))))) V0 h2)))) := by kernel_rfl
def F12 (x0a : Option Addr) (x0n : Nat) (x0c : Nat) (x1 : Int) (x2 : Int) (x3a : Option Addr) (x3n : Nat) (x3c : Nat) (hp : HP) (K : Value → HP → Prop) : Prop :=
  (CF Try.prog 43 [(Value.int .i64 x1), (Value.int .i64 x2), (Value.slice x3a x3n x3c)] hp fun u_147 h_148 => (boolV u_147 fun q_149 => (ite2 q_149 (F12_j1 x0a x0n x0c x1 x2 x3a x3n x3c true h_148  K) (F12_j1 x0a x0n x0c x1 x2 x3a x3n x3c (decide (((x0n : Nat) : Int) > 10)) h_148  K))))
noncomputable def F12_code : Code := (.seq (.region 0 (opsAt Try.f12 [0]) false) (.seq (.seq (.region 1 (opsAt Try.f12 [1, 0, 0]) false) (.cond (.tmp 32) (.seq (.region 2 (opsAt Try.f12 [1, 0, 1, 0, 0]) false) .ret) .skip)) (.seq (.region 3 (opsAt Try.f12 [1, 1, 0]) false) (.seq (.region 4 (opsAt Try.f12 [1, 1, 1, 0]) false) (.seq (.seq (.region 5 (opsAt Try.f12 [1, 1, 1, 1, 0, 0]) false) (.cond (.tmp 53) (.seq (.region 6 (opsAt Try.f12 [1, 1, 1, 1, 0, 1, 0, 0]) false) .ret) .skip)) (.seq (.region 7 (opsAt Try.f12 [1, 1, 1, 1, 1, 0]) false) (.seq (.seq (.region 8 (opsAt Try.f12 [1, 1, 1, 1, 1, 1, 0, 0]) false) (.block 0 (.loop (.seq (.seq (.region 9 (opsAt Try.f12 [1, 1, 1, 1, 1, 1, 0, 1, 0, 0, 0, 0]) false) (.cond (.tmp 65) .skip (.exit 0))) (.seq (.block 1 (.seq (.region 11 (opsAt Try.f12 [1, 1, 1, 1, 1, 1, 0, 1, 0, 0, 1, 0, 0, 0]) false) (.block 2 (.seq (.region 12 (opsAt Try.f12 [1, 1, 1, 1, 1, 1, 0, 1, 0, 0, 1, 0, 0, 1, 0, 0]) false) (.cond (.tmp 73) (.region 13 (opsAt Try.f12 [1, 1, 1, 1, 1, 1, 0, 1, 0, 0, 1, 0, 0, 1, 0, 1, 0]) true) (.seq (.region 14 (opsAt Try.f12 [1, 1, 1, 1, 1, 1, 0, 1, 0, 0, 1, 0, 0, 1, 0, 1, 1, 0]) false) (.cond (.tmp 94) (.region 15 (opsAt Try.f12 [1, 1, 1, 1, 1, 1, 0, 1, 0, 0, 1, 0, 0, 1, 0, 1, 1, 1, 0]) false) .skip))))))) (.region 10 (opsAt Try.f12 [1, 1, 1, 1, 1, 1, 0, 1, 0, 0, 1, 1]) false)))))) (.seq (.region 16 (opsAt Try.f12 [1, 1, 1, 1, 1, 1, 1, 0]) false) (.seq (.seq (.region 17 (opsAt Try.f12 [1, 1, 1, 1, 1, 1, 1, 1, 0, 0]) false) (.block 3 (.loop (.seq (.seq (.region 18 (opsAt Try.f12 [1, 1, 1, 1, 1, 1, 1, 1, 0, 1, 0, 0, 0, 0]) false) (.cond (.tmp 109) .skip (.exit 3))) (.seq (.block 4 (.seq (.region 20 (opsAt Try.f12 [1, 1, 1, 1, 1, 1, 1, 1, 0, 1, 0, 0, 1, 0, 0, 0]) false) (.seq (.region 21 (opsAt Try.f12 [1, 1, 1, 1, 1, 1, 1, 1, 0, 1, 0, 0, 1, 0, 0, 1, 0]) false) (.cond (.tmp 161) (.seq (.region 22 (opsAt Try.f12 [1, 1, 1, 1, 1, 1, 1, 1, 0, 1, 0, 0, 1, 0, 0, 1, 1, 0, 0]) false) .ret) .skip)))) (.region 19 (opsAt Try.f12 [1, 1, 1, 1, 1, 1, 1, 1, 0, 1, 0, 0, 1, 1]) false)))))) (.seq (.seq (.region 23 (opsAt Try.f12 [1, 1, 1, 1, 1, 1, 1, 1, 1, 0, 0]) false) (.cond (.tmp 171) (.seq (.region 24 (opsAt Try.f12 [1, 1, 1, 1, 1, 1, 1, 1, 1, 0, 1, 0, 0]) false) .ret) .skip)) (.seq (.seq (.region 25 (opsAt Try.f12 [1, 1, 1, 1, 1, 1, 1, 1, 1, 1, 0, 0]) false) (.block 5 (.loop (.seq (.seq (.region 26 (opsAt Try.f12 [1, 1, 1, 1, 1, 1, 1, 1, 1, 1, 0, 1, 0, 0, 0, 0]) false) (.cond (.tmp 175) .skip (.exit 5))) (.seq (.block 6 (.seq (.region 28 (opsAt Try.f12 [1, 1, 1, 1, 1, 1, 1, 1, 1, 1, 0, 1, 0, 0, 1, 0, 0, 0]) true) (.seq (.region 29 (opsAt Try.f12 [1, 1, 1, 1, 1, 1, 1, 1, 1, 1, 0, 1, 0, 0, 1, 0, 0, 1, 0]) true) (.seq (.region 30 (opsAt Try.f12 [1, 1, 1, 1, 1, 1, 1, 1, 1, 1, 0, 1, 0, 0, 1, 0, 0, 1, 1, 0]) false) (.cond (.tmp 229) (.seq (.region 31 (opsAt Try.f12 [1, 1, 1, 1, 1, 1, 1, 1, 1, 1, 0, 1, 0, 0, 1, 0, 0, 1, 1, 1, 0, 0]) false) .ret) .skip))))) (.region 27 (opsAt Try.f12 [1, 1, 1, 1, 1, 1, 1, 1, 1, 1, 0, 1, 0, 0, 1, 1]) false)))))) (.seq (.region 32 (opsAt Try.f12 [1, 1, 1, 1, 1, 1, 1, 1, 1, 1, 1, 0]) false) .ret))))))))))))
theorem F12_body : Try.f12.body = some F12_code := by kernel_rfl
theorem F12_ok (x0a : Option Addr) (x0n : Nat) (x0c : Nat) (x1 : Int) (x2 : Int) (x3a : Option Addr) (x3n : Nat) (x3c : Nat) (hp : HP) (K : Value → HP → Prop) (h : F12 x0a x0n x0c x1 x2 x3a x3n x3c hp K) : CF Try.prog 12 [(Value.slice x0a x0n x0c), (Value.int .i64 x1), (Value.int .i64 x2), (Value.slice x3a x3n x3c)] hp K := by
 refine .inl ⟨by kernel_rfl, AC.intro (N := 231) Try.func12 F12_body rfl (Nat.le_of_ble_eq_true rfl) ?_⟩
 unfold F12 at h
 unfold F12_code
 refine AWP.seq' ?_
 refine AWP.rgn (F12_r0 (upd (upd (upd (upd E0 3 (sV (Value.slice x3a x3n x3c))) 2 (sI (x2))) 1 (sI (x1))) 0 (sV (Value.slice x0a x0n x0c)))  hp _) ?_ (Rv 0 _ (Rv 1 _ (Rv 2 _ (Rv 3 _ (Rn))))) (Sc rfl (Sc rfl (Sc rfl (Sc rfl (Sn))))) (Sn)
 refine AWP.seq' ?_
 refine AWP.seq (fun env pv hp => ∃ (x0a : Option Addr) (x0n : Nat) (x0c : Nat) (x1 : Int) (x2 : Int) (x3a : Option Addr) (x3n : Nat) (x3c : Nat) (x32 : Bool), Sub (upd (upd (upd (upd (upd E0 32 (sB (x32))) 3 (sV (Value.slice x3a x3n x3c))) 2 (sI (x2))) 1 (sI (x1))) 0 (sV (Value.slice x0a x0n x0c))) env ∧ Sub V0 pv ∧ (F12_j1 x0a x0n x0c x1 x2 x3a x3n x3c x32 hp  K)) ?_ ?_
 ·refine AWP.rgn (F12_r32 E0 x0a x0n x0c x1 x2 x3a x3n x3c hp _) ?_ (Rv 0 _ (Rv 1 _ (Rv 2 _ (Rv 3 _ (Rn))))) (Sc rfl (Sc rfl (Sc rfl (Sc rfl (Sn))))) (Sn)
  refine CF_mono h (fun u_147 h_148 h => ?_)
  refine boolV_mono h (fun q_149 h => ?_)
  refine ite2_mono h (fun h => ?_) (fun h => ?_)
  ·exact ⟨x0a, x0n, x0c, x1, x2, x3a, x3n, x3c, true, (Sc rfl (Sc rfl (Sc rfl (Sc rfl (Sc rfl (Sn)))))), (Sn), h⟩
  ·exact ⟨x0a, x0n, x0c, x1, x2, x3a, x3n, x3c, (decide (((x0n : Nat) : Int) > 10)), (Sc rfl (Sc rfl (Sc rfl (Sc rfl (Sc rfl (Sn)))))), (Sn), h⟩
 ·rintro env pv hp ⟨x0a, x0n, x0c, x1, x2, x3a, x3n, x3c, x32, he, hv, h⟩
  refine AWP.sub (env' := (upd (upd (upd (upd (upd E0 32 (sB (x32))) 3 (sV (Value.slice x3a x3n x3c))) 2 (sI (x2))) 1 (sI (x1))) 0 (sV (Value.slice x0a x0n x0c)))) (pv' := V0) ?_ (Rv 0 _ (Rv 1 _ (Rv 2 _ (Rv 3 _ (Rv 32 _ (Rn)))))) he hv (HSub.refl _)
  clear he hv
  unfold F12_j1 at h
  refine AWP.cond (t := x32) rfl (fun e => ?_) (fun e => ?_)
  ·replace h := ite2_t h e
   refine AWP.seq' ?_
   refine AWP.rgn (F12_r1 E0  hp _) ?_ (Rn) (Sn) (Sn)
   refine CF_mono h (fun u_1 h_2 h => ?_)
   refine boolV_mono h (fun q_3 h => ?_)
   refine AWP.ret ?_
   exact h
  ·replace h := ite2_f h e
   refine AWP.skip ?_
   refine AWP.seq' ?_
   refine AWP.rgn (F12_r2 (upd E0 3 (sV (Value.slice x3a x3n x3c))) x0a x0n x0c x1 x2 hp _) ?_ (Rv 0 _ (Rv 1 _ (Rv 2 _ (Rv 3 _ (Rn))))) (Sc rfl (Sc rfl (Sc rfl (Sc rfl (Sn))))) (Sn)
   refine CF_mono h (fun u_4 h_5 h => ?_)
   refine tup2V_mono h (fun u_6 u_7 h => ?_)
   refine ptrV_mono h (fun p_8 h => ?_)
   refine intV_mono h (fun i_9 h => ?_)
   refine AWP.seq' ?_
   refine AWP.rgn (F12_r3 (upd (upd (upd E0 10 (sI (i_9))) 9 (sV (Value.pointer p_8))) 3 (sV (Value.slice x3a x3n x3c))) x0a x0n x0c x1 x2 h_5 _) ?_ (Rv 0 _ (Rv 1 _ (Rv 2 _ (Rv 3 _ (Rv 9 _ (Rv 10 _ (Rn))))))) (Sc rfl (Sc rfl (Sc rfl (Sc rfl (Sc rfl (Sc rfl (Sn))))))) (Sn)
   refine CF_mono h (fun u_10 h_11 h => ?_)
   refine tup2V_mono h (fun u_12 u_13 h => ?_)
   refine ptrV_mono h (fun p_14 h => ?_)
   refine intV_mono h (fun i_15 h => ?_)
   refine AWP.seq' ?_
   refine AWP.seq (fun env pv hp => ∃ (x3a : Option Addr) (x3n : Nat) (x3c : Nat) (x9 : Option Addr) (x10 : Int) (x11 : Option Addr) (x12 : Int) (x53 : Bool), Sub (upd (upd (upd (upd (upd (upd E0 53 (sB (x53))) 12 (sI (x12))) 11 (sV (Value.pointer x11))) 10 (sI (x10))) 9 (sV (Value.pointer x9))) 3 (sV (Value.slice x3a x3n x3c))) env ∧ Sub V0 pv ∧ (F12_j2 x3a x3n x3c x9 x10 x11 x12 x53 hp  K)) ?_ ?_
   ·refine AWP.rgn (F12_r31 (upd (upd (upd E0 11 (sV (Value.pointer p_14))) 9 (sV (Value.pointer p_8))) 3 (sV (Value.slice x3a x3n x3c))) i_9 i_15 h_11 _) ?_ (Rv 10 _ (Rv 12 _ (Rv 3 _ (Rv 9 _ (Rv 11 _ (Rn)))))) (Sc rfl (Sc rfl (Sc rfl (Sc rfl (Sc rfl (Sn)))))) (Sn)
    refine ite2_mono h (fun h => ?_) (fun h => ?_)
    ·exact ⟨x3a, x3n, x3c, p_8, i_9, p_14, i_15, true, (Sc rfl (Sc rfl (Sc rfl (Sc rfl (Sc rfl (Sc rfl (Sn))))))), (Sn), h⟩
    ·exact ⟨x3a, x3n, x3c, p_8, i_9, p_14, i_15, ((i_15 : Int) != 0), (Sc rfl (Sc rfl (Sc rfl (Sc rfl (Sc rfl (Sc rfl (Sn))))))), (Sn), h⟩
   ·rintro env pv hp ⟨x3a, x3n, x3c, x9, x10, x11, x12, x53, he, hv, h⟩
    refine AWP.sub (env' := (upd (upd (upd (upd (upd (upd E0 53 (sB (x53))) 12 (sI (x12))) 11 (sV (Value.pointer x11))) 10 (sI (x10))) 9 (sV (Value.pointer x9))) 3 (sV (Value.slice x3a x3n x3c)))) (pv' := V0) ?_ (Rv 3 _ (Rv 9 _ (Rv 10 _ (Rv 11 _ (Rv 12 _ (Rv 53 _ (Rn))))))) he hv (HSub.refl _)
    clear he hv
    unfold F12_j2 at h
    refine AWP.cond (t := x53) rfl (fun e => ?_) (fun e => ?_)
    ·replace h := ite2_t h e
     refine AWP.seq' ?_
     refine AWP.rgn (F12_r4 E0 x10 x12 hp _) ?_ (Rv 10 _ (Rv 12 _ (Rn))) (Sc rfl (Sc rfl (Sn))) (Sn)
     refine ite2_mono h (fun h => ?_) (fun h => ?_)
     ·refine CF_mono h (fun u_16 h_17 h => ?_)
      refine boolV_mono h (fun q_18 h => ?_)
      refine AWP.ret ?_
      exact h
     ·refine AWP.ret ?_
      exact h
    ·replace h := ite2_f h e
     refine AWP.skip ?_
     refine AWP.seq' ?_
     refine AWP.rgn (F12_r5 (upd (upd E0 11 (sV (Value.pointer x11))) 3 (sV (Value.slice x3a x3n x3c))) x9 hp _) ?_ (Rv 9 _ (Rv 3 _ (Rv 11 _ (Rn)))) (Sc rfl (Sc rfl (Sc rfl (Sn)))) (Sn)
     refine CF_mono h (fun u_19 h_20 h => ?_)
     refine intV_mono h (fun i_21 h => ?_)
     refine AWP.seq (fun env pv hp => ∃ (x3a : Option Addr) (x3n : Nat) (x3c : Nat) (x9 : Option Addr) (x11 : Option Addr) (x13 : Int), Sub (upd (upd (upd (upd E0 13 (sI (x13))) 11 (sV (Value.pointer x11))) 9 (sV (Value.pointer x9))) 3 (sV (Value.slice x3a x3n x3c))) env ∧ Sub V0 pv ∧ (F12_j3 x3a x3n x3c x9 x11 x13 hp  K)) ?_ ?_
     ·refine AWP.seq (fun env pv hp => ∃ (x3a : Option Addr) (x3n : Nat) (x3c : Nat) (x9 : Option Addr) (x11 : Option Addr) (x13 : Int) (x14 : Int), Sub (upd (upd (upd (upd (upd E0 14 (sI (x14))) 13 (sI (x13))) 11 (sV (Value.pointer x11))) 9 (sV (Value.pointer x9))) 3 (sV (Value.slice x3a x3n x3c))) env ∧ Sub V0 pv ∧ (F12_j13 x3a x3n x3c x9 x11 x13 x14 hp  K)) ?_ ?_
      ·refine AWP.rgn (F12_r30 (upd (upd (upd (upd E0 13 (sI (i_21))) 11 (sV (Value.pointer x11))) 9 (sV (Value.pointer x9))) 3 (sV (Value.slice x3a x3n x3c)))  h_20 _) ?_ (Rv 3 _ (Rv 9 _ (Rv 11 _ (Rv 13 _ (Rn))))) (Sc rfl (Sc rfl (Sc rfl (Sc rfl (Sn))))) (Sn)
       exact ⟨x3a, x3n, x3c, x9, x11, i_21, 0, (Sc rfl (Sc rfl (Sc rfl (Sc rfl (Sc rfl (Sn)))))), (Sn), h⟩
      ·rintro env pv hp ⟨x3a, x3n, x3c, x9, x11, x13, x14, he, hv, h⟩
       refine AWP.sub (env' := (upd (upd (upd (upd (upd E0 14 (sI (x14))) 13 (sI (x13))) 11 (sV (Value.pointer x11))) 9 (sV (Value.pointer x9))) 3 (sV (Value.slice x3a x3n x3c)))) (pv' := V0) ?_ (Rv 3 _ (Rv 9 _ (Rv 11 _ (Rv 13 _ (Rv 14 _ (Rn)))))) he hv (HSub.refl _)
       clear he hv
       unfold F12_j13 at h
       refine AWP.block ?_
       refine AWP.loop (σ := Int) (fun I s hp => F12_l14 x3a x3n x3c x9 x11 x13  K I s hp) (fun s => (upd (upd (upd (upd (upd E0 14 (sI (s))) 13 (sI (x13))) 11 (sV (Value.pointer x11))) 9 (sV (Value.pointer x9))) 3 (sV (Value.slice x3a x3n x3c)))) (fun s => V0) x14 h (fun s => (Rv 3 _ (Rv 9 _ (Rv 11 _ (Rv 13 _ (Rv 14 _ (Rn))))))) (Sc rfl (Sc rfl (Sc rfl (Sc rfl (Sc rfl (Sn)))))) (Sn) ?_
       intro I14 s hp h
       obtain ⟨x14, hs⟩ : ∃ x, x = s := ⟨s, rfl⟩
       subst hs
       replace h : F12_l14 x3a x3n x3c x9 x11 x13  K I14 x14 hp := h
       unfold F12_l14 at h
       refine AWP.seq' ?_
       refine AWP.seq' ?_
       refine AWP.rgn (F12_r23 (upd (upd (upd E0 13 (sI (x13))) 11 (sV (Value.pointer x11))) 9 (sV (Value.pointer x9))) x3a x3n x3c x14 hp _) ?_ (Rv 3 _ (Rv 14 _ (Rv 9 _ (Rv 11 _ (Rv 13 _ (Rn)))))) (Sc rfl (Sc rfl (Sc rfl (Sc rfl (Sc rfl (Sn)))))) (Sn)
       refine AWP.cond (t := (decide ((x14 : Int) < (x3n : Nat)))) rfl (fun e => ?_) (fun e => ?_)
       ·replace h := ite2_t h e
        refine AWP.skip ?_
        refine AWP.seq (fun env pv hp => ∃ (x14 : Int), Sub (upd (upd (upd (upd (upd E0 14 (sI (x14))) 13 (sI (x13))) 11 (sV (Value.pointer x11))) 9 (sV (Value.pointer x9))) 3 (sV (Value.slice x3a x3n x3c))) env ∧ Sub V0 pv ∧ (F12_j15 x3a x3n x3c x9 x11 x13 x14 hp I14 K)) ?_ ?_
        ·refine AWP.block ?_
         refine AWP.seq' ?_
         refine AWP.rgn (F12_r25 (upd (upd (upd E0 13 (sI (x13))) 11 (sV (Value.pointer x11))) 9 (sV (Value.pointer x9))) x3a x3n x3c x14 hp _) ?_ (Rv 3 _ (Rv 14 _ (Rv 9 _ (Rv 11 _ (Rv 13 _ (Rn)))))) (Sc rfl (Sc rfl (Sc rfl (Sc rfl (Sc rfl (Sn)))))) (Sn)
         refine ⟨h.1, h.2.1, ?_⟩
         replace h := h.2.2
         refine ptrN_mono h (fun b_120 o_121 h => ?_)
         refine ldV_mono h (fun v_122 h => ?_)
         refine intV_mono h (fun i_123 h => ?_)
         refine AWP.block ?_
         refine AWP.seq' ?_
         refine AWP.rgn (F12_r26 (upd (upd (upd (upd (upd E0 14 (sI (x14))) 13 (sI (x13))) 11 (sV (Value.pointer x11))) 9 (sV (Value.pointer x9))) 3 (sV (Value.slice x3a x3n x3c))) i_123 hp _) ?_ (Rv 72 _ (Rv 3 _ (Rv 9 _ (Rv 11 _ (Rv 13 _ (Rv 14 _ (Rn))))))) (Sc rfl (Sc rfl (Sc rfl (Sc rfl (Sc rfl (Sc rfl (Sn))))))) (Sn)
         refine AWP.cond (t := ((i_123 : Int) == 0)) rfl (fun e => ?_) (fun e => ?_)
         ·replace h := ite2_t h e
          refine AWP.rgnD (by kernel_rfl) (by kernel_rfl) (F12_r27 (upd (upd E0 13 (sI (x13))) 11 (sV (Value.pointer x11))) x3a x3n x3c x9 x14 hp _) ?_ (Rv 3 _ (Rv 9 _ (Rv 14 _ (Rv 11 _ (Rv 13 _ (Rn)))))) (Sc rfl (Sc rfl (Sc rfl (Sc rfl (Sc rfl (Sn)))))) (Sn)
          refine ⟨h.1, h.2.1, ?_⟩
          replace h := h.2.2
          refine ptrN_mono h (fun b_124 o_125 h => ?_)
          refine ldL_mono h (fun l_126 h => ?_)
          refine ⟨h.1, h.2.1, ?_⟩
          replace h := h.2.2
          refine ptrN_mono h (fun b_127 o_128 h => ?_)
          refine ldV_mono h (fun v_129 h => ?_)
          refine intV_mono h (fun i_130 h => ?_)
          refine ⟨h.1, h.2.1, ?_⟩
          replace h := h.2.2
          refine ptrN_mono h (fun b_131 o_132 h => ?_)
          refine ldV_mono h (fun v_133 h => ?_)
          refine boolV_mono h (fun q_134 h => ?_)
          refine CF_mono h (fun u_135 h_136 h => ?_)
          refine tup2V_mono h (fun u_137 u_138 h => ?_)
          refine aggV_mono h (fun l_139 h => ?_)
          refine intV_mono h (fun i_140 h => ?_)
          exact ⟨x14, (Sc rfl (Sc rfl (Sc rfl (Sc rfl (Sc rfl (Sn)))))), (Sn), h⟩
         ·replace h := ite2_f h e
          refine AWP.seq' ?_
          refine AWP.rgn (F12_r28 (upd (upd (upd (upd (upd E0 14 (sI (x14))) 13 (sI (x13))) 11 (sV (Value.pointer x11))) 9 (sV (Value.pointer x9))) 3 (sV (Value.slice x3a x3n x3c))) i_123 hp _) ?_ (Rv 72 _ (Rv 3 _ (Rv 9 _ (Rv 11 _ (Rv 13 _ (Rv 14 _ (Rn))))))) (Sc rfl (Sc rfl (Sc rfl (Sc rfl (Sc rfl (Sc rfl (Sn))))))) (Sn)
          refine AWP.cond (t := ((i_123 : Int) == 2)) rfl (fun e => ?_) (fun e => ?_)
          ·replace h := ite2_t h e
           refine AWP.rgn (F12_r29 (upd (upd E0 13 (sI (x13))) 11 (sV (Value.pointer x11))) x3a x3n x3c x9 x14 hp _) ?_ (Rv 3 _ (Rv 9 _ (Rv 14 _ (Rv 11 _ (Rv 13 _ (Rn)))))) (Sc rfl (Sc rfl (Sc rfl (Sc rfl (Sc rfl (Sn)))))) (Sn)
           refine ⟨h.1, h.2.1, ?_⟩
           replace h := h.2.2
           refine ptrN_mono h (fun b_141 o_142 h => ?_)
           refine ldL_mono h (fun l_143 h => ?_)
           refine CF_mono h (fun u_144 h_145 h => ?_)
           refine intV_mono h (fun i_146 h => ?_)
           exact ⟨x14, (Sc rfl (Sc rfl (Sc rfl (Sc rfl (Sc rfl (Sn)))))), (Sn), h⟩
          ·replace h := ite2_f h e
           refine AWP.skip ?_
           exact ⟨x14, (Sc rfl (Sc rfl (Sc rfl (Sc rfl (Sc rfl (Sn)))))), (Sn), h⟩
        ·rintro env pv hp ⟨x14, he, hv, h⟩
         refine AWP.sub (env' := (upd (upd (upd (upd (upd E0 14 (sI (x14))) 13 (sI (x13))) 11 (sV (Value.pointer x11))) 9 (sV (Value.pointer x9))) 3 (sV (Value.slice x3a x3n x3c)))) (pv' := V0) ?_ (Rv 3 _ (Rv 9 _ (Rv 11 _ (Rv 13 _ (Rv 14 _ (Rn)))))) he hv (HSub.refl _)
         clear he hv
         unfold F12_j15 at h
         refine AWP.rgn (F12_r24 (upd (upd (upd (upd E0 13 (sI (x13))) 11 (sV (Value.pointer x11))) 9 (sV (Value.pointer x9))) 3 (sV (Value.slice x3a x3n x3c))) x14 hp _) ?_ (Rv 14 _ (Rv 3 _ (Rv 9 _ (Rv 11 _ (Rv 13 _ (Rn)))))) (Sc rfl (Sc rfl (Sc rfl (Sc rfl (Sc rfl (Sn)))))) (Sn)
         exact ⟨(IntKind.wrap .i64 (x14 + 1)), (Sc rfl (Sc rfl (Sc rfl (Sc rfl (Sc rfl (Sn)))))), (Sn), h⟩
       ·replace h := ite2_f h e
        refine AWP.exit ?_
        exact ⟨x3a, x3n, x3c, x9, x11, x13, (Sc rfl (Sc rfl (Sc rfl (Sc rfl (Sn))))), (Sn), h⟩
     ·rintro env pv hp ⟨x3a, x3n, x3c, x9, x11, x13, he, hv, h⟩
      refine AWP.sub (env' := (upd (upd (upd (upd E0 13 (sI (x13))) 11 (sV (Value.pointer x11))) 9 (sV (Value.pointer x9))) 3 (sV (Value.slice x3a x3n x3c)))) (pv' := V0) ?_ (Rv 3 _ (Rv 9 _ (Rv 11 _ (Rv 13 _ (Rn))))) he hv (HSub.refl _)
      clear he hv
      unfold F12_j3 at h
      refine AWP.seq' ?_
      refine AWP.rgn (F12_r6 (upd (upd (upd E0 13 (sI (x13))) 11 (sV (Value.pointer x11))) 3 (sV (Value.slice x3a x3n x3c))) x9 hp _) ?_ (Rv 9 _ (Rv 3 _ (Rv 11 _ (Rv 13 _ (Rn))))) (Sc rfl (Sc rfl (Sc rfl (Sc rfl (Sn))))) (Sn)
      refine CF_mono h (fun u_22 h_23 h => ?_)
      refine slcV_mono h (fun a_24 n_25 c_26 h => ?_)
      refine AWP.seq (fun env pv hp => ∃ (x3a : Option Addr) (x3n : Nat) (x3c : Nat) (x9 : Option Addr) (x11 : Option Addr) (x13 : Int), Sub (upd (upd (upd (upd E0 13 (sI (x13))) 11 (sV (Value.pointer x11))) 9 (sV (Value.pointer x9))) 3 (sV (Value.slice x3a x3n x3c))) env ∧ Sub V0 pv ∧ (F12_j4 x3a x3n x3c x9 x11 x13 hp  K)) ?_ ?_
      ·refine AWP.seq (fun env pv hp => ∃ (x3a : Option Addr) (x3n : Nat) (x3c : Nat) (x9 : Option Addr) (x11 : Option Addr) (x13 : Int) (x15a : Option Addr) (x15n : Nat) (x15c : Nat) (x16 : Int), Sub (upd (upd (upd (upd (upd (upd E0 16 (sI (x16))) 15 (sV (Value.slice x15a x15n x15c))) 13 (sI (x13))) 11 (sV (Value.pointer x11))) 9 (sV (Value.pointer x9))) 3 (sV (Value.slice x3a x3n x3c))) env ∧ Sub V0 pv ∧ (F12_j10 x3a x3n x3c x9 x11 x13 x15a x15n x15c x16 hp  K)) ?_ ?_
       ·refine AWP.rgn (F12_r22 (upd (upd (upd (upd E0 13 (sI (x13))) 11 (sV (Value.pointer x11))) 9 (sV (Value.pointer x9))) 3 (sV (Value.slice x3a x3n x3c))) a_24 n_25 c_26 h_23 _) ?_ (Rv 15 _ (Rv 3 _ (Rv 9 _ (Rv 11 _ (Rv 13 _ (Rn)))))) (Sc rfl (Sc rfl (Sc rfl (Sc rfl (Sc rfl (Sn)))))) (Sn)
        exact ⟨x3a, x3n, x3c, x9, x11, x13, a_24, n_25, c_26, (IntKind.wrap .i64 ((n_25 : Nat) - 1)), (Sc rfl (Sc rfl (Sc rfl (Sc rfl (Sc rfl (Sc rfl (Sn))))))), (Sn), h⟩
       ·rintro env pv hp ⟨x3a, x3n, x3c, x9, x11, x13, x15a, x15n, x15c, x16, he, hv, h⟩
        refine AWP.sub (env' := (upd (upd (upd (upd (upd (upd E0 16 (sI (x16))) 15 (sV (Value.slice x15a x15n x15c))) 13 (sI (x13))) 11 (sV (Value.pointer x11))) 9 (sV (Value.pointer x9))) 3 (sV (Value.slice x3a x3n x3c)))) (pv' := V0) ?_ (Rv 3 _ (Rv 9 _ (Rv 11 _ (Rv 13 _ (Rv 15 _ (Rv 16 _ (Rn))))))) he hv (HSub.refl _)
        clear he hv
        unfold F12_j10 at h
        refine AWP.block ?_
        refine AWP.loop (σ := Int) (fun I s hp => F12_l11 x3a x3n x3c x9 x11 x13 x15a x15n x15c  K I s hp) (fun s => (upd (upd (upd (upd (upd (upd E0 16 (sI (s))) 15 (sV (Value.slice x15a x15n x15c))) 13 (sI (x13))) 11 (sV (Value.pointer x11))) 9 (sV (Value.pointer x9))) 3 (sV (Value.slice x3a x3n x3c)))) (fun s => V0) x16 h (fun s => (Rv 3 _ (Rv 9 _ (Rv 11 _ (Rv 13 _ (Rv 15 _ (Rv 16 _ (Rn)))))))) (Sc rfl (Sc rfl (Sc rfl (Sc rfl (Sc rfl (Sc rfl (Sn))))))) (Sn) ?_
        intro I11 s hp h
        obtain ⟨x16, hs⟩ : ∃ x, x = s := ⟨s, rfl⟩
        subst hs
        replace h : F12_l11 x3a x3n x3c x9 x11 x13 x15a x15n x15c  K I11 x16 hp := h
        unfold F12_l11 at h
        refine AWP.seq' ?_
        refine AWP.seq' ?_
        refine AWP.rgn (F12_r17 (upd (upd (upd (upd (upd E0 15 (sV (Value.slice x15a x15n x15c))) 13 (sI (x13))) 11 (sV (Value.pointer x11))) 9 (sV (Value.pointer x9))) 3 (sV (Value.slice x3a x3n x3c))) x16 hp _) ?_ (Rv 16 _ (Rv 3 _ (Rv 9 _ (Rv 11 _ (Rv 13 _ (Rv 15 _ (Rn))))))) (Sc rfl (Sc rfl (Sc rfl (Sc rfl (Sc rfl (Sc rfl (Sn))))))) (Sn)
        refine AWP.cond (t := (decide ((x16 : Int) ≥ 0))) rfl (fun e => ?_) (fun e => ?_)
        ·replace h := ite2_t h e
         refine AWP.skip ?_
         refine AWP.seq' ?_
         refine AWP.block ?_
         refine AWP.seq' ?_
         refine AWP.rgn (F12_r18 (upd (upd (upd E0 13 (sI (x13))) 11 (sV (Value.pointer x11))) 3 (sV (Value.slice x3a x3n x3c))) x9 x15a x15n x15c x16 hp _) ?_ (Rv 9 _ (Rv 15 _ (Rv 16 _ (Rv 3 _ (Rv 11 _ (Rv 13 _ (Rn))))))) (Sc rfl (Sc rfl (Sc rfl (Sc rfl (Sc rfl (Sc rfl (Sn))))))) (Sn)
         refine ⟨h.1, h.2.1, ?_⟩
         replace h := h.2.2
         refine ptrN_mono h (fun b_75 o_76 h => ?_)
         refine ldL_mono h (fun l_77 h => ?_)
         refine CF_mono h (fun u_78 h_79 h => ?_)
         refine tup2V_mono h (fun u_80 u_81 h => ?_)
         refine boolV_mono h (fun q_82 h => ?_)
         refine boolV_mono h (fun q_83 h => ?_)
         refine AWP.seq (fun env pv hp => ∃ (x16 : Int) (x161 : Bool), Sub (upd (upd (upd (upd (upd (upd (upd E0 161 (sB (x161))) 16 (sI (x16))) 15 (sV (Value.slice x15a x15n x15c))) 13 (sI (x13))) 11 (sV (Value.pointer x11))) 9 (sV (Value.pointer x9))) 3 (sV (Value.slice x3a x3n x3c))) env ∧ Sub V0 pv ∧ (F12_j12 x3a x3n x3c x9 x11 x13 x15a x15n x15c x16 x161 hp I11 K)) ?_ ?_
         ·refine AWP.rgn (F12_r21 (upd (upd (upd E0 13 (sI (x13))) 11 (sV (Value.pointer x11))) 3 (sV (Value.slice x3a x3n x3c))) x9 x15a x15n x15c x16 q_83 h_79 _) ?_ (Rv 9 _ (Rv 15 _ (Rv 16 _ (Rv 18 _ (Rv 3 _ (Rv 11 _ (Rv 13 _ (Rn)))))))) (Sc rfl (Sc rfl (Sc rfl (Sc rfl (Sc rfl (Sc rfl (Sc rfl (Sn)))))))) (Sn)
          refine ite2_mono h (fun h => ?_) (fun h => ?_)
          ·refine ⟨h.1, h.2.1, ?_⟩
           replace h := h.2.2
           refine ptrN_mono h (fun b_84 o_85 h => ?_)
           refine ldL_mono h (fun l_86 h => ?_)
           refine CF_mono h (fun u_87 h_88 h => ?_)
           refine intV_mono h (fun i_89 h => ?_)
           refine ite2_mono h (fun h => ?_) (fun h => ?_)
           ·exact ⟨x16, true, (Sc rfl (Sc rfl (Sc rfl (Sc rfl (Sc rfl (Sc rfl (Sc rfl (Sn)))))))), (Sn), h⟩
           ·refine ⟨h.1, h.2.1, ?_⟩
            replace h := h.2.2
            refine ptrN_mono h (fun b_90 o_91 h => ?_)
            refine ldL_mono h (fun l_92 h => ?_)
            refine CF_mono h (fun u_93 h_94 h => ?_)
            refine intV_mono h (fun i_95 h => ?_)
            refine ite2_mono h (fun h => ?_) (fun h => ?_)
            ·exact ⟨x16, true, (Sc rfl (Sc rfl (Sc rfl (Sc rfl (Sc rfl (Sc rfl (Sc rfl (Sn)))))))), (Sn), h⟩
            ·refine ite2_mono h (fun h => ?_) (fun h => ?_)
             ·refine ⟨h.1, h.2.1, ?_⟩
              replace h := h.2.2
              refine ptrN_mono h (fun b_96 o_97 h => ?_)
              refine ldL_mono h (fun l_98 h => ?_)
              refine CF_mono h (fun u_99 h_100 h => ?_)
              refine intV_mono h (fun i_101 h => ?_)
              refine ite2_mono h (fun h => ?_) (fun h => ?_)
              ·exact ⟨x16, true, (Sc rfl (Sc rfl (Sc rfl (Sc rfl (Sc rfl (Sc rfl (Sc rfl (Sn)))))))), (Sn), h⟩
              ·refine ⟨h.1, h.2.1, ?_⟩
               replace h := h.2.2
               refine ptrN_mono h (fun b_102 o_103 h => ?_)
               refine ldL_mono h (fun l_104 h => ?_)
               refine CF_mono h (fun u_105 h_106 h => ?_)
               refine intV_mono h (fun i_107 h => ?_)
               exact ⟨x16, ((i_107 : Int) != 0), (Sc rfl (Sc rfl (Sc rfl (Sc rfl (Sc rfl (Sc rfl (Sc rfl (Sn)))))))), (Sn), h⟩
             ·exact ⟨x16, false, (Sc rfl (Sc rfl (Sc rfl (Sc rfl (Sc rfl (Sc rfl (Sc rfl (Sn)))))))), (Sn), h⟩
          ·refine ite2_mono h (fun h => ?_) (fun h => ?_)
           ·refine ⟨h.1, h.2.1, ?_⟩
            replace h := h.2.2
            refine ptrN_mono h (fun b_108 o_109 h => ?_)
            refine ldL_mono h (fun l_110 h => ?_)
            refine CF_mono h (fun u_111 h_112 h => ?_)
            refine intV_mono h (fun i_113 h => ?_)
            refine ite2_mono h (fun h => ?_) (fun h => ?_)
            ·exact ⟨x16, true, (Sc rfl (Sc rfl (Sc rfl (Sc rfl (Sc rfl (Sc rfl (Sc rfl (Sn)))))))), (Sn), h⟩
            ·refine ⟨h.1, h.2.1, ?_⟩
             replace h := h.2.2
             refine ptrN_mono h (fun b_114 o_115 h => ?_)
             refine ldL_mono h (fun l_116 h => ?_)
             refine CF_mono h (fun u_117 h_118 h => ?_)
             refine intV_mono h (fun i_119 h => ?_)
             exact ⟨x16, ((i_119 : Int) != 0), (Sc rfl (Sc rfl (Sc rfl (Sc rfl (Sc rfl (Sc rfl (Sc rfl (Sn)))))))), (Sn), h⟩
           ·exact ⟨x16, false, (Sc rfl (Sc rfl (Sc rfl (Sc rfl (Sc rfl (Sc rfl (Sc rfl (Sn)))))))), (Sn), h⟩
         ·rintro env pv hp ⟨x16, x161, he, hv, h⟩
          refine AWP.sub (env' := (upd (upd (upd (upd (upd (upd (upd E0 161 (sB (x161))) 16 (sI (x16))) 15 (sV (Value.slice x15a x15n x15c))) 13 (sI (x13))) 11 (sV (Value.pointer x11))) 9 (sV (Value.pointer x9))) 3 (sV (Value.slice x3a x3n x3c)))) (pv' := V0) ?_ (Rv 3 _ (Rv 9 _ (Rv 11 _ (Rv 13 _ (Rv 15 _ (Rv 16 _ (Rv 161 _ (Rn)))))))) he hv (HSub.refl _)
          clear he hv
          unfold F12_j12 at h
          refine AWP.cond (t := x161) rfl (fun e => ?_) (fun e => ?_)
          ·replace h := ite2_t h e
           refine AWP.seq' ?_
           refine AWP.rgn (F12_r19 E0  hp _) ?_ (Rn) (Sn) (Sn)
           refine AWP.ret ?_
           exact h
          ·replace h := ite2_f h e
           refine AWP.skip ?_
           refine AWP.rgn (F12_r20 (upd (upd (upd (upd (upd E0 15 (sV (Value.slice x15a x15n x15c))) 13 (sI (x13))) 11 (sV (Value.pointer x11))) 9 (sV (Value.pointer x9))) 3 (sV (Value.slice x3a x3n x3c))) x16 hp _) ?_ (Rv 16 _ (Rv 3 _ (Rv 9 _ (Rv 11 _ (Rv 13 _ (Rv 15 _ (Rn))))))) (Sc rfl (Sc rfl (Sc rfl (Sc rfl (Sc rfl (Sc rfl (Sn))))))) (Sn)
           exact ⟨(IntKind.wrap .i64 (x16 - 1)), (Sc rfl (Sc rfl (Sc rfl (Sc rfl (Sc rfl (Sc rfl (Sn))))))), (Sn), h⟩
        ·replace h := ite2_f h e
         refine AWP.exit ?_
         exact ⟨x3a, x3n, x3c, x9, x11, x13, (Sc rfl (Sc rfl (Sc rfl (Sc rfl (Sn))))), (Sn), h⟩
      ·rintro env pv hp ⟨x3a, x3n, x3c, x9, x11, x13, he, hv, h⟩
       refine AWP.sub (env' := (upd (upd (upd (upd E0 13 (sI (x13))) 11 (sV (Value.pointer x11))) 9 (sV (Value.pointer x9))) 3 (sV (Value.slice x3a x3n x3c)))) (pv' := V0) ?_ (Rv 3 _ (Rv 9 _ (Rv 11 _ (Rv 13 _ (Rn))))) he hv (HSub.refl _)
       clear he hv
       unfold F12_j4 at h
       refine AWP.seq' ?_
       refine AWP.seq (fun env pv hp => ∃ (x3a : Option Addr) (x3n : Nat) (x3c : Nat) (x9 : Option Addr) (x11 : Option Addr) (x171 : Bool), Sub (upd (upd (upd (upd E0 171 (sB (x171))) 11 (sV (Value.pointer x11))) 9 (sV (Value.pointer x9))) 3 (sV (Value.slice x3a x3n x3c))) env ∧ Sub V0 pv ∧ (F12_j5 x3a x3n x3c x9 x11 x171 hp  K)) ?_ ?_
       ·refine AWP.rgn (F12_r16 (upd (upd E0 11 (sV (Value.pointer x11))) 3 (sV (Value.slice x3a x3n x3c))) x9 x13 hp _) ?_ (Rv 9 _ (Rv 13 _ (Rv 3 _ (Rv 11 _ (Rn))))) (Sc rfl (Sc rfl (Sc rfl (Sc rfl (Sn))))) (Sn)
        refine CF_mono h (fun u_67 h_68 h => ?_)
        refine slcV_mono h (fun a_69 n_70 c_71 h => ?_)
        refine ite2_mono h (fun h => ?_) (fun h => ?_)
        ·exact ⟨x3a, x3n, x3c, x9, x11, true, (Sc rfl (Sc rfl (Sc rfl (Sc rfl (Sn))))), (Sn), h⟩
        ·refine CF_mono h (fun u_72 h_73 h => ?_)
         refine intV_mono h (fun i_74 h => ?_)
         exact ⟨x3a, x3n, x3c, x9, x11, ((i_74 : Int) != x13), (Sc rfl (Sc rfl (Sc rfl (Sc rfl (Sn))))), (Sn), h⟩
       ·rintro env pv hp ⟨x3a, x3n, x3c, x9, x11, x171, he, hv, h⟩
        refine AWP.sub (env' := (upd (upd (upd (upd E0 171 (sB (x171))) 11 (sV (Value.pointer x11))) 9 (sV (Value.pointer x9))) 3 (sV (Value.slice x3a x3n x3c)))) (pv' := V0) ?_ (Rv 3 _ (Rv 9 _ (Rv 11 _ (Rv 171 _ (Rn))))) he hv (HSub.refl _)
        clear he hv
        unfold F12_j5 at h
        refine AWP.cond (t := x171) rfl (fun e => ?_) (fun e => ?_)
        ·replace h := ite2_t h e
         refine AWP.seq' ?_
         refine AWP.rgn (F12_r7 E0  hp _) ?_ (Rn) (Sn) (Sn)
         refine AWP.ret ?_
         exact h
        ·replace h := ite2_f h e
         refine AWP.skip ?_
         refine AWP.seq (fun env pv hp => Sub E0 env ∧ Sub V0 pv ∧ (F12_j6  hp  K)) ?_ ?_
         ·refine AWP.seq (fun env pv hp => ∃ (x3a : Option Addr) (x3n : Nat) (x3c : Nat) (x9 : Option Addr) (x11 : Option Addr) (x19 : Int), Sub (upd (upd (upd (upd E0 19 (sI (x19))) 11 (sV (Value.pointer x11))) 9 (sV (Value.pointer x9))) 3 (sV (Value.slice x3a x3n x3c))) env ∧ Sub V0 pv ∧ (F12_j7 x3a x3n x3c x9 x11 x19 hp  K)) ?_ ?_
          ·refine AWP.rgn (F12_r15 (upd (upd (upd E0 11 (sV (Value.pointer x11))) 9 (sV (Value.pointer x9))) 3 (sV (Value.slice x3a x3n x3c)))  hp _) ?_ (Rv 3 _ (Rv 9 _ (Rv 11 _ (Rn)))) (Sc rfl (Sc rfl (Sc rfl (Sn)))) (Sn)
           exact ⟨x3a, x3n, x3c, x9, x11, 0, (Sc rfl (Sc rfl (Sc rfl (Sc rfl (Sn))))), (Sn), h⟩
          ·rintro env pv hp ⟨x3a, x3n, x3c, x9, x11, x19, he, hv, h⟩
           refine AWP.sub (env' := (upd (upd (upd (upd E0 19 (sI (x19))) 11 (sV (Value.pointer x11))) 9 (sV (Value.pointer x9))) 3 (sV (Value.slice x3a x3n x3c)))) (pv' := V0) ?_ (Rv 3 _ (Rv 9 _ (Rv 11 _ (Rv 19 _ (Rn))))) he hv (HSub.refl _)
           clear he hv
           unfold F12_j7 at h
           refine AWP.block ?_
           refine AWP.loop (σ := Int) (fun I s hp => F12_l8 x3a x3n x3c x9 x11  K I s hp) (fun s => (upd (upd (upd (upd E0 19 (sI (s))) 11 (sV (Value.pointer x11))) 9 (sV (Value.pointer x9))) 3 (sV (Value.slice x3a x3n x3c)))) (fun s => V0) x19 h (fun s => (Rv 3 _ (Rv 9 _ (Rv 11 _ (Rv 19 _ (Rn)))))) (Sc rfl (Sc rfl (Sc rfl (Sc rfl (Sn))))) (Sn) ?_
           intro I8 s hp h
           obtain ⟨x19, hs⟩ : ∃ x, x = s := ⟨s, rfl⟩
           subst hs
           replace h : F12_l8 x3a x3n x3c x9 x11  K I8 x19 hp := h
           unfold F12_l8 at h
           refine AWP.seq' ?_
           refine AWP.seq' ?_
           refine AWP.rgn (F12_r9 (upd (upd E0 11 (sV (Value.pointer x11))) 9 (sV (Value.pointer x9))) x3a x3n x3c x19 hp _) ?_ (Rv 3 _ (Rv 19 _ (Rv 9 _ (Rv 11 _ (Rn))))) (Sc rfl (Sc rfl (Sc rfl (Sc rfl (Sn))))) (Sn)
           refine AWP.cond (t := (decide ((x19 : Int) < (x3n : Nat)))) rfl (fun e => ?_) (fun e => ?_)
           ·replace h := ite2_t h e
            refine AWP.skip ?_
            refine AWP.seq' ?_
            refine AWP.block ?_
            refine AWP.seq' ?_
            refine AWP.rgnD (by kernel_rfl) (by kernel_rfl) (F12_r10 (upd E0 11 (sV (Value.pointer x11))) x3a x3n x3c x9 x19 hp _) ?_ (Rv 3 _ (Rv 9 _ (Rv 19 _ (Rv 11 _ (Rn))))) (Sc rfl (Sc rfl (Sc rfl (Sc rfl (Sn))))) (Sn)
            refine ⟨h.1, h.2.1, ?_⟩
            replace h := h.2.2
            refine ptrN_mono h (fun b_30 o_31 h => ?_)
            refine ldL_mono h (fun l_32 h => ?_)
            refine ⟨h.1, h.2.1, ?_⟩
            replace h := h.2.2
            refine ptrN_mono h (fun b_33 o_34 h => ?_)
            refine ldV_mono h (fun v_35 h => ?_)
            refine intV_mono h (fun i_36 h => ?_)
            refine ⟨h.1, h.2.1, ?_⟩
            replace h := h.2.2
            refine ptrN_mono h (fun b_37 o_38 h => ?_)
            refine ldV_mono h (fun v_39 h => ?_)
            refine boolV_mono h (fun q_40 h => ?_)
            refine CF_mono h (fun u_41 h_42 h => ?_)
            refine tup2V_mono h (fun u_43 u_44 h => ?_)
            refine aggV_mono h (fun l_45 h => ?_)
            refine intV_mono h (fun i_46 h => ?_)
            refine if_mono h (fun h => ?_)
            refine if_mono h (fun h => ?_)
            refine if_mono h (fun h => ?_)
            refine AWP.seq' ?_
            refine AWP.rgnD (by kernel_rfl) (by kernel_rfl) (F12_r11 (upd (upd (upd E0 21 (sI (i_46))) 20 (SV.priv 20 0)) 9 (sV (Value.pointer x9))) x3a x3n x3c x11 x19 (splice [(Value.int .u8 0), (Value.int .u8 0), (Value.int .u8 0), (Value.int .u8 0), (Value.int .i64 0)] 0 l_45) h_42 _) ?_ (Rv 3 _ (Rv 11 _ (Rv 19 _ (Rv 9 _ (RefOk.p 20 20 0 (Rv 21 _ (Rn)) (fun e => by cases e)))))) (Sc rfl (Sc rfl (Sc rfl (Sc rfl (Sc rfl (Sc rfl (Sn))))))) (Sc rfl (Sn))
            refine ⟨h.1, h.2.1, ?_⟩
            replace h := h.2.2
            refine ptrN_mono h (fun b_47 o_48 h => ?_)
            refine ldL_mono h (fun l_49 h => ?_)
            refine ⟨h.1, h.2.1, ?_⟩
            replace h := h.2.2
            refine ptrN_mono h (fun b_50 o_51 h => ?_)
            refine ldV_mono h (fun v_52 h => ?_)
            refine intV_mono h (fun i_53 h => ?_)
            refine ⟨h.1, h.2.1, ?_⟩
            replace h := h.2.2
            refine ptrN_mono h (fun b_54 o_55 h => ?_)
            refine ldV_mono h (fun v_56 h => ?_)
            refine boolV_mono h (fun q_57 h => ?_)
            refine CF_mono h (fun u_58 h_59 h => ?_)
            refine tup2V_mono h (fun u_60 u_61 h => ?_)
            refine aggV_mono h (fun l_62 h => ?_)
            refine intV_mono h (fun i_63 h => ?_)
            refine if_mono h (fun h => ?_)
            refine if_mono h (fun h => ?_)
            refine if_mono h (fun h => ?_)
            refine AWP.seq (fun env pv hp => ∃ (x19 : Int) (x229 : Bool), Sub (upd (upd (upd (upd (upd E0 229 (sB (x229))) 19 (sI (x19))) 11 (sV (Value.pointer x11))) 9 (sV (Value.pointer x9))) 3 (sV (Value.slice x3a x3n x3c))) env ∧ Sub V0 pv ∧ (F12_j9 x3a x3n x3c x9 x11 x19 x229 hp I8 K)) ?_ ?_
            ·refine AWP.rgn (F12_r14 (upd (upd (upd (upd E0 19 (sI (x19))) 11 (sV (Value.pointer x11))) 9 (sV (Value.pointer x9))) 3 (sV (Value.slice x3a x3n x3c))) i_46 i_63 (splice [(Value.int .u8 0), (Value.int .u8 0), (Value.int .u8 0), (Value.int .u8 0), (Value.int .i64 0)] 0 l_45) (splice [(Value.int .u8 0), (Value.int .u8 0), (Value.int .u8 0), (Value.int .u8 0), (Value.int .i64 0)] 0 l_62) h_59 _) ?_ (RefOk.p 20 20 0 (Rv 21 _ (RefOk.p 22 22 0 (Rv 23 _ (Rv 3 _ (Rv 9 _ (Rv 11 _ (Rv 19 _ (Rn)))))) (fun e => by cases e))) (fun e => by cases e)) (Sc rfl (Sc rfl (Sc rfl (Sc rfl (Sc rfl (Sc rfl (Sc rfl (Sc rfl (Sn))))))))) (Sc rfl (Sc rfl (Sn)))
             refine ldL_mono h (fun l_64 h => ?_)
             refine ldL_mono h (fun l_65 h => ?_)
             refine eqAgg_mono h (fun q_66 h => ?_)
             refine ite2_mono h (fun h => ?_) (fun h => ?_)
             ·exact ⟨x19, true, (Sc rfl (Sc rfl (Sc rfl (Sc rfl (Sc rfl (Sn)))))), (Sn), h⟩
             ·exact ⟨x19, ((i_46 : Int) != i_63), (Sc rfl (Sc rfl (Sc rfl (Sc rfl (Sc rfl (Sn)))))), (Sn), h⟩
            ·rintro env pv hp ⟨x19, x229, he, hv, h⟩
             refine AWP.sub (env' := (upd (upd (upd (upd (upd E0 229 (sB (x229))) 19 (sI (x19))) 11 (sV (Value.pointer x11))) 9 (sV (Value.pointer x9))) 3 (sV (Value.slice x3a x3n x3c)))) (pv' := V0) ?_ (Rv 3 _ (Rv 9 _ (Rv 11 _ (Rv 19 _ (Rv 229 _ (Rn)))))) he hv (HSub.refl _)
             clear he hv
             unfold F12_j9 at h
             refine AWP.cond (t := x229) rfl (fun e => ?_) (fun e => ?_)
             ·replace h := ite2_t h e
              refine AWP.seq' ?_
              refine AWP.rgn (F12_r12 E0  hp _) ?_ (Rn) (Sn) (Sn)
              refine AWP.ret ?_
              exact h
             ·replace h := ite2_f h e
              refine AWP.skip ?_
              refine AWP.rgn (F12_r13 (upd (upd (upd E0 11 (sV (Value.pointer x11))) 9 (sV (Value.pointer x9))) 3 (sV (Value.slice x3a x3n x3c))) x19 hp _) ?_ (Rv 19 _ (Rv 3 _ (Rv 9 _ (Rv 11 _ (Rn))))) (Sc rfl (Sc rfl (Sc rfl (Sc rfl (Sn))))) (Sn)
              exact ⟨(IntKind.wrap .i64 (x19 + 1)), (Sc rfl (Sc rfl (Sc rfl (Sc rfl (Sn))))), (Sn), h⟩
           ·replace h := ite2_f h e
            refine AWP.exit ?_
            exact ⟨(Sn), (Sn), h⟩
         ·rintro env pv hp ⟨he, hv, h⟩
          refine AWP.sub (env' := E0) (pv' := V0) ?_ (Rn) he hv (HSub.refl _)
          clear he hv
          unfold F12_j6 at h
          refine AWP.seq' ?_
          refine AWP.rgn (F12_r8 E0  hp _) ?_ (Rn) (Sn) (Sn)
          refine CF_mono h (fun u_27 h_28 h => ?_)
          refine boolV_mono h (fun q_29 h => ?_)
          refine AWP.ret ?_
          exact h
end Go.Proofs

set_option linter.unusedVariables false
set_option maxRecDepth 20000
namespace Go.Proofs
open Go Go.HL

theorem PoolR.objM {hp : HP} {p m : Nat} {l : List Q} {low high : Int} {held} (hr : PoolR hp p l low high held m) : ∃ o, hp m = .obj o := by
  obtain ⟨es, clock, he, _⟩ := hr.mapM
  exact ⟨_, he⟩
/-- Another one's map changes. -/
theorem PoolR.other {hp : HP} {p m m' : Nat} {l : List Q} {low high : Int} {held} {o : Obj} (hr : PoolR hp p l low high held m) (hm : hp m' = .obj o) (hne : m' ≠ m) (x : Ent) : PoolR (hp.set m' x) p l low high held m := by
  obtain ⟨a, c, h1, h2, h3⟩ := hr
  refine ⟨a, c, ?_, h2.set_obj hm x, ?_⟩
  · rw [HP.set_ne _ _ (fun e' => by rw [e', hm] at h1; cases h1)]; exact h1
  · rw [HP.set_ne _ _ hne.symm]; exact h3

/-- Where an act's parts lie. -/
theorem act_at {hp : HP} {b o : Nat} {a : Act} (hc : hp.cellN b o 7 = some (act a)) :
    hp.cell b (o + 0) = some (.int .u8 a.1) ∧ hp.cellN b ((o + 1) + 0) 4 = some (v4 a.2.1.1) ∧ hp.cell b ((o + 1) + 4) = some (.int .i64 a.2.1.2) ∧ hp.cell b (o + 6) = some (.bool a.2.2) ∧ hp.cellN b (o + 1) 5 = some (t4 a.2.1) := by
  refine ⟨HP.cell_cellN hc rfl, ?_, ?_, HP.cell_cellN hc rfl, ?_⟩
  · rw [Nat.add_zero, cellN_cellN hc (by omega)]; rfl
  · rw [Nat.add_assoc]; exact HP.cell_cellN hc rfl
  · rw [cellN_cellN hc (by omega)]; rfl

section
variable {a0 a3 : Option Addr} {n0 c0 n3 c3 : Nat} {l : List Q} {low high : Int} {acts : List Act} {hp : HP} {K : Value → HP → Prop}

/-- Every one that is not free is one of the pool's. -/
def ownAll (l : List Q) (held : List ((Q × Int) × Bool)) : Prop := ∀ t, (getL t held).isSome = true → mayQ l t = 0

theorem takeQ_may {held : List ((Q × Int) × Bool)} {first : Q} {x : Int} {plain : Bool} {t : Q × Int} (hb : 0 ≤ low ∧ low ≤ 65535 ∧ 0 ≤ high ∧ high ≤ 65535) (h : takeQ l low high held first x plain = some t) : mayQ l t = 0 := by
  obtain ⟨f1, f2, f3, f4, f5, f6, f7⟩ := takeQ_some h
  unfold mayQ
  have hport : isPort t.2 = true := by unfold isPort; exact decide_eq_true (by omega)
  rw [hport]
  simp [f1]
theorem ownAll.put {held : List ((Q × Int) × Bool)} (h : ownAll l held) {t : Q × Int} (ht : mayQ l t = 0) (b : Bool) : ownAll l (putL t b held) := by
  intro u hu
  rw [getL_put] at hu
  by_cases e : u = t
  · rw [e]; exact ht
  · rw [if_neg e] at hu; exact h u hu
theorem reserveQ_zero {held : List ((Q × Int) × Bool)} {t : Q × Int} (h : reserveQ l held t = 0) : mayQ l t = 0 := by
  unfold reserveQ at h
  refine Classical.byContradiction fun hn => ?_
  rw [if_pos hn] at h
  cases h

theorem empty_of_get {held : List ((Q × Int) × Bool)} (h : ∀ t, getL t held = none) : held = [] := by
  cases held with
  | nil => rfl
  | cons p l => have := h p.1; simp [getL] at this

theorem C12 (hs0 : Shows hp a0 n0 4 (l.flatMap v4)) (hl : l.length = n0) (hnc : n0 ≤ c0) (hlo : -9223372036854775808 ≤ low ∧ low ≤ 9223372036854775807) (hhi : -9223372036854775808 ≤ high ∧ high ≤ 9223372036854775807)
    (hs3 : Shows hp a3 n3 7 (acts.flatMap act)) (hl3 : acts.length = n3) (h : K (.bool true) hp) :
    CF Try.prog 12 [.slice a0 n0 c0, .int .i64 low, .int .i64 high, .slice a3 n3 c3] hp K := by
  refine CF.drop (F12_ok a0 n0 c0 low high a3 n3 c3 hp _ ?_)
  unfold F12
  have hk : ∀ hp', HSub hp hp' → CF Try.prog 21 [] hp' fun u h => boolV u fun q => ∃ hp'', HSub hp'' h ∧ K (.bool q) hp'' := by
    intro hp' hs
    refine C21 ?_
    rw [boolV_bool]
    exact ⟨hp, hs, h⟩
  have pp : ∀ (p : Nat) (c : Option Addr → Prop), ptrV (ptr p 0) c = c (some ⟨p, 0, none⟩) := fun _ _ => rfl
  refine C43 fun g hg => ?_
  rw [boolV_bool]
  have tail : n3 ≤ 200 → ∀ q, F12_j1 a0 n0 c0 low high a3 n3 c3 q hp (fun v hp' => ∃ hp'', HL.HSub hp'' hp' ∧ K v hp'') := by
    intro h200 q
    unfold F12_j1
    cases q
    rotate_left
    · rw [ite2_true]; exact hk hp (HSub.refl _)
    rw [ite2_false]
    refine C44 hs0 hl hnc hlo hhi ?_ ?_
    · intro hbad
      simp only [tup2V_mk, ptrV_pointer, intV_int]
      refine C44 hs0 hl hnc hlo hhi ?_ ?_
      · intro _
        simp only [tup2V_mk, ptrV_pointer, intV_int]
        show ite2 true _ _
        rw [ite2_true]
        unfold F12_j2
        show ite2 true (ite2 true _ _) _
        rw [ite2_true, ite2_true]
        exact hk hp (HSub.refl _)
      · intro hok; rw [hbad] at hok; cases hok
    intro hok p m hp1 s1 hpn hmn hr1
    obtain ⟨hlen, hb1, hb2, hb3, hb4, hb5⟩ := newOk_bounds hok
    have hb : 0 ≤ low ∧ low ≤ 65535 ∧ 0 ≤ high ∧ high ≤ 65535 := ⟨hb1, hb2, hb3, hb4⟩
    simp only [tup2V_mk, intV_int, pp]
    refine C44 (hs0.sub s1) hl hnc hlo hhi ?_ ?_
    · intro hbad; rw [hbad] at hok; cases hok
    intro _ p' m' hp2 s12 hpn' hmn' hr2'
    have hmm : m ≠ m' := fun e => by
      obtain ⟨o, ho⟩ := hr1.objM
      rw [e, hmn'] at ho; cases ho
    have hr2 := hr1.sub s12
    have s2 := s1.trans s12
    have hmn2 : hp m' = .none := s1.none hmn'
    simp only [tup2V_mk, intV_int, pp]
    show ite2 false _ _
    rw [ite2_false]
    show F12_j2 a3 n3 c3 (some ⟨p, 0, none⟩) 0 (some ⟨p', 0, none⟩) 0 false hp2 _
    unfold F12_j2
    rw [ite2_false]
    refine C54 hr2 hlen (by simp) hb ?_
    rw [intV_int]
    -- the third part: both hand out the same
    have third : ∀ hp5, HSub hp hp5 → PoolR hp5 p l low high [] m → PoolR hp5 p' l low high [] m' → F12_j7 a3 n3 c3 (some ⟨p, 0, none⟩) (some ⟨p', 0, none⟩) 0 hp5 (fun v hp' => ∃ hp'', HL.HSub hp'' hp' ∧ K v hp'') := by
      intro hp5 s5 hr5 hr5'
      unfold F12_j7
      refine LoopP.by (J := fun k (x : Int) hp' => ∃ (i : Nat) (held : List ((Q × Int) × Bool)), x = i ∧ i + k = n3 ∧ HSub hp hp' ∧ PoolR hp' p l low high held m ∧ PoolR hp' p' l low high held m') ?_ (n := n3) ⟨0, [], rfl, by omega, s5, hr5, hr5'⟩
      rintro I k x hp6 ⟨i, held, rfl, hik, s6, hr6, hr6'⟩ hI
      unfold F12_l8
      by_cases hi : i < n3
      rotate_left
      · rw [decide_eq_false (by omega : ¬ (i : Int) < (n3 : Int)), ite2_false]
        unfold F12_j6
        exact hk hp6 s6
      rw [decide_eq_true (by omega : (i : Int) < (n3 : Int)), ite2_true]
      have hact : ∀ hp7, HSub hp hp7 → ∃ b o, a3 = some ⟨b, o, none⟩ ∧ hp7.cellN b (o + i * 7) 7 = some (act (acts[i]'(hl3 ▸ hi))) := fun hp7 s7 => (hs3.sub s7).get act_len hl3 hi
      generalize acts[i]'(hl3 ▸ hi) = a at hact
      obtain ⟨b, o, ha3, hc⟩ := hact hp6 s6
      have hact' : ∀ hp7, HSub hp hp7 → hp7.cellN b (o + i * 7) 7 = some (act a) := fun hp7 s7 => by
        obtain ⟨b', o', ha3', hc'⟩ := hact hp7 s7
        rw [ha3] at ha3'
        cases ha3'
        exact hc'
      obtain ⟨r0, r1, r2, r3, r4⟩ := act_at hc
      rw [ha3]
      simp only [ptrN_some, Int.toNat_natCast, r1, r2, r3, ldL_some, ldV_some, intV_int, boolV_bool]
      refine ⟨by omega, by omega, by omega, by omega, by omega, by omega, ?_⟩
      have hz5 : ∀ t, splice [Value.int .u8 0, .int .u8 0, .int .u8 0, .int .u8 0, .int .i64 0] 0 (t4 t) = t4 t := fun t => splice_all rfl
      have next : ∀ hp7 held7, HSub hp hp7 → PoolR hp7 p l low high held7 m → PoolR hp7 p' l low high held7 m' → F12_j9 (some ⟨b, o, none⟩) n3 c3 (some ⟨p, 0, none⟩) (some ⟨p', 0, none⟩) i false hp7 I (fun v hp' => ∃ hp'', HL.HSub hp'' hp' ∧ K v hp'') := by
        intro hp7 held7 s7 hr7 hr7'
        unfold F12_j9
        have w : IntKind.wrap .i64 ((i : Int) + 1) = ((i + 1 : Nat) : Int) := wi (by omega) (by omega)
        rw [ite2_false, w]
        exact hI (k - 1) _ _ (by omega) ⟨i + 1, held7, rfl, by omega, s7, hr7, hr7'⟩
      refine C46 hr6 hlen hb ?_ ?_ ?_
      · intro hx
        simp only [tup2V_mk, aggV_agg, intV_int, t4_len, t4_one, if_true]
        refine ifI (by decide) ?_
        simp only [r1, r2, r3, ldL_some, ldV_some, intV_int, boolV_bool]
        refine ⟨by omega, by omega, by omega, by omega, by omega, by omega, ?_⟩
        refine C46 hr6' hlen hb ?_ ?_ ?_
        · intro _
          simp only [tup2V_mk, aggV_agg, intV_int, t4_len, t4_one, if_true]
          refine ifI (by decide) ?_
          simp only [hz5, cellsN_all (t4_len _), ldL_some]
          refine eq75 ?_
          rw [decide_eq_true rfl, Bool.not_true, ite2_false]
          exact next hp6 held s6 hr6 hr6'
        · intro hx'; rw [hx] at hx'; cases hx'
        · intro hx'; rw [hx] at hx'; cases hx'
      · intro hx hq
        simp only [tup2V_mk, aggV_agg, intV_int, t4_len, t4_one, if_true]
        refine ifI (by decide) ?_
        simp only [r1, r2, r3, ldL_some, ldV_some, intV_int, boolV_bool]
        refine ⟨by omega, by omega, by omega, by omega, by omega, by omega, ?_⟩
        refine C46 hr6' hlen hb ?_ ?_ ?_
        · intro hx'; rw [hx] at hx'; cases hx'
        · intro _ _
          simp only [tup2V_mk, aggV_agg, intV_int, t4_len, t4_one, if_true]
          refine ifI (by decide) ?_
          simp only [hz5, cellsN_all (t4_len _), ldL_some]
          refine eq75 ?_
          rw [decide_eq_true rfl, Bool.not_true, ite2_false]
          exact next hp6 held s6 hr6 hr6'
        · intro _ t ht; rw [hq] at ht; cases ht
      · intro hx t ht e he
        obtain ⟨om, hom⟩ := hr6.objM
        have s7 : HSub hp (hp6.set m e) := s6.up hmn e
        have hr7 := hr6.upd he
        have hr7' := hr6'.other hom hmm e
        obtain ⟨r0, r1, r2, r3, r4⟩ := act_at (hact' _ s7)
        simp only [tup2V_mk, aggV_agg, intV_int, t4_len, t4_one, if_true]
        refine ifI (by decide) ?_
        simp only [r1, r2, r3, ldL_some, ldV_some, intV_int, boolV_bool]
        refine ⟨by omega, by omega, by omega, by omega, by omega, by omega, ?_⟩
        generalize hp6.set m e = hp7 at s7 hr7 hr7'
        refine C46 hr7' hlen hb ?_ ?_ ?_
        · intro hx'; rw [hx] at hx'; cases hx'
        · intro _ hq; rw [hq] at ht; cases ht
        · intro _ t' ht' e' he'
          rw [ht] at ht'
          cases ht'
          simp only [tup2V_mk, aggV_agg, intV_int, t4_len, t4_one, if_true]
          refine ifI (by decide) ?_
          simp only [hz5, cellsN_all (t4_len _), ldL_some]
          refine eq75 ?_
          rw [decide_eq_true rfl, Bool.not_true, ite2_false]
          obtain ⟨om', hom'⟩ := hr7'.objM
          exact next _ _ (s7.up hmn2 e') (hr7.other hom' hmm.symm e') (hr7'.upd he')
    -- the second part: all is given back
    have second : ∀ hp3 held, HSub hp hp3 → PoolR hp3 p l low high held m → PoolR hp3 p' l low high [] m' → (held.map (·.1)).Nodup → ownAll l held → held.length ≤ 200 →
        F12_j3 a3 n3 c3 (some ⟨p, 0, none⟩) (some ⟨p', 0, none⟩) (freeQ l low high []) hp3 (fun v hp' => ∃ hp'', HL.HSub hp'' hp' ∧ K v hp'') := by
      intro hp3 held s3 hr3 hr3' hnd hown hhl
      unfold F12_j3
      refine C45 hr3 hlen (by omega) ?_
      intro s4 c4 hp4 ts s34 hperm _ hrow hfr4
      rw [slcV_slice]
      have htl : ts.length = held.length := by simpa using hperm.length_eq
      have htn : ts.Nodup := hperm.nodup_iff.2 hnd
      have hmem : ∀ t, t ∈ ts ↔ (getL t held).isSome = true := fun t => by rw [hperm.mem_iff, getL_isSome]
      have w0 : IntKind.wrap .i64 (((held.length : Nat) : Int) - 1) = ((held.length : Nat) : Int) - 1 := w64 (by omega) (by omega)
      rw [w0]
      unfold F12_j10
      refine LoopP.by (J := fun k (x : Int) hp' => ∃ (held' : List ((Q × Int) × Bool)), x = (k : Int) - 1 ∧ k ≤ held.length ∧ HSub hp hp' ∧ PoolR hp' p l low high held' m ∧ PoolR hp' p' l low high [] m' ∧ Row hp' s4 held.length c4 75 5 (ts.flatMap t4) ∧ (held'.map (·.1)).Nodup ∧ ∀ t, getL t held' = if t ∈ ts.take k then getL t held else none) ?_
        (n := held.length) ⟨held, rfl, Nat.le_refl _, s3.trans s34, hr3.sub s34, hr3'.sub s34, hrow, hnd, fun t => ?_⟩
      rotate_left
      · rw [← htl, List.take_length]
        by_cases hm : t ∈ ts
        · rw [if_pos hm]
        · rw [if_neg hm]
          rw [hmem] at hm
          cases hg : getL t held with
          | none => rfl
          | some v => rw [hg] at hm; exact absurd rfl hm
      rintro I k x hp5 ⟨held', rfl, hk', s5, hr5, hr5', hrow5, hnd5, hget⟩ hI
      unfold F12_l11
      cases k with
      | zero =>
        rw [decide_eq_false (by omega : ¬ ((0 : Nat) : Int) - 1 ≥ 0), ite2_false]
        have he : held' = [] := empty_of_get fun t => by rw [hget t]; simp
        subst he
        unfold F12_j4
        refine C45 hr5 hlen (by simp) ?_
        intro s6 c6 hp6 ts6 s56 _ _ _ _
        rw [slcV_slice]
        show ite2 false _ _
        rw [ite2_false]
        refine C54 (hr5.sub s56) hlen (by simp) hb ?_
        rw [intV_int]
        have e : (freeQ l low high [] != freeQ l low high []) = false := by simp
        rw [e]
        unfold F12_j5
        rw [ite2_false]
        exact third hp6 (s5.trans s56) (hr5.sub s56) (hr5'.sub s56)
      | succ k =>
        have e1 : ((k + 1 : Nat) : Int) - 1 = (k : Int) := by omega
        rw [e1, decide_eq_true (by omega : (k : Int) ≥ 0), ite2_true]
        have hkt : k < ts.length := by omega
        have hread : ∀ hp7, Row hp7 s4 held.length c4 75 5 (ts.flatMap t4) → ∃ b o, s4 = some ⟨b, o, none⟩ ∧ hp7.cellN b (o + k * 5) 5 = some (t4 (ts[k])) := fun hp7 hr7 => hr7.shows.get t4_len htl (by omega)
        have hnk : ts[k] ∉ ts.take k := by
          intro hm
          have h2 := htn
          rw [← List.take_append_drop k ts] at h2
          exact (List.nodup_append.1 h2).2.2 _ hm _ (by rw [List.drop_eq_getElem_cons hkt]; exact List.mem_cons_self ..) rfl
        have hmk : ts[k] ∈ ts.take (k + 1) := by rw [List.take_succ_eq_append_getElem hkt]; exact List.mem_append_right _ (List.mem_singleton.2 rfl)
        have hs4 : (getL ts[k] held).isSome = true := (hmem _).1 (List.getElem_mem hkt)
        have hg5 := hget ts[k]
        rw [if_pos hmk] at hg5
        have hmay := hown _ hs4
        have hget' : ∀ t, getL t (delL ts[k] held') = if t ∈ ts.take k then getL t held else none := fun t => by
          rw [getL_del hnd5]
          by_cases e : t = ts[k]
          · rw [if_pos e, e, if_neg hnk]
          · rw [if_neg e, hget t]
            have : t ∈ ts.take (k + 1) ↔ t ∈ ts.take k := by
              rw [List.take_succ_eq_append_getElem hkt, List.mem_append, List.mem_singleton]; simp [e]
            simp [this]
        generalize ts[k] = t at *
        obtain ⟨b4, o4, hs4', hc4⟩ := hread hp5 hrow5
        have hread' : ∀ hp7, Row hp7 s4 held.length c4 75 5 (ts.flatMap t4) → hp7.cellN b4 (o4 + k * 5) 5 = some (t4 t) := fun hp7 hr7 => by
          obtain ⟨b', o', h1, h2⟩ := hread hp7 hr7
          rw [hs4'] at h1; cases h1; exact h2
        have next : ∀ e, MapE t4k vb (delL t held') e → F12_j12 a3 n3 c3 (some ⟨p, 0, none⟩) (some ⟨p', 0, none⟩) (freeQ l low high []) (some ⟨b4, o4, none⟩) held.length c4 k false (hp5.set m e) I (fun v hp' => ∃ hp'', HL.HSub hp'' hp' ∧ K v hp'') := by
          intro e he
          unfold F12_j12
          rw [ite2_false, w64 (by omega) (by omega)]
          obtain ⟨om, hom⟩ := hr5.objM
          exact hI k _ _ (by omega) ⟨_, rfl, by omega, s5.up hmn e, hr5.upd he, hr5'.other hom hmm e, hrow5.set_obj hom e, nodup_del hnd5, hget'⟩
        rw [hs4']
        simp only [ptrN_some, Int.toNat_natCast, hc4, ldL_some]
        refine ⟨by omega, by omega, ?_⟩
        refine C47 hr5 hlen ?_
        cases hg : getL t held with
        | none => rw [hg] at hs4; cases hs4
        | some r =>
          rw [hg] at hg5
          have hisq : isQ l held' t = (!r, r) := by unfold isQ; rw [hmay, hg5]; simp
          rw [hisq]
          simp only [tup2V_mk, boolV_bool]
          cases r
          · rw [ite2_false, Bool.not_false, ite2_true]
            refine ⟨by omega, by omega, ?_⟩
            rw [hc4, ldL_some]
            have hrel : releaseQ l held' t = 4 := by unfold releaseQ; rw [hmay, hg5]; simp
            have hgiv : giveQ l held' t = 0 := by unfold giveQ; rw [hmay, hg5]; simp
            refine C51 hr5 hlen ?_ ?_
            · intro _
              rw [hrel, intV_int]
              show ite2 false _ _
              rw [ite2_false]
              refine ⟨by omega, by omega, ?_⟩
              rw [hc4, ldL_some]
              refine C49 hr5 hlen ?_ ?_
              · intro hn; exact absurd hgiv hn
              · intro _ e he
                rw [intV_int]
                exact next e he
            · intro hz; rw [hrel] at hz; cases hz
          · rw [ite2_true]
            refine ⟨by omega, by omega, ?_⟩
            rw [hc4, ldL_some]
            have hrel : releaseQ l held' t = 0 := by unfold releaseQ; rw [hmay, hg5]; simp
            have hgiv : giveQ l held' t = 11 := by unfold giveQ; rw [hmay, hg5]; simp
            refine C49 hr5 hlen ?_ ?_
            · intro _
              rw [hgiv, intV_int]
              show ite2 false _ _
              rw [ite2_false]
              refine ⟨by omega, by omega, ?_⟩
              rw [hc4, ldL_some]
              refine C51 hr5 hlen ?_ ?_
              · intro hn; exact absurd hrel hn
              · intro _ e he
                rw [intV_int]
                show ite2 false _ _
                rw [ite2_false, Bool.not_true, ite2_false]
                exact next e he
            · intro hz; rw [hgiv] at hz; cases hz
    -- the first part: acts
    unfold F12_j13
    refine LoopP.by (J := fun k (x : Int) hp' => ∃ (i : Nat) (held : List ((Q × Int) × Bool)), x = i ∧ i + k = n3 ∧ HSub hp hp' ∧ PoolR hp' p l low high held m ∧ PoolR hp' p' l low high [] m' ∧ (held.map (·.1)).Nodup ∧ ownAll l held ∧ held.length ≤ i) ?_
      (n := n3) ⟨0, [], rfl, by omega, s2, hr2, hr2', by simp, (fun t ht => by cases ht), Nat.le_refl _⟩
    rintro I k x hp3 ⟨i, held, rfl, hik, s3, hr3, hr3', hnd, hown, hhl⟩ hI
    unfold F12_l14
    by_cases hi : i < n3
    rotate_left
    · rw [decide_eq_false (by omega : ¬ (i : Int) < (n3 : Int)), ite2_false]
      exact second hp3 held s3 hr3 hr3' hnd hown (by omega)
    rw [decide_eq_true (by omega : (i : Int) < (n3 : Int)), ite2_true]
    obtain ⟨b, o, rfl, hc⟩ := (hs3.sub s3).get act_len hl3 hi
    generalize acts[i]'(hl3 ▸ hi) = a at hc
    obtain ⟨r0, r1, r2, r3, r4⟩ := act_at hc
    simp only [ptrN_some, Int.toNat_natCast, r0, ldV_some, intV_int]
    refine ⟨by omega, by omega, ?_⟩
    have next : ∀ hp4 held4, HSub hp hp4 → PoolR hp4 p l low high held4 m → PoolR hp4 p' l low high [] m' → (held4.map (·.1)).Nodup → ownAll l held4 → held4.length ≤ i + 1 →
        F12_j15 (some ⟨b, o, none⟩) n3 c3 (some ⟨p, 0, none⟩) (some ⟨p', 0, none⟩) (freeQ l low high []) i hp4 I (fun v hp' => ∃ hp'', HL.HSub hp'' hp' ∧ K v hp'') := by
      intro hp4 held4 s4 hr4 hr4' hn4 ho4 hl4
      unfold F12_j15
      have w : IntKind.wrap .i64 ((i : Int) + 1) = ((i + 1 : Nat) : Int) := wi (by omega) (by omega)
      rw [w]
      exact hI (k - 1) _ _ (by omega) ⟨i + 1, held4, rfl, by omega, s4, hr4, hr4', hn4, ho4, hl4⟩
    obtain ⟨om, hom⟩ := hr3.objM
    cases (a.1 == 0)
    · rw [ite2_false]
      cases (a.1 == 2)
      · rw [ite2_false]; exact next hp3 held s3 hr3 hr3' hnd hown (by omega)
      · rw [ite2_true]
        simp only [r4, ldL_some]
        refine ⟨by omega, by omega, ?_⟩
        refine C50 hr3 hlen ?_ ?_
        · intro _; rw [intV_int]; exact next hp3 held s3 hr3 hr3' hnd hown (by omega)
        · intro hz e he
          rw [intV_int]
          exact next _ _ (s3.up hmn e) (hr3.upd he) (hr3'.other hom hmm e) (nodup_put hnd) (hown.put (reserveQ_zero hz) true) (by have := len_put_le a.2.1 true held; omega)
    · rw [ite2_true]
      simp only [r1, r2, r3, ldL_some, ldV_some, intV_int, boolV_bool]
      refine ⟨by omega, by omega, by omega, by omega, by omega, by omega, ?_⟩
      refine C46 hr3 hlen hb ?_ ?_ ?_
      · intro _
        simp only [tup2V_mk, aggV_agg, intV_int]
        exact next hp3 held s3 hr3 hr3' hnd hown (by omega)
      · intro _ _
        simp only [tup2V_mk, aggV_agg, intV_int]
        exact next hp3 held s3 hr3 hr3' hnd hown (by omega)
      · intro _ t ht e he
        simp only [tup2V_mk, aggV_agg, intV_int]
        exact next _ _ (s3.up hmn e) (hr3.upd he) (hr3'.other hom hmm e) (nodup_put hnd) (hown.put (takeQ_may hb ht) false) (by have := len_put_le t false held; omega)
  cases g
  · rw [ite2_false]; exact tail (hg rfl) _
  · rw [ite2_true]
    unfold F12_j1
    rw [ite2_true]
    exact hk hp (HSub.refl _)
end
end Go.Proofs

