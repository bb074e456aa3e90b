import Derived.Test.YtidoceleobdkmaaHlOrd
import Derived.Test.YtidoceleobdkmaaProg
set_option linter.unusedVariables false
set_option maxRecDepth 20000
namespace Go.Proofs
open Go Go.HL
-- 14 interpreter/interpreterlaw18.PoolClasses
theorem F14_r0 (e : Env) (hp : HP) (K : Env → PV → HP → Prop) : RW Try.prog 118 [14, 17] (opsAt Try.f14 [0]) (List.range 1) e V0 hp K =
    (K (upd e 10 (SV.val (Value.bool false))) V0 hp) := by kernel_rfl
theorem F14_r1 (e : Env) (x2a : Option Addr) (x2n : Nat) (x2c : Nat) (hp : HP) (K : Env → PV → HP → Prop) : RW Try.prog 118 [14, 17] (opsAt Try.f14 [1, 0, 0]) (List.range 3) (upd e 2 (SV.val (Value.slice x2a x2n x2c))) V0 hp K =
    (K (upd (upd (upd (upd e 2 (SV.val (Value.slice x2a x2n x2c))) 20 (SV.val (Value.slice x2a x2n x2c))) 21 (SV.val (Value.int .i64 (x2n : Nat)))) 22 (SV.val (Value.bool (decide (((x2n : Nat) : Int) > 10))))) V0 hp) := by kernel_rfl
theorem F14_r2 (e : Env) (hp : HP) (K : Env → PV → HP → Prop) : RW Try.prog 118 [14, 17] (opsAt Try.f14 [1, 0, 1, 0, 0]) (List.range 2) e V0 hp K =
    (CF Try.prog 21 [] hp fun u1 h2 => (boolV u1 fun q3 => (K (upd (upd e 23 (SV.val (Value.bool q3))) 10 (SV.val (Value.bool q3))) V0 h2))) := by kernel_rfl
theorem F14_r3 (e : Env) (x2a : Option Addr) (x2n : Nat) (x2c : Nat) (x3 : Int) (x4 : Int) (hp : HP) (K : Env → PV → HP → Prop) : RW Try.prog 118 [14, 17] (opsAt Try.f14 [1, 1, 0]) (List.range 9) (upd (upd (upd e 4 (SV.val (Value.int .i64 x4))) 3 (SV.val (Value.int .i64 x3))) 2 (SV.val (Value.slice x2a x2n x2c))) V0 hp K =
    (CF Try.prog 44 [(Value.slice x2a x2n x2c), (Value.int .i64 x3), (Value.int .i64 x4)] hp fun u1 h2 => (tup2V u1 fun u3 u4 => (ptrV u3 fun p5 => (intV u4 .i64 fun i6 => (K (upd (upd (upd (upd (upd (upd (upd (upd (upd (upd (upd (upd e 4 (SV.val (Value.int .i64 x4))) 3 (SV.val (Value.int .i64 x3))) 2 (SV.val (Value.slice x2a x2n x2c))) 25 (SV.val (Value.slice x2a x2n x2c))) 26 (SV.val (Value.int .i64 x3))) 27 (SV.val (Value.int .i64 x4))) 28 (SV.val (Value.tuple ⟨[(Value.pointer p5), (Value.int .i64 i6)]⟩))) 24 (SV.val (Value.tuple ⟨[(Value.pointer p5), (Value.int .i64 i6)]⟩))) 29 (SV.val (Value.pointer p5))) 30 (SV.val (Value.int .i64 i6))) 11 (SV.val (Value.pointer p5))) 12 (SV.val (Value.int .i64 i6))) V0 h2))))) := by kernel_rfl
theorem F14_r4 (e : Env) (hp : HP) (K : Env → PV → HP → Prop) : RW Try.prog 118 [14, 17] (opsAt Try.f14 [1, 1, 1, 0, 1, 0, 0]) (List.range 1) e V0 hp K =
    (K (upd e 10 (SV.val (Value.bool false))) V0 hp) := by kernel_rfl
theorem F14_r5 (e : Env) (hp : HP) (K : Env → PV → HP → Prop) : RW Try.prog 118 [14, 17] (opsAt Try.f14 [1, 1, 1, 1, 0]) (List.range 1) e V0 hp K =
    (K (upd e 13 (SV.val (Value.pointer none))) V0 hp) := by kernel_rfl
theorem F14_r6 (e : Env) (x0 : Int) (hp : HP) (K : Env → PV → HP → Prop) : RW Try.prog 118 [14, 17] (opsAt Try.f14 [1, 1, 1, 1, 1, 0]) (List.range 4) (upd e 0 (SV.val (Value.int .i64 x0))) V0 hp K =
    (if List.length [(Value.int .u8 0), (Value.int .u8 0), (Value.int .u8 0), (Value.int .u8 0), (Value.int .i64 x0)] = 5 then (if List.all [(Value.int .u8 0), (Value.int .u8 0), (Value.int .u8 0), (Value.int .u8 0), (Value.int .i64 x0)] one = true then (if 0 + List.length [(Value.int .u8 0), (Value.int .u8 0), (Value.int .u8 0), (Value.int .u8 0), (Value.int .i64 x0)] ≤ List.length [(Value.int .u8 0), (Value.int .u8 0), (Value.int .u8 0), (Value.int .u8 0), (Value.int .i64 0)] then (K (upd (upd (upd (upd e 0 (SV.val (Value.int .i64 x0))) 45 (SV.val (Value.int .i64 x0))) 46 (SV.val (Value.agg ⟨[(Value.int .u8 0), (Value.int .u8 0), (Value.int .u8 0), (Value.int .u8 0), (Value.int .i64 x0)]⟩))) 14 (SV.priv 14 0)) (upd (upd V0 14 (75, [(Value.int .u8 0), (Value.int .u8 0), (Value.int .u8 0), (Value.int .u8 0), (Value.int .i64 0)])) 14 (75, (splice [(Value.int .u8 0), (Value.int .u8 0), (Value.int .u8 0), (Value.int .u8 0), (Value.int .i64 0)] 0 [(Value.int .u8 0), (Value.int .u8 0), (Value.int .u8 0), (Value.int .u8 0), (Value.int .i64 x0)]))) hp) else False) else False) else False) := by kernel_rfl
theorem F14_r7 (e : Env) (x13 : Option Addr) (k14 : List Value) (hp : HP) (K : Env → PV → HP → Prop) : RW Try.prog 118 [14, 17] (opsAt Try.f14 [1, 1, 1, 1, 1, 1, 0]) (List.range 8) (upd (upd e 14 (SV.priv 14 0)) 13 (SV.val (Value.pointer x13))) (upd V0 14 (75, k14)) hp K =
    (ldL (cellsN k14 0 5) fun l1 => (CF Try.prog 47 [(Value.pointer x13), (Value.agg ⟨l1⟩)] hp fun u2 h3 => (tup2V u2 fun u4 u5 => (boolV u4 fun q6 => (boolV u5 fun q7 => (K (upd (upd (upd (upd (upd (upd (upd (upd (upd (upd e 14 (SV.priv 14 0)) 13 (SV.val (Value.pointer x13))) 48 (SV.val (Value.pointer x13))) 49 (SV.val (Value.agg ⟨l1⟩))) 50 (SV.val (Value.tuple ⟨[(Value.bool q6), (Value.bool q7)]⟩))) 47 (SV.val (Value.tuple ⟨[(Value.bool q6), (Value.bool q7)]⟩))) 51 (SV.val (Value.bool q6))) 52 (SV.val (Value.bool q7))) 15 (SV.val (Value.bool q6))) 16 (SV.val (Value.bool q7))) (upd V0 14 (75, k14)) h3)))))) := by kernel_rfl
theorem F14_r8 (e : Env) (x0 : Int) (x13 : Option Addr) (k14 : List Value) (hp : HP) (K : Env → PV → HP → Prop) : RW Try.prog 118 [14, 17] (opsAt Try.f14 [1, 1, 1, 1, 1, 1, 1, 0]) (List.range 10) (upd (upd e 13 (SV.val (Value.pointer x13))) 0 (SV.val (Value.int .i64 x0))) (upd V0 14 (75, k14)) hp K =
    (CF Try.prog 46 [(Value.pointer x13), (Value.agg ⟨[(Value.int .u8 0), (Value.int .u8 0), (Value.int .u8 0), (Value.int .u8 0)]⟩), (Value.int .i64 x0), (Value.bool true)] hp fun u1 h2 => (tup2V u1 fun u3 u4 => (aggV u3 fun l5 => (intV u4 .i64 fun i6 => (if List.length l5 = 5 then (if List.all l5 one = true then (if 0 + List.length l5 ≤ List.length [(Value.int .u8 0), (Value.int .u8 0), (Value.int .u8 0), (Value.int .u8 0), (Value.int .i64 0)] then (K (upd (upd (upd (upd (upd (upd (upd (upd (upd (upd (upd e 13 (SV.val (Value.pointer x13))) 0 (SV.val (Value.int .i64 x0))) 54 (SV.val (Value.pointer x13))) 55 (SV.val (Value.agg ⟨[(Value.int .u8 0), (Value.int .u8 0), (Value.int .u8 0), (Value.int .u8 0)]⟩))) 56 (SV.val (Value.int .i64 x0))) 57 (SV.val (Value.tuple ⟨[(Value.agg ⟨l5⟩), (Value.int .i64 i6)]⟩))) 53 (SV.val (Value.tuple ⟨[(Value.agg ⟨l5⟩), (Value.int .i64 i6)]⟩))) 58 (SV.val (Value.agg ⟨l5⟩))) 59 (SV.val (Value.int .i64 i6))) 17 (SV.priv 17 0)) 18 (SV.val (Value.int .i64 i6))) (upd (upd (upd V0 14 (75, k14)) 17 (75, [(Value.int .u8 0), (Value.int .u8 0), (Value.int .u8 0), (Value.int .u8 0), (Value.int .i64 0)])) 17 (75, (splice [(Value.int .u8 0), (Value.int .u8 0), (Value.int .u8 0), (Value.int .u8 0), (Value.int .i64 0)] 0 l5))) h2) else False) else False) else False))))) := by kernel_rfl
theorem F14_r9 (e : Env) (x0 : Int) (x1 : Int) (x19 : Bool) (hp : HP) (K : Env → PV → HP → Prop) : RW Try.prog 118 [14, 17] (opsAt Try.f14 [1, 1, 1, 1, 1, 1, 1, 1, 1, 0]) (List.range 14) (upd (upd (upd e 19 (SV.val (Value.bool x19))) 1 (SV.val (Value.int .i64 x1))) 0 (SV.val (Value.int .i64 x0))) V0 hp K =
    (ite2 x19 (CF Try.prog 20 [(Value.int .i64 x0), (Value.int .i64 x1)] hp fun u1 h2 => (boolV u1 fun q3 => (CF Try.prog 59 [(Value.int .i64 x0), (Value.int .i64 x1)] h2 fun u4 h5 => (boolV u4 fun q6 => (ite2 (q3 == q6) (CF Try.prog 21 [] h5 fun u7 h8 => (boolV u7 fun q9 => (K (upd (upd (upd (upd (upd (upd (upd (upd (upd (upd (upd (upd (upd (upd (upd (upd (upd e 19 (SV.val (Value.bool x19))) 1 (SV.val (Value.int .i64 x1))) 0 (SV.val (Value.int .i64 x0))) 105 (SV.val (Value.bool x19))) 106 (SV.val (Value.bool true))) 107 (SV.val (Value.int .i64 x0))) 108 (SV.val (Value.int .i64 x1))) 109 (SV.val (Value.bool q3))) 110 (SV.val (Value.int .i64 x0))) 111 (SV.val (Value.int .i64 x1))) 112 (SV.val (Value.bool q6))) 113 (SV.val (Value.bool (q3 == q6)))) 114 (SV.val (Value.bool (q3 == q6)))) 115 (SV.val (Value.bool true))) 116 (SV.val (Value.bool q9))) 117 (SV.val (Value.bool q9))) 10 (SV.val (Value.bool q9))) V0 h8))) (K (upd (upd (upd (upd (upd (upd (upd (upd (upd (upd (upd (upd (upd (upd (upd (upd (upd e 19 (SV.val (Value.bool x19))) 1 (SV.val (Value.int .i64 x1))) 0 (SV.val (Value.int .i64 x0))) 105 (SV.val (Value.bool x19))) 106 (SV.val (Value.bool true))) 107 (SV.val (Value.int .i64 x0))) 108 (SV.val (Value.int .i64 x1))) 109 (SV.val (Value.bool q3))) 110 (SV.val (Value.int .i64 x0))) 111 (SV.val (Value.int .i64 x1))) 112 (SV.val (Value.bool q6))) 113 (SV.val (Value.bool (q3 == q6)))) 114 (SV.val (Value.bool (q3 == q6)))) 115 (SV.val (Value.bool false))) 116 (SV.val undef)) 117 (SV.val (Value.bool false))) 10 (SV.val (Value.bool false))) V0 h5)))))) (K (upd (upd (upd (upd (upd (upd (upd (upd (upd (upd (upd (upd (upd (upd (upd (upd (upd e 19 (SV.val (Value.bool x19))) 1 (SV.val (Value.int .i64 x1))) 0 (SV.val (Value.int .i64 x0))) 105 (SV.val (Value.bool x19))) 106 (SV.val (Value.bool false))) 107 (SV.val undef)) 108 (SV.val undef)) 109 (SV.val undef)) 110 (SV.val undef)) 111 (SV.val undef)) 112 (SV.val undef)) 113 (SV.val undef)) 114 (SV.val (Value.bool false))) 115 (SV.val (Value.bool false))) 116 (SV.val undef)) 117 (SV.val (Value.bool false))) 10 (SV.val (Value.bool false))) V0 hp)) := by kernel_rfl
def F14_j2 (x0 : Int) (x1 : Int) (x19 : Bool) (hp : HP) (K : Value → HP → Prop) : Prop :=
  (ite2 x19 (CF Try.prog 20 [(Value.int .i64 x0), (Value.int .i64 x1)] hp fun u_23 h_24 => (boolV u_23 fun q_25 => (CF Try.prog 59 [(Value.int .i64 x0), (Value.int .i64 x1)] h_24 fun u_26 h_27 => (boolV u_26 fun q_28 => (ite2 (q_25 == q_28) (CF Try.prog 21 [] h_27 fun u_29 h_30 => (boolV u_29 fun q_31 => (K (Value.bool q_31) h_30))) (K (Value.bool false) h_27)))))) (K (Value.bool false) hp))
theorem F14_r10 (e : Env) (x13 : Option Addr) (x15 : Bool) (x16 : Bool) (x18 : Int) (k14 : List Value) (hp : HP) (K : Env → PV → HP → Prop) : RW Try.prog 118 [14, 17] (opsAt Try.f14 [1, 1, 1, 1, 1, 1, 1, 1, 0]) (List.range 46) (upd (upd (upd (upd (upd e 18 (SV.val (Value.int .i64 x18))) 16 (SV.val (Value.bool x16))) 15 (SV.val (Value.bool x15))) 14 (SV.priv 14 0)) 13 (SV.val (Value.pointer x13))) (upd V0 14 (75, k14)) hp K =
    (ite2 (!x15) (ite2 (!x16) (ite2 ((x18 : Int) == 2) (ldL (cellsN k14 0 5) fun l1 => (CF Try.prog 50 [(Value.pointer x13), (Value.agg ⟨l1⟩)] hp fun u2 h3 => (intV u2 .i64 fun i4 => (ite2 ((i4 : Int) == 2) (ldL (cellsN k14 0 5) fun l5 => (CF Try.prog 51 [(Value.pointer x13), (Value.agg ⟨l5⟩)] h3 fun u6 h7 => (intV u6 .i64 fun i8 => (ite2 ((i8 : Int) == 2) (ldL (cellsN k14 0 5) fun l9 => (CF Try.prog 49 [(Value.pointer x13), (Value.agg ⟨l9⟩)] h7 fun u10 h11 => (intV u10 .i64 fun i12 => (ite2 ((i12 : Int) == 2) (CF Try.prog 48 [(Value.pointer x13), (Value.agg ⟨[(Value.int .u8 0), (Value.int .u8 0), (Value.int .u8 0), (Value.int .u8 0)]⟩)] h11 fun u13 h14 => (boolV u13 fun q15 => (ite2 (!q15) (CF Try.prog 45 [(Value.pointer x13)] h14 fun u16 h17 => (slcV u16 fun a18 n19 c20 => (ite2 (((n19 : Nat) : Int) == 0) (CF Try.prog 54 [(Value.pointer x13)] h17 fun u21 h22 => (intV u21 .i64 fun i23 => (K (upd (upd (upd (upd (upd (upd (upd (upd (upd (upd (upd (upd (upd (upd (upd (upd (upd (upd (upd (upd (upd (upd (upd (upd (upd (upd (upd (upd (upd (upd (upd (upd (upd (upd (upd (upd (upd (upd (upd (upd (upd (upd (upd (upd (upd (upd (upd (upd (upd (upd (upd e 18 (SV.val (Value.int .i64 x18))) 16 (SV.val (Value.bool x16))) 15 (SV.val (Value.bool x15))) 14 (SV.priv 14 0)) 13 (SV.val (Value.pointer x13))) 60 (SV.val (Value.bool x15))) 61 (SV.val (Value.bool (!x15)))) 62 (SV.val (Value.bool true))) 63 (SV.val (Value.bool x16))) 64 (SV.val (Value.bool (!x16)))) 65 (SV.val (Value.bool (!x16)))) 66 (SV.val (Value.bool true))) 67 (SV.val (Value.int .i64 x18))) 68 (SV.val (Value.bool ((x18 : Int) == 2)))) 69 (SV.val (Value.bool ((x18 : Int) == 2)))) 70 (SV.val (Value.bool true))) 71 (SV.val (Value.pointer x13))) 72 (SV.val (Value.agg ⟨l1⟩))) 73 (SV.val (Value.int .i64 i4))) 74 (SV.val (Value.bool ((i4 : Int) == 2)))) 75 (SV.val (Value.bool ((i4 : Int) == 2)))) 76 (SV.val (Value.bool true))) 77 (SV.val (Value.pointer x13))) 78 (SV.val (Value.agg ⟨l5⟩))) 79 (SV.val (Value.int .i64 i8))) 80 (SV.val (Value.bool ((i8 : Int) == 2)))) 81 (SV.val (Value.bool ((i8 : Int) == 2)))) 82 (SV.val (Value.bool true))) 83 (SV.val (Value.pointer x13))) 84 (SV.val (Value.agg ⟨l9⟩))) 85 (SV.val (Value.int .i64 i12))) 86 (SV.val (Value.bool ((i12 : Int) == 2)))) 87 (SV.val (Value.bool ((i12 : Int) == 2)))) 88 (SV.val (Value.bool true))) 89 (SV.val (Value.pointer x13))) 90 (SV.val (Value.agg ⟨[(Value.int .u8 0), (Value.int .u8 0), (Value.int .u8 0), (Value.int .u8 0)]⟩))) 91 (SV.val (Value.bool q15))) 92 (SV.val (Value.bool (!q15)))) 93 (SV.val (Value.bool (!q15)))) 94 (SV.val (Value.bool true))) 95 (SV.val (Value.pointer x13))) 96 (SV.val (Value.slice a18 n19 c20))) 97 (SV.val (Value.int .i64 (n19 : Nat)))) 98 (SV.val (Value.bool (((n19 : Nat) : Int) == 0)))) 99 (SV.val (Value.bool (((n19 : Nat) : Int) == 0)))) 100 (SV.val (Value.bool true))) 101 (SV.val (Value.pointer x13))) 102 (SV.val (Value.int .i64 i23))) 103 (SV.val (Value.bool ((i23 : Int) == 0)))) 104 (SV.val (Value.bool ((i23 : Int) == 0)))) 19 (SV.val (Value.bool ((i23 : Int) == 0)))) (upd V0 14 (75, k14)) h22))) (K (upd (upd (upd (upd (upd (upd (upd (upd (upd (upd (upd (upd (upd (upd (upd (upd (upd (upd (upd (upd (upd (upd (upd (upd (upd (upd (upd (upd (upd (upd (upd (upd (upd (upd (upd (upd (upd (upd (upd (upd (upd (upd (upd (upd (upd (upd (upd (upd (upd (upd (upd e 18 (SV.val (Value.int .i64 x18))) 16 (SV.val (Value.bool x16))) 15 (SV.val (Value.bool x15))) 14 (SV.priv 14 0)) 13 (SV.val (Value.pointer x13))) 60 (SV.val (Value.bool x15))) 61 (SV.val (Value.bool (!x15)))) 62 (SV.val (Value.bool true))) 63 (SV.val (Value.bool x16))) 64 (SV.val (Value.bool (!x16)))) 65 (SV.val (Value.bool (!x16)))) 66 (SV.val (Value.bool true))) 67 (SV.val (Value.int .i64 x18))) 68 (SV.val (Value.bool ((x18 : Int) == 2)))) 69 (SV.val (Value.bool ((x18 : Int) == 2)))) 70 (SV.val (Value.bool true))) 71 (SV.val (Value.pointer x13))) 72 (SV.val (Value.agg ⟨l1⟩))) 73 (SV.val (Value.int .i64 i4))) 74 (SV.val (Value.bool ((i4 : Int) == 2)))) 75 (SV.val (Value.bool ((i4 : Int) == 2)))) 76 (SV.val (Value.bool true))) 77 (SV.val (Value.pointer x13))) 78 (SV.val (Value.agg ⟨l5⟩))) 79 (SV.val (Value.int .i64 i8))) 80 (SV.val (Value.bool ((i8 : Int) == 2)))) 81 (SV.val (Value.bool ((i8 : Int) == 2)))) 82 (SV.val (Value.bool true))) 83 (SV.val (Value.pointer x13))) 84 (SV.val (Value.agg ⟨l9⟩))) 85 (SV.val (Value.int .i64 i12))) 86 (SV.val (Value.bool ((i12 : Int) == 2)))) 87 (SV.val (Value.bool ((i12 : Int) == 2)))) 88 (SV.val (Value.bool true))) 89 (SV.val (Value.pointer x13))) 90 (SV.val (Value.agg ⟨[(Value.int .u8 0), (Value.int .u8 0), (Value.int .u8 0), (Value.int .u8 0)]⟩))) 91 (SV.val (Value.bool q15))) 92 (SV.val (Value.bool (!q15)))) 93 (SV.val (Value.bool (!q15)))) 94 (SV.val (Value.bool true))) 95 (SV.val (Value.pointer x13))) 96 (SV.val (Value.slice a18 n19 c20))) 97 (SV.val (Value.int .i64 (n19 : Nat)))) 98 (SV.val (Value.bool (((n19 : Nat) : Int) == 0)))) 99 (SV.val (Value.bool (((n19 : Nat) : Int) == 0)))) 100 (SV.val (Value.bool false))) 101 (SV.val undef)) 102 (SV.val undef)) 103 (SV.val undef)) 104 (SV.val (Value.bool false))) 19 (SV.val (Value.bool false))) (upd V0 14 (75, k14)) h17)))) (K (upd (upd (upd (upd (upd (upd (upd (upd (upd (upd (upd (upd (upd (upd (upd (upd (upd (upd (upd (upd (upd (upd (upd (upd (upd (upd (upd (upd (upd (upd (upd (upd (upd (upd (upd (upd (upd (upd (upd (upd (upd (upd (upd (upd (upd (upd (upd (upd (upd (upd (upd e 18 (SV.val (Value.int .i64 x18))) 16 (SV.val (Value.bool x16))) 15 (SV.val (Value.bool x15))) 14 (SV.priv 14 0)) 13 (SV.val (Value.pointer x13))) 60 (SV.val (Value.bool x15))) 61 (SV.val (Value.bool (!x15)))) 62 (SV.val (Value.bool true))) 63 (SV.val (Value.bool x16))) 64 (SV.val (Value.bool (!x16)))) 65 (SV.val (Value.bool (!x16)))) 66 (SV.val (Value.bool true))) 67 (SV.val (Value.int .i64 x18))) 68 (SV.val (Value.bool ((x18 : Int) == 2)))) 69 (SV.val (Value.bool ((x18 : Int) == 2)))) 70 (SV.val (Value.bool true))) 71 (SV.val (Value.pointer x13))) 72 (SV.val (Value.agg ⟨l1⟩))) 73 (SV.val (Value.int .i64 i4))) 74 (SV.val (Value.bool ((i4 : Int) == 2)))) 75 (SV.val (Value.bool ((i4 : Int) == 2)))) 76 (SV.val (Value.bool true))) 77 (SV.val (Value.pointer x13))) 78 (SV.val (Value.agg ⟨l5⟩))) 79 (SV.val (Value.int .i64 i8))) 80 (SV.val (Value.bool ((i8 : Int) == 2)))) 81 (SV.val (Value.bool ((i8 : Int) == 2)))) 82 (SV.val (Value.bool true))) 83 (SV.val (Value.pointer x13))) 84 (SV.val (Value.agg ⟨l9⟩))) 85 (SV.val (Value.int .i64 i12))) 86 (SV.val (Value.bool ((i12 : Int) == 2)))) 87 (SV.val (Value.bool ((i12 : Int) == 2)))) 88 (SV.val (Value.bool true))) 89 (SV.val (Value.pointer x13))) 90 (SV.val (Value.agg ⟨[(Value.int .u8 0), (Value.int .u8 0), (Value.int .u8 0), (Value.int .u8 0)]⟩))) 91 (SV.val (Value.bool q15))) 92 (SV.val (Value.bool (!q15)))) 93 (SV.val (Value.bool (!q15)))) 94 (SV.val (Value.bool false))) 95 (SV.val undef)) 96 (SV.val undef)) 97 (SV.val undef)) 98 (SV.val undef)) 99 (SV.val (Value.bool false))) 100 (SV.val (Value.bool false))) 101 (SV.val undef)) 102 (SV.val undef)) 103 (SV.val undef)) 104 (SV.val (Value.bool false))) 19 (SV.val (Value.bool false))) (upd V0 14 (75, k14)) h14)))) (K (upd (upd (upd (upd (upd (upd (upd (upd (upd (upd (upd (upd (upd (upd (upd (upd (upd (upd (upd (upd (upd (upd (upd (upd (upd (upd (upd (upd (upd (upd (upd (upd (upd (upd (upd (upd (upd (upd (upd (upd (upd (upd (upd (upd (upd (upd (upd (upd (upd (upd (upd e 18 (SV.val (Value.int .i64 x18))) 16 (SV.val (Value.bool x16))) 15 (SV.val (Value.bool x15))) 14 (SV.priv 14 0)) 13 (SV.val (Value.pointer x13))) 60 (SV.val (Value.bool x15))) 61 (SV.val (Value.bool (!x15)))) 62 (SV.val (Value.bool true))) 63 (SV.val (Value.bool x16))) 64 (SV.val (Value.bool (!x16)))) 65 (SV.val (Value.bool (!x16)))) 66 (SV.val (Value.bool true))) 67 (SV.val (Value.int .i64 x18))) 68 (SV.val (Value.bool ((x18 : Int) == 2)))) 69 (SV.val (Value.bool ((x18 : Int) == 2)))) 70 (SV.val (Value.bool true))) 71 (SV.val (Value.pointer x13))) 72 (SV.val (Value.agg ⟨l1⟩))) 73 (SV.val (Value.int .i64 i4))) 74 (SV.val (Value.bool ((i4 : Int) == 2)))) 75 (SV.val (Value.bool ((i4 : Int) == 2)))) 76 (SV.val (Value.bool true))) 77 (SV.val (Value.pointer x13))) 78 (SV.val (Value.agg ⟨l5⟩))) 79 (SV.val (Value.int .i64 i8))) 80 (SV.val (Value.bool ((i8 : Int) == 2)))) 81 (SV.val (Value.bool ((i8 : Int) == 2)))) 82 (SV.val (Value.bool true))) 83 (SV.val (Value.pointer x13))) 84 (SV.val (Value.agg ⟨l9⟩))) 85 (SV.val (Value.int .i64 i12))) 86 (SV.val (Value.bool ((i12 : Int) == 2)))) 87 (SV.val (Value.bool ((i12 : Int) == 2)))) 88 (SV.val (Value.bool false))) 89 (SV.val undef)) 90 (SV.val undef)) 91 (SV.val undef)) 92 (SV.val undef)) 93 (SV.val (Value.bool false))) 94 (SV.val (Value.bool false))) 95 (SV.val undef)) 96 (SV.val undef)) 97 (SV.val undef)) 98 (SV.val undef)) 99 (SV.val (Value.bool false))) 100 (SV.val (Value.bool false))) 101 (SV.val undef)) 102 (SV.val undef)) 103 (SV.val undef)) 104 (SV.val (Value.bool false))) 19 (SV.val (Value.bool false))) (upd V0 14 (75, k14)) h11))))) (K (upd (upd (upd (upd (upd (upd (upd (upd (upd (upd (upd (upd (upd (upd (upd (upd (upd (upd (upd (upd (upd (upd (upd (upd (upd (upd (upd (upd (upd (upd (upd (upd (upd (upd (upd (upd (upd (upd (upd (upd (upd (upd (upd (upd (upd (upd (upd (upd (upd (upd (upd e 18 (SV.val (Value.int .i64 x18))) 16 (SV.val (Value.bool x16))) 15 (SV.val (Value.bool x15))) 14 (SV.priv 14 0)) 13 (SV.val (Value.pointer x13))) 60 (SV.val (Value.bool x15))) 61 (SV.val (Value.bool (!x15)))) 62 (SV.val (Value.bool true))) 63 (SV.val (Value.bool x16))) 64 (SV.val (Value.bool (!x16)))) 65 (SV.val (Value.bool (!x16)))) 66 (SV.val (Value.bool true))) 67 (SV.val (Value.int .i64 x18))) 68 (SV.val (Value.bool ((x18 : Int) == 2)))) 69 (SV.val (Value.bool ((x18 : Int) == 2)))) 70 (SV.val (Value.bool true))) 71 (SV.val (Value.pointer x13))) 72 (SV.val (Value.agg ⟨l1⟩))) 73 (SV.val (Value.int .i64 i4))) 74 (SV.val (Value.bool ((i4 : Int) == 2)))) 75 (SV.val (Value.bool ((i4 : Int) == 2)))) 76 (SV.val (Value.bool true))) 77 (SV.val (Value.pointer x13))) 78 (SV.val (Value.agg ⟨l5⟩))) 79 (SV.val (Value.int .i64 i8))) 80 (SV.val (Value.bool ((i8 : Int) == 2)))) 81 (SV.val (Value.bool ((i8 : Int) == 2)))) 82 (SV.val (Value.bool false))) 83 (SV.val undef)) 84 (SV.val undef)) 85 (SV.val undef)) 86 (SV.val undef)) 87 (SV.val (Value.bool false))) 88 (SV.val (Value.bool false))) 89 (SV.val undef)) 90 (SV.val undef)) 91 (SV.val undef)) 92 (SV.val undef)) 93 (SV.val (Value.bool false))) 94 (SV.val (Value.bool false))) 95 (SV.val undef)) 96 (SV.val undef)) 97 (SV.val undef)) 98 (SV.val undef)) 99 (SV.val (Value.bool false))) 100 (SV.val (Value.bool false))) 101 (SV.val undef)) 102 (SV.val undef)) 103 (SV.val undef)) 104 (SV.val (Value.bool false))) 19 (SV.val (Value.bool false))) (upd V0 14 (75, k14)) h7))))) (K (upd (upd (upd (upd (upd (upd (upd (upd (upd (upd (upd (upd (upd (upd (upd (upd (upd (upd (upd (upd (upd (upd (upd (upd (upd (upd (upd (upd (upd (upd (upd (upd (upd (upd (upd (upd (upd (upd (upd (upd (upd (upd (upd (upd (upd (upd (upd (upd (upd (upd (upd e 18 (SV.val (Value.int .i64 x18))) 16 (SV.val (Value.bool x16))) 15 (SV.val (Value.bool x15))) 14 (SV.priv 14 0)) 13 (SV.val (Value.pointer x13))) 60 (SV.val (Value.bool x15))) 61 (SV.val (Value.bool (!x15)))) 62 (SV.val (Value.bool true))) 63 (SV.val (Value.bool x16))) 64 (SV.val (Value.bool (!x16)))) 65 (SV.val (Value.bool (!x16)))) 66 (SV.val (Value.bool true))) 67 (SV.val (Value.int .i64 x18))) 68 (SV.val (Value.bool ((x18 : Int) == 2)))) 69 (SV.val (Value.bool ((x18 : Int) == 2)))) 70 (SV.val (Value.bool true))) 71 (SV.val (Value.pointer x13))) 72 (SV.val (Value.agg ⟨l1⟩))) 73 (SV.val (Value.int .i64 i4))) 74 (SV.val (Value.bool ((i4 : Int) == 2)))) 75 (SV.val (Value.bool ((i4 : Int) == 2)))) 76 (SV.val (Value.bool false))) 77 (SV.val undef)) 78 (SV.val undef)) 79 (SV.val undef)) 80 (SV.val undef)) 81 (SV.val (Value.bool false))) 82 (SV.val (Value.bool false))) 83 (SV.val undef)) 84 (SV.val undef)) 85 (SV.val undef)) 86 (SV.val undef)) 87 (SV.val (Value.bool false))) 88 (SV.val (Value.bool false))) 89 (SV.val undef)) 90 (SV.val undef)) 91 (SV.val undef)) 92 (SV.val undef)) 93 (SV.val (Value.bool false))) 94 (SV.val (Value.bool false))) 95 (SV.val undef)) 96 (SV.val undef)) 97 (SV.val undef)) 98 (SV.val undef)) 99 (SV.val (Value.bool false))) 100 (SV.val (Value.bool false))) 101 (SV.val undef)) 102 (SV.val undef)) 103 (SV.val undef)) 104 (SV.val (Value.bool false))) 19 (SV.val (Value.bool false))) (upd V0 14 (75, k14)) h3))))) (K (upd (upd (upd (upd (upd (upd (upd (upd (upd (upd (upd (upd (upd (upd (upd (upd (upd (upd (upd (upd (upd (upd (upd (upd (upd (upd (upd (upd (upd (upd (upd (upd (upd (upd (upd (upd (upd (upd (upd (upd (upd (upd (upd (upd (upd (upd (upd (upd (upd (upd (upd e 18 (SV.val (Value.int .i64 x18))) 16 (SV.val (Value.bool x16))) 15 (SV.val (Value.bool x15))) 14 (SV.priv 14 0)) 13 (SV.val (Value.pointer x13))) 60 (SV.val (Value.bool x15))) 61 (SV.val (Value.bool (!x15)))) 62 (SV.val (Value.bool true))) 63 (SV.val (Value.bool x16))) 64 (SV.val (Value.bool (!x16)))) 65 (SV.val (Value.bool (!x16)))) 66 (SV.val (Value.bool true))) 67 (SV.val (Value.int .i64 x18))) 68 (SV.val (Value.bool ((x18 : Int) == 2)))) 69 (SV.val (Value.bool ((x18 : Int) == 2)))) 70 (SV.val (Value.bool false))) 71 (SV.val undef)) 72 (SV.val undef)) 73 (SV.val undef)) 74 (SV.val undef)) 75 (SV.val (Value.bool false))) 76 (SV.val (Value.bool false))) 77 (SV.val undef)) 78 (SV.val undef)) 79 (SV.val undef)) 80 (SV.val undef)) 81 (SV.val (Value.bool false))) 82 (SV.val (Value.bool false))) 83 (SV.val undef)) 84 (SV.val undef)) 85 (SV.val undef)) 86 (SV.val undef)) 87 (SV.val (Value.bool false))) 88 (SV.val (Value.bool false))) 89 (SV.val undef)) 90 (SV.val undef)) 91 (SV.val undef)) 92 (SV.val undef)) 93 (SV.val (Value.bool false))) 94 (SV.val (Value.bool false))) 95 (SV.val undef)) 96 (SV.val undef)) 97 (SV.val undef)) 98 (SV.val undef)) 99 (SV.val (Value.bool false))) 100 (SV.val (Value.bool false))) 101 (SV.val undef)) 102 (SV.val undef)) 103 (SV.val undef)) 104 (SV.val (Value.bool false))) 19 (SV.val (Value.bool false))) (upd V0 14 (75, k14)) hp)) (K (upd (upd (upd (upd (upd (upd (upd (upd (upd (upd (upd (upd (upd (upd (upd (upd (upd (upd (upd (upd (upd (upd (upd (upd (upd (upd (upd (upd (upd (upd (upd (upd (upd (upd (upd (upd (upd (upd (upd (upd (upd (upd (upd (upd (upd (upd (upd (upd (upd (upd (upd e 18 (SV.val (Value.int .i64 x18))) 16 (SV.val (Value.bool x16))) 15 (SV.val (Value.bool x15))) 14 (SV.priv 14 0)) 13 (SV.val (Value.pointer x13))) 60 (SV.val (Value.bool x15))) 61 (SV.val (Value.bool (!x15)))) 62 (SV.val (Value.bool true))) 63 (SV.val (Value.bool x16))) 64 (SV.val (Value.bool (!x16)))) 65 (SV.val (Value.bool (!x16)))) 66 (SV.val (Value.bool false))) 67 (SV.val undef)) 68 (SV.val undef)) 69 (SV.val (Value.bool false))) 70 (SV.val (Value.bool false))) 71 (SV.val undef)) 72 (SV.val undef)) 73 (SV.val undef)) 74 (SV.val undef)) 75 (SV.val (Value.bool false))) 76 (SV.val (Value.bool false))) 77 (SV.val undef)) 78 (SV.val undef)) 79 (SV.val undef)) 80 (SV.val undef)) 81 (SV.val (Value.bool false))) 82 (SV.val (Value.bool false))) 83 (SV.val undef)) 84 (SV.val undef)) 85 (SV.val undef)) 86 (SV.val undef)) 87 (SV.val (Value.bool false))) 88 (SV.val (Value.bool false))) 89 (SV.val undef)) 90 (SV.val undef)) 91 (SV.val undef)) 92 (SV.val undef)) 93 (SV.val (Value.bool false))) 94 (SV.val (Value.bool false))) 95 (SV.val undef)) 96 (SV.val undef)) 97 (SV.val undef)) 98 (SV.val undef)) 99 (SV.val (Value.bool false))) 100 (SV.val (Value.bool false))) 101 (SV.val undef)) 102 (SV.val undef)) 103 (SV.val undef)) 104 (SV.val (Value.bool false))) 19 (SV.val (Value.bool false))) (upd V0 14 (75, k14)) hp)) (K (upd (upd (upd (upd (upd (upd (upd (upd (upd (upd (upd (upd (upd (upd (upd (upd (upd (upd (upd (upd (upd (upd (upd (upd (upd (upd (upd (upd (upd (upd (upd (upd (upd (upd (upd (upd (upd (upd (upd (upd (upd (upd (upd (upd (upd (upd (upd (upd (upd (upd (upd e 18 (SV.val (Value.int .i64 x18))) 16 (SV.val (Value.bool x16))) 15 (SV.val (Value.bool x15))) 14 (SV.priv 14 0)) 13 (SV.val (Value.pointer x13))) 60 (SV.val (Value.bool x15))) 61 (SV.val (Value.bool (!x15)))) 62 (SV.val (Value.bool false))) 63 (SV.val undef)) 64 (SV.val undef)) 65 (SV.val (Value.bool false))) 66 (SV.val (Value.bool false))) 67 (SV.val undef)) 68 (SV.val undef)) 69 (SV.val (Value.bool false))) 70 (SV.val (Value.bool false))) 71 (SV.val undef)) 72 (SV.val undef)) 73 (SV.val undef)) 74 (SV.val undef)) 75 (SV.val (Value.bool false))) 76 (SV.val (Value.bool false))) 77 (SV.val undef)) 78 (SV.val undef)) 79 (SV.val undef)) 80 (SV.val undef)) 81 (SV.val (Value.bool false))) 82 (SV.val (Value.bool false))) 83 (SV.val undef)) 84 (SV.val undef)) 85 (SV.val undef)) 86 (SV.val undef)) 87 (SV.val (Value.bool false))) 88 (SV.val (Value.bool false))) 89 (SV.val undef)) 90 (SV.val undef)) 91 (SV.val undef)) 92 (SV.val undef)) 93 (SV.val (Value.bool false))) 94 (SV.val (Value.bool false))) 95 (SV.val undef)) 96 (SV.val undef)) 97 (SV.val undef)) 98 (SV.val undef)) 99 (SV.val (Value.bool false))) 100 (SV.val (Value.bool false))) 101 (SV.val undef)) 102 (SV.val undef)) 103 (SV.val undef)) 104 (SV.val (Value.bool false))) 19 (SV.val (Value.bool false))) (upd V0 14 (75, k14)) hp)) := by kernel_rfl
def F14_j1 (x0 : Int) (x1 : Int) (x44 : Bool) (hp : HP) (K : Value → HP → Prop) : Prop :=
  (ite2 x44 (K (Value.bool false) hp) (if List.length [(Value.int .u8 0), (Value.int .u8 0), (Value.int .u8 0), (Value.int .u8 0), (Value.int .i64 x0)] = 5 then (if List.all [(Value.int .u8 0), (Value.int .u8 0), (Value.int .u8 0), (Value.int .u8 0), (Value.int .i64 x0)] one = true then (if 0 + List.length [(Value.int .u8 0), (Value.int .u8 0), (Value.int .u8 0), (Value.int .u8 0), (Value.int .i64 x0)] ≤ List.length [(Value.int .u8 0), (Value.int .u8 0), (Value.int .u8 0), (Value.int .u8 0), (Value.int .i64 0)] then (ldL (cellsN (splice [(Value.int .u8 0), (Value.int .u8 0), (Value.int .u8 0), (Value.int .u8 0), (Value.int .i64 0)] 0 [(Value.int .u8 0), (Value.int .u8 0), (Value.int .u8 0), (Value.int .u8 0), (Value.int .i64 x0)]) 0 5) fun l_10 => (CF Try.prog 47 [(Value.pointer none), (Value.agg ⟨l_10⟩)] hp fun u_11 h_12 => (tup2V u_11 fun u_13 u_14 => (boolV u_13 fun q_15 => (boolV u_14 fun q_16 => (CF Try.prog 46 [(Value.pointer none), (Value.agg ⟨[(Value.int .u8 0), (Value.int .u8 0), (Value.int .u8 0), (Value.int .u8 0)]⟩), (Value.int .i64 x0), (Value.bool true)] h_12 fun u_17 h_18 => (tup2V u_17 fun u_19 u_20 => (aggV u_19 fun l_21 => (intV u_20 .i64 fun i_22 => (if List.length l_21 = 5 then (if List.all l_21 one = true then (if 0 + List.length l_21 ≤ List.length [(Value.int .u8 0), (Value.int .u8 0), (Value.int .u8 0), (Value.int .u8 0), (Value.int .i64 0)] then (ite2 (!q_15) (ite2 (!q_16) (ite2 ((i_22 : Int) == 2) (ldL (cellsN (splice [(Value.int .u8 0), (Value.int .u8 0), (Value.int .u8 0), (Value.int .u8 0), (Value.int .i64 0)] 0 [(Value.int .u8 0), (Value.int .u8 0), (Value.int .u8 0), (Value.int .u8 0), (Value.int .i64 x0)]) 0 5) fun l_32 => (CF Try.prog 50 [(Value.pointer none), (Value.agg ⟨l_32⟩)] h_18 fun u_33 h_34 => (intV u_33 .i64 fun i_35 => (ite2 ((i_35 : Int) == 2) (ldL (cellsN (splice [(Value.int .u8 0), (Value.int .u8 0), (Value.int .u8 0), (Value.int .u8 0), (Value.int .i64 0)] 0 [(Value.int .u8 0), (Value.int .u8 0), (Value.int .u8 0), (Value.int .u8 0), (Value.int .i64 x0)]) 0 5) fun l_36 => (CF Try.prog 51 [(Value.pointer none), (Value.agg ⟨l_36⟩)] h_34 fun u_37 h_38 => (intV u_37 .i64 fun i_39 => (ite2 ((i_39 : Int) == 2) (ldL (cellsN (splice [(Value.int .u8 0), (Value.int .u8 0), (Value.int .u8 0), (Value.int .u8 0), (Value.int .i64 0)] 0 [(Value.int .u8 0), (Value.int .u8 0), (Value.int .u8 0), (Value.int .u8 0), (Value.int .i64 x0)]) 0 5) fun l_40 => (CF Try.prog 49 [(Value.pointer none), (Value.agg ⟨l_40⟩)] h_38 fun u_41 h_42 => (intV u_41 .i64 fun i_43 => (ite2 ((i_43 : Int) == 2) (CF Try.prog 48 [(Value.pointer none), (Value.agg ⟨[(Value.int .u8 0), (Value.int .u8 0), (Value.int .u8 0), (Value.int .u8 0)]⟩)] h_42 fun u_44 h_45 => (boolV u_44 fun q_46 => (ite2 (!q_46) (CF Try.prog 45 [(Value.pointer none)] h_45 fun u_47 h_48 => (slcV u_47 fun a_49 n_50 c_51 => (ite2 (((n_50 : Nat) : Int) == 0) (CF Try.prog 54 [(Value.pointer none)] h_48 fun u_52 h_53 => (intV u_52 .i64 fun i_54 => (F14_j2 x0 x1 ((i_54 : Int) == 0) h_53  K))) (F14_j2 x0 x1 false h_48  K)))) (F14_j2 x0 x1 false h_45  K)))) (F14_j2 x0 x1 false h_42  K))))) (F14_j2 x0 x1 false h_38  K))))) (F14_j2 x0 x1 false h_34  K))))) (F14_j2 x0 x1 false h_18  K)) (F14_j2 x0 x1 false h_18  K)) (F14_j2 x0 x1 false h_18  K)) else False) else False) else False)))))))))) else False) else False) else False))
theorem F14_r11 (e : Env) (x2a : Option Addr) (x2n : Nat) (x2c : Nat) (x3 : Int) (x4 : Int) (x11 : Option Addr) (x12 : Int) (hp : HP) (K : Env → PV → HP → Prop) : RW Try.prog 118 [14, 17] (opsAt Try.f14 [1, 1, 1, 0, 0]) (List.range 14) (upd (upd (upd (upd (upd e 12 (SV.val (Value.int .i64 x12))) 11 (SV.val (Value.pointer x11))) 4 (SV.val (Value.int .i64 x4))) 3 (SV.val (Value.int .i64 x3))) 2 (SV.val (Value.slice x2a x2n x2c))) V0 hp K =
    (CF Try.prog 55 [(Value.slice x2a x2n x2c), (Value.int .i64 x3), (Value.int .i64 x4)] hp fun u1 h2 => (boolV u1 fun q3 => (ite2 (!(q3 == ((x12 : Int) == 0))) (K (upd (upd (upd (upd (upd (upd (upd (upd (upd (upd (upd (upd (upd (upd (upd (upd (upd (upd (upd e 12 (SV.val (Value.int .i64 x12))) 11 (SV.val (Value.pointer x11))) 4 (SV.val (Value.int .i64 x4))) 3 (SV.val (Value.int .i64 x3))) 2 (SV.val (Value.slice x2a x2n x2c))) 31 (SV.val (Value.slice x2a x2n x2c))) 32 (SV.val (Value.int .i64 x3))) 33 (SV.val (Value.int .i64 x4))) 34 (SV.val (Value.bool q3))) 35 (SV.val (Value.int .i64 x12))) 36 (SV.val (Value.bool ((x12 : Int) == 0)))) 37 (SV.val (Value.bool (!(q3 == ((x12 : Int) == 0)))))) 38 (SV.val (Value.bool true))) 39 (SV.val undef)) 40 (SV.val undef)) 41 (SV.val undef)) 42 (SV.val undef)) 43 (SV.val undef)) 44 (SV.val (Value.bool true))) V0 h2) (K (upd (upd (upd (upd (upd (upd (upd (upd (upd (upd (upd (upd (upd (upd (upd (upd (upd (upd (upd e 12 (SV.val (Value.int .i64 x12))) 11 (SV.val (Value.pointer x11))) 4 (SV.val (Value.int .i64 x4))) 3 (SV.val (Value.int .i64 x3))) 2 (SV.val (Value.slice x2a x2n x2c))) 31 (SV.val (Value.slice x2a x2n x2c))) 32 (SV.val (Value.int .i64 x3))) 33 (SV.val (Value.int .i64 x4))) 34 (SV.val (Value.bool q3))) 35 (SV.val (Value.int .i64 x12))) 36 (SV.val (Value.bool ((x12 : Int) == 0)))) 37 (SV.val (Value.bool (!(q3 == ((x12 : Int) == 0)))))) 38 (SV.val (Value.bool false))) 39 (SV.val (Value.pointer x11))) 40 (SV.val (Value.bool (Option.isNone x11)))) 41 (SV.val (Value.int .i64 x12))) 42 (SV.val (Value.bool ((x12 : Int) != 0)))) 43 (SV.val (Value.bool (!((Option.isNone x11) == ((x12 : Int) != 0)))))) 44 (SV.val (Value.bool (!((Option.isNone x11) == ((x12 : Int) != 0)))))) V0 h2)))) := by kernel_rfl
def F14 (x0 : Int) (x1 : Int) (x2a : Option Addr) (x2n : Nat) (x2c : Nat) (x3 : Int) (x4 : Int) (hp : HP) (K : Value → HP → Prop) : Prop :=
  (ite2 (decide (((x2n : Nat) : Int) > 10)) (CF Try.prog 21 [] hp fun u_1 h_2 => (boolV u_1 fun q_3 => (K (Value.bool q_3) h_2))) (CF Try.prog 44 [(Value.slice x2a x2n x2c), (Value.int .i64 x3), (Value.int .i64 x4)] hp fun u_4 h_5 => (tup2V u_4 fun u_6 u_7 => (ptrV u_6 fun p_8 => (intV u_7 .i64 fun i_9 => (CF Try.prog 55 [(Value.slice x2a x2n x2c), (Value.int .i64 x3), (Value.int .i64 x4)] h_5 fun u_55 h_56 => (boolV u_55 fun q_57 => (ite2 (!(q_57 == ((i_9 : Int) == 0))) (F14_j1 x0 x1 true h_56  K) (F14_j1 x0 x1 (!((Option.isNone p_8) == ((i_9 : Int) != 0))) h_56  K)))))))))
noncomputable def F14_code : Code := (.seq (.region 0 (opsAt Try.f14 [0]) false) (.seq (.seq (.region 1 (opsAt Try.f14 [1, 0, 0]) false) (.cond (.tmp 22) (.seq (.region 2 (opsAt Try.f14 [1, 0, 1, 0, 0]) false) .ret) .skip)) (.seq (.region 3 (opsAt Try.f14 [1, 1, 0]) false) (.seq (.seq (.region 4 (opsAt Try.f14 [1, 1, 1, 0, 0]) false) (.cond (.tmp 44) (.seq (.region 5 (opsAt Try.f14 [1, 1, 1, 0, 1, 0, 0]) false) .ret) .skip)) (.seq (.region 6 (opsAt Try.f14 [1, 1, 1, 1, 0]) false) (.seq (.region 7 (opsAt Try.f14 [1, 1, 1, 1, 1, 0]) false) (.seq (.region 8 (opsAt Try.f14 [1, 1, 1, 1, 1, 1, 0]) false) (.seq (.region 9 (opsAt Try.f14 [1, 1, 1, 1, 1, 1, 1, 0]) false) (.seq (.region 10 (opsAt Try.f14 [1, 1, 1, 1, 1, 1, 1, 1, 0]) false) (.seq (.region 11 (opsAt Try.f14 [1, 1, 1, 1, 1, 1, 1, 1, 1, 0]) false) .ret))))))))))
theorem F14_body : Try.f14.body = some F14_code := by kernel_rfl
theorem F14_ok (x0 : Int) (x1 : Int) (x2a : Option Addr) (x2n : Nat) (x2c : Nat) (x3 : Int) (x4 : Int) (hp : HP) (K : Value → HP → Prop) (h : F14 x0 x1 x2a x2n x2c x3 x4 hp K) : CF Try.prog 14 [(Value.int .i64 x0), (Value.int .i64 x1), (Value.slice x2a x2n x2c), (Value.int .i64 x3), (Value.int .i64 x4)] hp K := by
  refine ⟨by kernel_rfl, AC.intro (N := 118) Try.func14 F14_body rfl (Nat.le_of_ble_eq_true rfl) ?_⟩
  unfold F14 at h
  unfold F14_code
  refine AWP.seq' ?_
  refine AWP.rgn (F14_r0 (upd (upd (upd (upd (upd E0 4 (SV.val (Value.int .i64 x4))) 3 (SV.val (Value.int .i64 x3))) 2 (SV.val (Value.slice x2a x2n x2c))) 1 (SV.val (Value.int .i64 x1))) 0 (SV.val (Value.int .i64 x0)))  hp _) ?_ (RefOk.v 0 _ (RefOk.v 1 _ (RefOk.v 2 _ (RefOk.v 3 _ (RefOk.v 4 _ (RefOk.nil _)))))) (Sub.cons rfl (Sub.cons rfl (Sub.cons rfl (Sub.cons rfl (Sub.cons rfl (Sub.nil _)))))) (Sub.nil _)
  refine AWP.seq' ?_
  refine AWP.seq' ?_
  refine AWP.rgn (F14_r1 (upd (upd (upd (upd E0 4 (SV.val (Value.int .i64 x4))) 3 (SV.val (Value.int .i64 x3))) 1 (SV.val (Value.int .i64 x1))) 0 (SV.val (Value.int .i64 x0))) x2a x2n x2c hp _) ?_ (RefOk.v 2 _ (RefOk.v 0 _ (RefOk.v 1 _ (RefOk.v 3 _ (RefOk.v 4 _ (RefOk.nil _)))))) (Sub.cons rfl (Sub.cons rfl (Sub.cons rfl (Sub.cons rfl (Sub.cons rfl (Sub.nil _)))))) (Sub.nil _)
  refine AWP.cond (t := (decide (((x2n : Nat) : Int) > 10))) rfl (fun e => ?_) (fun e => ?_)
  · replace h := ite2_t h e
    refine AWP.seq' ?_
    refine AWP.rgn (F14_r2 E0  hp _) ?_ (RefOk.nil _) (Sub.nil _) (Sub.nil _)
    refine CF_mono h (fun u_1 h_2 h => ?_)
    refine boolV_mono h (fun q_3 h => ?_)
    refine AWP.ret ?_
    exact h
  · replace h := ite2_f h e
    refine AWP.skip ?_
    refine AWP.seq' ?_
    refine AWP.rgn (F14_r3 (upd (upd E0 1 (SV.val (Value.int .i64 x1))) 0 (SV.val (Value.int .i64 x0))) x2a x2n x2c x3 x4 hp _) ?_ (RefOk.v 2 _ (RefOk.v 3 _ (RefOk.v 4 _ (RefOk.v 0 _ (RefOk.v 1 _ (RefOk.nil _)))))) (Sub.cons rfl (Sub.cons rfl (Sub.cons rfl (Sub.cons rfl (Sub.cons rfl (Sub.nil _)))))) (Sub.nil _)
    refine CF_mono h (fun u_4 h_5 h => ?_)
    refine tup2V_mono h (fun u_6 u_7 h => ?_)
    refine ptrV_mono h (fun p_8 h => ?_)
    refine intV_mono h (fun i_9 h => ?_)
    refine AWP.seq' ?_
    refine AWP.seq (fun env pv hp => ∃ (x0 : Int) (x1 : Int) (x44 : Bool), Sub (upd (upd (upd E0 44 (SV.val (Value.bool x44))) 1 (SV.val (Value.int .i64 x1))) 0 (SV.val (Value.int .i64 x0))) env ∧ Sub V0 pv ∧ (F14_j1 x0 x1 x44 hp  K)) ?_ ?_
    · refine AWP.rgn (F14_r11 (upd (upd E0 1 (SV.val (Value.int .i64 x1))) 0 (SV.val (Value.int .i64 x0))) x2a x2n x2c x3 x4 p_8 i_9 h_5 _) ?_ (RefOk.v 2 _ (RefOk.v 3 _ (RefOk.v 4 _ (RefOk.v 11 _ (RefOk.v 12 _ (RefOk.v 0 _ (RefOk.v 1 _ (RefOk.nil _)))))))) (Sub.cons rfl (Sub.cons rfl (Sub.cons rfl (Sub.cons rfl (Sub.cons rfl (Sub.cons rfl (Sub.cons rfl (Sub.nil _)))))))) (Sub.nil _)
      refine CF_mono h (fun u_55 h_56 h => ?_)
      refine boolV_mono h (fun q_57 h => ?_)
      refine ite2_mono h (fun h => ?_) (fun h => ?_)
      · exact ⟨x0, x1, true, (Sub.cons rfl (Sub.cons rfl (Sub.cons rfl (Sub.nil _)))), (Sub.nil _), h⟩
      · exact ⟨x0, x1, (!((Option.isNone p_8) == ((i_9 : Int) != 0))), (Sub.cons rfl (Sub.cons rfl (Sub.cons rfl (Sub.nil _)))), (Sub.nil _), h⟩
    · rintro env pv hp ⟨x0, x1, x44, he, hv, h⟩
      refine AWP.sub (env' := (upd (upd (upd E0 44 (SV.val (Value.bool x44))) 1 (SV.val (Value.int .i64 x1))) 0 (SV.val (Value.int .i64 x0)))) (pv' := V0) ?_ (RefOk.v 0 _ (RefOk.v 1 _ (RefOk.v 44 _ (RefOk.nil _)))) he hv (HSub.refl _)
      clear he hv
      unfold F14_j1 at h
      refine AWP.cond (t := x44) rfl (fun e => ?_) (fun e => ?_)
      · replace h := ite2_t h e
        refine AWP.seq' ?_
        refine AWP.rgn (F14_r4 E0  hp _) ?_ (RefOk.nil _) (Sub.nil _) (Sub.nil _)
        refine AWP.ret ?_
        exact h
      · replace h := ite2_f h e
        refine AWP.skip ?_
        refine AWP.seq' ?_
        refine AWP.rgn (F14_r5 (upd (upd E0 1 (SV.val (Value.int .i64 x1))) 0 (SV.val (Value.int .i64 x0)))  hp _) ?_ (RefOk.v 0 _ (RefOk.v 1 _ (RefOk.nil _))) (Sub.cons rfl (Sub.cons rfl (Sub.nil _))) (Sub.nil _)
        refine AWP.seq' ?_
        refine AWP.rgn (F14_r6 (upd (upd E0 13 (SV.val (Value.pointer none))) 1 (SV.val (Value.int .i64 x1))) x0 hp _) ?_ (RefOk.v 0 _ (RefOk.v 1 _ (RefOk.v 13 _ (RefOk.nil _)))) (Sub.cons rfl (Sub.cons rfl (Sub.cons rfl (Sub.nil _)))) (Sub.nil _)
        refine if_mono h (fun h => ?_)
        refine if_mono h (fun h => ?_)
        refine if_mono h (fun h => ?_)
        refine AWP.seq' ?_
        refine AWP.rgn (F14_r7 (upd (upd E0 1 (SV.val (Value.int .i64 x1))) 0 (SV.val (Value.int .i64 x0))) none (splice [(Value.int .u8 0), (Value.int .u8 0), (Value.int .u8 0), (Value.int .u8 0), (Value.int .i64 0)] 0 [(Value.int .u8 0), (Value.int .u8 0), (Value.int .u8 0), (Value.int .u8 0), (Value.int .i64 x0)]) hp _) ?_ (RefOk.v 13 _ (RefOk.p 14 14 0 (RefOk.v 0 _ (RefOk.v 1 _ (RefOk.nil _))) (fun e => by cases e))) (Sub.cons rfl (Sub.cons rfl (Sub.cons rfl (Sub.cons rfl (Sub.nil _))))) (Sub.cons rfl (Sub.nil _))
        refine ldL_mono h (fun l_10 h => ?_)
        refine CF_mono h (fun u_11 h_12 h => ?_)
        refine tup2V_mono h (fun u_13 u_14 h => ?_)
        refine boolV_mono h (fun q_15 h => ?_)
        refine boolV_mono h (fun q_16 h => ?_)
        refine AWP.seq' ?_
        refine AWP.rgn (F14_r8 (upd (upd (upd (upd E0 16 (SV.val (Value.bool q_16))) 15 (SV.val (Value.bool q_15))) 14 (SV.priv 14 0)) 1 (SV.val (Value.int .i64 x1))) x0 none (splice [(Value.int .u8 0), (Value.int .u8 0), (Value.int .u8 0), (Value.int .u8 0), (Value.int .i64 0)] 0 [(Value.int .u8 0), (Value.int .u8 0), (Value.int .u8 0), (Value.int .u8 0), (Value.int .i64 x0)]) h_12 _) ?_ (RefOk.v 0 _ (RefOk.v 13 _ (RefOk.v 1 _ (RefOk.p 14 14 0 (RefOk.v 15 _ (RefOk.v 16 _ (RefOk.nil _))) (fun e => by cases e))))) (Sub.cons rfl (Sub.cons rfl (Sub.cons rfl (Sub.cons rfl (Sub.cons rfl (Sub.cons rfl (Sub.nil _))))))) (Sub.cons rfl (Sub.nil _))
        refine CF_mono h (fun u_17 h_18 h => ?_)
        refine tup2V_mono h (fun u_19 u_20 h => ?_)
        refine aggV_mono h (fun l_21 h => ?_)
        refine intV_mono h (fun i_22 h => ?_)
        refine if_mono h (fun h => ?_)
        refine if_mono h (fun h => ?_)
        refine if_mono h (fun h => ?_)
        refine AWP.seq (fun env pv hp => ∃ (x0 : Int) (x1 : Int) (x19 : Bool), Sub (upd (upd (upd E0 19 (SV.val (Value.bool x19))) 1 (SV.val (Value.int .i64 x1))) 0 (SV.val (Value.int .i64 x0))) env ∧ Sub V0 pv ∧ (F14_j2 x0 x1 x19 hp  K)) ?_ ?_
        · refine AWP.rgn (F14_r10 (upd (upd E0 1 (SV.val (Value.int .i64 x1))) 0 (SV.val (Value.int .i64 x0))) none q_15 q_16 i_22 (splice [(Value.int .u8 0), (Value.int .u8 0), (Value.int .u8 0), (Value.int .u8 0), (Value.int .i64 0)] 0 [(Value.int .u8 0), (Value.int .u8 0), (Value.int .u8 0), (Value.int .u8 0), (Value.int .i64 x0)]) h_18 _) ?_ (RefOk.v 13 _ (RefOk.p 14 14 0 (RefOk.v 15 _ (RefOk.v 16 _ (RefOk.v 18 _ (RefOk.v 0 _ (RefOk.v 1 _ (RefOk.nil _)))))) (fun e => by cases e))) (Sub.cons rfl (Sub.cons rfl (Sub.cons rfl (Sub.cons rfl (Sub.cons rfl (Sub.cons rfl (Sub.cons rfl (Sub.nil _)))))))) (Sub.cons rfl (Sub.nil _))
          refine ite2_mono h (fun h => ?_) (fun h => ?_)
          · refine ite2_mono h (fun h => ?_) (fun h => ?_)
            · refine ite2_mono h (fun h => ?_) (fun h => ?_)
              · refine ldL_mono h (fun l_32 h => ?_)
                refine CF_mono h (fun u_33 h_34 h => ?_)
                refine intV_mono h (fun i_35 h => ?_)
                refine ite2_mono h (fun h => ?_) (fun h => ?_)
                · refine ldL_mono h (fun l_36 h => ?_)
                  refine CF_mono h (fun u_37 h_38 h => ?_)
                  refine intV_mono h (fun i_39 h => ?_)
                  refine ite2_mono h (fun h => ?_) (fun h => ?_)
                  · refine ldL_mono h (fun l_40 h => ?_)
                    refine CF_mono h (fun u_41 h_42 h => ?_)
                    refine intV_mono h (fun i_43 h => ?_)
                    refine ite2_mono h (fun h => ?_) (fun h => ?_)
                    · refine CF_mono h (fun u_44 h_45 h => ?_)
                      refine boolV_mono h (fun q_46 h => ?_)
                      refine ite2_mono h (fun h => ?_) (fun h => ?_)
                      · refine CF_mono h (fun u_47 h_48 h => ?_)
                        refine slcV_mono h (fun a_49 n_50 c_51 h => ?_)
                        refine ite2_mono h (fun h => ?_) (fun h => ?_)
                        · refine CF_mono h (fun u_52 h_53 h => ?_)
                          refine intV_mono h (fun i_54 h => ?_)
                          exact ⟨x0, x1, ((i_54 : Int) == 0), (Sub.cons rfl (Sub.cons rfl (Sub.cons rfl (Sub.nil _)))), (Sub.nil _), h⟩
                        · exact ⟨x0, x1, false, (Sub.cons rfl (Sub.cons rfl (Sub.cons rfl (Sub.nil _)))), (Sub.nil _), h⟩
                      · exact ⟨x0, x1, false, (Sub.cons rfl (Sub.cons rfl (Sub.cons rfl (Sub.nil _)))), (Sub.nil _), h⟩
                    · exact ⟨x0, x1, false, (Sub.cons rfl (Sub.cons rfl (Sub.cons rfl (Sub.nil _)))), (Sub.nil _), h⟩
                  · exact ⟨x0, x1, false, (Sub.cons rfl (Sub.cons rfl (Sub.cons rfl (Sub.nil _)))), (Sub.nil _), h⟩
                · exact ⟨x0, x1, false, (Sub.cons rfl (Sub.cons rfl (Sub.cons rfl (Sub.nil _)))), (Sub.nil _), h⟩
              · exact ⟨x0, x1, false, (Sub.cons rfl (Sub.cons rfl (Sub.cons rfl (Sub.nil _)))), (Sub.nil _), h⟩
            · exact ⟨x0, x1, false, (Sub.cons rfl (Sub.cons rfl (Sub.cons rfl (Sub.nil _)))), (Sub.nil _), h⟩
          · exact ⟨x0, x1, false, (Sub.cons rfl (Sub.cons rfl (Sub.cons rfl (Sub.nil _)))), (Sub.nil _), h⟩
        · rintro env pv hp ⟨x0, x1, x19, he, hv, h⟩
          refine AWP.sub (env' := (upd (upd (upd E0 19 (SV.val (Value.bool x19))) 1 (SV.val (Value.int .i64 x1))) 0 (SV.val (Value.int .i64 x0)))) (pv' := V0) ?_ (RefOk.v 0 _ (RefOk.v 1 _ (RefOk.v 19 _ (RefOk.nil _)))) he hv (HSub.refl _)
          clear he hv
          unfold F14_j2 at h
          refine AWP.seq' ?_
          refine AWP.rgn (F14_r9 E0 x0 x1 x19 hp _) ?_ (RefOk.v 0 _ (RefOk.v 1 _ (RefOk.v 19 _ (RefOk.nil _)))) (Sub.cons rfl (Sub.cons rfl (Sub.cons rfl (Sub.nil _)))) (Sub.nil _)
          refine ite2_mono h (fun h => ?_) (fun h => ?_)
          · refine CF_mono h (fun u_23 h_24 h => ?_)
            refine boolV_mono h (fun q_25 h => ?_)
            refine CF_mono h (fun u_26 h_27 h => ?_)
            refine boolV_mono h (fun q_28 h => ?_)
            refine ite2_mono h (fun h => ?_) (fun h => ?_)
            · refine CF_mono h (fun u_29 h_30 h => ?_)
              refine boolV_mono h (fun q_31 h => ?_)
              refine AWP.ret ?_
              exact h
            · refine AWP.ret ?_
              exact h
          · refine AWP.ret ?_
            exact h

-- 45 (*interpreter/pool.Pool).All
theorem F45_r0 (e : Env) (x0 : Option Addr) (hp : HP) (K : Env → PV → HP → Prop) : RW Try.prog 24 [4] (opsAt Try.f45 [0]) (List.range 2) (upd e 0 (SV.val (Value.pointer x0))) V0 hp K =
    (∀ b1 : Nat, hp b1 = .none → (K (upd (upd (upd e 0 (SV.val (Value.pointer x0))) 1 (SV.val (ptr b1 0))) 2 (SV.val (Value.slice none 0 0))) V0 (HP.set hp b1 (.cells 69 [(Value.pointer x0)] 0)))) := by kernel_rfl
theorem F45_r1 (e : Env) (x1 : Option Addr) (hp : HP) (K : Env → PV → HP → Prop) : RW Try.prog 24 [4] (opsAt Try.f45 [1, 0, 0]) (List.range 2) (upd e 1 (SV.val (Value.pointer x1))) V0 hp K =
    (ptrN x1 fun b1 o2 => (ldV (HP.cell hp b1 o2) fun v3 => (ptrV v3 fun p4 => (K (upd (upd (upd e 1 (SV.val (Value.pointer x1))) 5 (SV.val (Value.pointer p4))) 6 (SV.val (Value.bool (Option.isNone p4)))) V0 hp)))) := by kernel_rfl
theorem F45_r2 (e : Env) (hp : HP) (K : Env → PV → HP → Prop) : RW Try.prog 24 [4] (opsAt Try.f45 [1, 0, 1, 0, 0]) (List.range 1) e V0 hp K =
    (K (upd e 2 (SV.val (Value.slice none 0 0))) V0 hp) := by kernel_rfl
theorem F45_r3 (e : Env) (hp : HP) (K : Env → PV → HP → Prop) : RW Try.prog 24 [4] (opsAt Try.f45 [1, 1, 0]) (List.range 1) e V0 hp K =
    (K (upd e 3 (SV.val (Value.slice none 0 0))) V0 hp) := by kernel_rfl
theorem F45_r4 (e : Env) (x1 : Option Addr) (x3a : Option Addr) (x3n : Nat) (x3c : Nat) (hp : HP) (K : Env → PV → HP → Prop) : RW Try.prog 24 [4] (opsAt Try.f45 [1, 1, 1, 1, 0]) (List.range 3) (upd (upd e 3 (SV.val (Value.slice x3a x3n x3c))) 1 (SV.val (Value.pointer x1))) V0 hp K =
    (CF Try.prog 94 [(Value.slice x3a x3n x3c), (Value.func (.func 95) ⟨[]⟩ ⟨[(Value.pointer x1)]⟩)] hp fun u1 h2 => (K (upd (upd (upd (upd (upd e 3 (SV.val (Value.slice x3a x3n x3c))) 1 (SV.val (Value.pointer x1))) 20 (SV.val (Value.slice x3a x3n x3c))) 21 (SV.val (Value.func (.func 95) ⟨[]⟩ ⟨[(Value.pointer x1)]⟩))) 22 (SV.val u1)) V0 h2)) := by kernel_rfl
theorem F45_r5 (e : Env) (x3a : Option Addr) (x3n : Nat) (x3c : Nat) (hp : HP) (K : Env → PV → HP → Prop) : RW Try.prog 24 [4] (opsAt Try.f45 [1, 1, 1, 1, 1, 0]) (List.range 2) (upd e 3 (SV.val (Value.slice x3a x3n x3c))) V0 hp K =
    (K (upd (upd (upd e 3 (SV.val (Value.slice x3a x3n x3c))) 23 (SV.val (Value.slice x3a x3n x3c))) 2 (SV.val (Value.slice x3a x3n x3c))) V0 hp) := by kernel_rfl
def F45_j1 (x1 : Option Addr) (x3a : Option Addr) (x3n : Nat) (x3c : Nat) (hp : HP) (K : Value → HP → Prop) : Prop :=
  (CF Try.prog 94 [(Value.slice x3a x3n x3c), (Value.func (.func 95) ⟨[]⟩ ⟨[(Value.pointer x1)]⟩)] hp fun u_6 h_7 => (K (Value.slice x3a x3n x3c) h_7))
theorem F45_r6 (e : Env) (x11 : Value) (hp : HP) (K : Env → PV → HP → Prop) : RW Try.prog 24 [4] (opsAt Try.f45 [1, 1, 1, 0, 1, 0, 0, 0]) (List.range 2) (upd e 11 (SV.val x11)) V0 hp K =
    (opS Try.prog (Instr.next x11 false 0) hp fun u1 h2 => (tupI u1 0 fun v3 => (boolV v3 fun q4 => (K (upd (upd (upd e 11 (SV.val x11)) 12 (SV.val u1)) 13 (SV.val (Value.bool q4))) V0 h2)))) := by kernel_rfl
theorem F45_r7 (e : Env) (x11 : Value) (hp : HP) (K : Env → PV → HP → Prop) : RW Try.prog 24 [4] (opsAt Try.f45 [1, 1, 1, 0, 1, 0, 0, 1, 1, 0, 0]) (List.range 4) (upd e 11 (SV.val x11)) V0 hp K =
    (rdS Try.prog (Instr.entry x11) hp fun u1 => (tupI u1 0 fun v2 => (aggV v2 fun l3 => (if List.length l3 = 5 then (if List.all l3 one = true then (if 0 + List.length l3 ≤ List.length [(Value.int .u8 0), (Value.int .u8 0), (Value.int .u8 0), (Value.int .u8 0), (Value.int .i64 0)] then (K (upd (upd (upd (upd e 11 (SV.val x11)) 14 (SV.val u1)) 15 (SV.val (Value.agg ⟨l3⟩))) 4 (SV.priv 4 0)) (upd (upd V0 4 (75, [(Value.int .u8 0), (Value.int .u8 0), (Value.int .u8 0), (Value.int .u8 0), (Value.int .i64 0)])) 4 (75, (splice [(Value.int .u8 0), (Value.int .u8 0), (Value.int .u8 0), (Value.int .u8 0), (Value.int .i64 0)] 0 l3))) hp) else False) else False) else False)))) := by kernel_rfl
theorem F45_r8 (e : Env) (x3a : Option Addr) (x3n : Nat) (x3c : Nat) (k4 : List Value) (hp : HP) (K : Env → PV → HP → Prop) : RW Try.prog 24 [4] (opsAt Try.f45 [1, 1, 1, 0, 1, 0, 0, 1, 1, 0, 1]) (List.range 5) (upd (upd e 4 (SV.priv 4 0)) 3 (SV.val (Value.slice x3a x3n x3c))) (upd V0 4 (75, k4)) hp K =
    (ldL (cellsN k4 0 5) fun l1 => (if List.length l1 = 5 then (∀ b2 : Nat, hp b2 = .none → (opS Try.prog (Builtin.append_ #[79, 79] 79 ⟨[(Value.slice x3a x3n x3c), (Value.slice (some ⟨b2, 0, none⟩) 1 1)]⟩) (HP.set hp b2 (.cells 75 (splice [(Value.int .u8 0), (Value.int .u8 0), (Value.int .u8 0), (Value.int .u8 0), (Value.int .i64 0)] 0 l1) 0)) fun u3 h4 => (slcV u3 fun a5 n6 c7 => (K (upd (upd (upd (upd (upd (upd (upd e 4 (SV.priv 4 0)) 3 (SV.val (Value.slice x3a x3n x3c))) 16 (SV.val (Value.slice x3a x3n x3c))) 17 (SV.val (Value.agg ⟨l1⟩))) 18 (SV.val (Value.slice (some ⟨b2, 0, none⟩) 1 1))) 19 (SV.val (Value.slice a5 n6 c7))) 3 (SV.val (Value.slice a5 n6 c7))) (upd V0 4 (75, k4)) h4)))) else False)) := by kernel_rfl
def F45_l3 (x1 : Option Addr) (x11 : Value) (K : Value → HP → Prop) (I3 : ((Option Addr) × Nat × Nat) → HP → Prop) (x3a : Option Addr) (x3n : Nat) (x3c : Nat) (hp : HP) : Prop :=
  (opS Try.prog (Instr.next x11 false 0) hp fun u_8 h_9 => (tupI u_8 0 fun v_10 => (boolV v_10 fun q_11 => (ite2 q_11 (rdS Try.prog (Instr.entry x11) h_9 fun u_12 => (tupI u_12 0 fun v_13 => (aggV v_13 fun l_14 => (if List.length l_14 = 5 then (if List.all l_14 one = true then (if 0 + List.length l_14 ≤ List.length [(Value.int .u8 0), (Value.int .u8 0), (Value.int .u8 0), (Value.int .u8 0), (Value.int .i64 0)] then (ldL (cellsN (splice [(Value.int .u8 0), (Value.int .u8 0), (Value.int .u8 0), (Value.int .u8 0), (Value.int .i64 0)] 0 l_14) 0 5) fun l_15 => (if List.length l_15 = 5 then (∀ b_16 : Nat, h_9 b_16 = .none → (opS Try.prog (Builtin.append_ #[79, 79] 79 ⟨[(Value.slice x3a x3n x3c), (Value.slice (some ⟨b_16, 0, none⟩) 1 1)]⟩) (HP.set h_9 b_16 (.cells 75 (splice [(Value.int .u8 0), (Value.int .u8 0), (Value.int .u8 0), (Value.int .u8 0), (Value.int .i64 0)] 0 l_15) 0)) fun u_17 h_18 => (slcV u_17 fun a_19 n_20 c_21 => (I3 (a_19, n_20, c_21) h_18)))) else False)) else False) else False) else False)))) (F45_j1 x1 x3a x3n x3c h_9  K)))))
def F45_j2 (x1 : Option Addr) (x3a : Option Addr) (x3n : Nat) (x3c : Nat) (x11 : Value) (hp : HP) (K : Value → HP → Prop) : Prop :=
  (LoopP (σ := (Option Addr) × Nat × Nat) (fun I s hp => F45_l3 x1 x11  K I s.1 s.2.1 s.2.2 hp) (x3a, x3n, x3c) hp)
theorem F45_r9 (e : Env) (x1 : Option Addr) (hp : HP) (K : Env → PV → HP → Prop) : RW Try.prog 24 [4] (opsAt Try.f45 [1, 1, 1, 0, 0]) (List.range 5) (upd e 1 (SV.val (Value.pointer x1))) V0 hp K =
    (ptrN x1 fun b1 o2 => (ldV (HP.cell hp b1 o2) fun v3 => (ptrV v3 fun p4 => (ptrN p4 fun b5 o6 => (ldV (HP.cell hp b5 (o6 + 3)) fun v7 => (mapV v7 fun m8 => (opS Try.prog (Instr.range 158 (Value.map m8)) hp fun u9 h10 => (K (upd (upd (upd (upd (upd (upd e 1 (SV.val (Value.pointer x1))) 7 (SV.val (Value.pointer p4))) 8 (SV.val (ptr b5 o6))) 9 (SV.val (ptr b5 (o6 + 3)))) 10 (SV.val (Value.map m8))) 11 (SV.val u9)) V0 h10)))))))) := by kernel_rfl
def F45 (x0 : Option Addr) (hp : HP) (K : Value → HP → Prop) : Prop :=
  (∀ b_1 : Nat, hp b_1 = .none → (ptrN (some ⟨b_1, 0, none⟩) fun b_2 o_3 => (ldV (HP.cell (HP.set hp b_1 (.cells 69 [(Value.pointer x0)] 0)) b_2 o_3) fun v_4 => (ptrV v_4 fun p_5 => (ite2 (Option.isNone p_5) (K (Value.slice none 0 0) (HP.set hp b_1 (.cells 69 [(Value.pointer x0)] 0))) (ptrN (some ⟨b_1, 0, none⟩) fun b_22 o_23 => (ldV (HP.cell (HP.set hp b_1 (.cells 69 [(Value.pointer x0)] 0)) b_22 o_23) fun v_24 => (ptrV v_24 fun p_25 => (ptrN p_25 fun b_26 o_27 => (ldV (HP.cell (HP.set hp b_1 (.cells 69 [(Value.pointer x0)] 0)) b_26 (o_27 + 3)) fun v_28 => (mapV v_28 fun m_29 => (opS Try.prog (Instr.range 158 (Value.map m_29)) (HP.set hp b_1 (.cells 69 [(Value.pointer x0)] 0)) fun u_30 h_31 => (F45_j2 (some ⟨b_1, 0, none⟩) none 0 0 u_30 h_31  K)))))))))))))
noncomputable def F45_code : Code := (.seq (.region 0 (opsAt Try.f45 [0]) false) (.seq (.seq (.region 1 (opsAt Try.f45 [1, 0, 0]) false) (.cond (.tmp 6) (.seq (.region 2 (opsAt Try.f45 [1, 0, 1, 0, 0]) false) .ret) .skip)) (.seq (.region 3 (opsAt Try.f45 [1, 1, 0]) false) (.seq (.seq (.region 4 (opsAt Try.f45 [1, 1, 1, 0, 0]) false) (.block 0 (.loop (.seq (.region 5 (opsAt Try.f45 [1, 1, 1, 0, 1, 0, 0, 0]) false) (.seq (.cond (.tmp 13) .skip (.exit 0)) (.block 1 (.seq (.region 6 (opsAt Try.f45 [1, 1, 1, 0, 1, 0, 0, 1, 1, 0, 0]) false) (.region 7 (opsAt Try.f45 [1, 1, 1, 0, 1, 0, 0, 1, 1, 0, 1]) false)))))))) (.seq (.region 8 (opsAt Try.f45 [1, 1, 1, 1, 0]) false) (.seq (.region 9 (opsAt Try.f45 [1, 1, 1, 1, 1, 0]) false) .ret))))))
theorem F45_body : Try.f45.body = some F45_code := by kernel_rfl
theorem F45_ok (x0 : Option Addr) (hp : HP) (K : Value → HP → Prop) (h : F45 x0 hp K) : CF Try.prog 45 [(Value.pointer x0)] hp K := by
  refine ⟨by kernel_rfl, AC.intro (N := 24) Try.func45 F45_body rfl (Nat.le_of_ble_eq_true rfl) ?_⟩
  unfold F45 at h
  unfold F45_code
  refine AWP.seq' ?_
  refine AWP.rgn (F45_r0 E0 x0 hp _) ?_ (RefOk.v 0 _ (RefOk.nil _)) (Sub.cons rfl (Sub.nil _)) (Sub.nil _)
  refine fun b_1 hb_b_1 => ?_
  replace h := h b_1 hb_b_1
  refine AWP.seq' ?_
  refine AWP.seq' ?_
  refine AWP.rgn (F45_r1 E0 (some ⟨b_1, 0, none⟩) (HP.set hp b_1 (.cells 69 [(Value.pointer x0)] 0)) _) ?_ (RefOk.v 1 _ (RefOk.nil _)) (Sub.cons rfl (Sub.nil _)) (Sub.nil _)
  refine ptrN_mono h (fun b_2 o_3 h => ?_)
  refine ldV_mono h (fun v_4 h => ?_)
  refine ptrV_mono h (fun p_5 h => ?_)
  refine AWP.cond (t := (Option.isNone p_5)) rfl (fun e => ?_) (fun e => ?_)
  · replace h := ite2_t h e
    refine AWP.seq' ?_
    refine AWP.rgn (F45_r2 E0  (HP.set hp b_1 (.cells 69 [(Value.pointer x0)] 0)) _) ?_ (RefOk.nil _) (Sub.nil _) (Sub.nil _)
    refine AWP.ret ?_
    exact h
  · replace h := ite2_f h e
    refine AWP.skip ?_
    refine AWP.seq' ?_
    refine AWP.rgn (F45_r3 (upd E0 1 (SV.val (Value.pointer (some ⟨b_1, 0, none⟩))))  (HP.set hp b_1 (.cells 69 [(Value.pointer x0)] 0)) _) ?_ (RefOk.v 1 _ (RefOk.nil _)) (Sub.cons rfl (Sub.nil _)) (Sub.nil _)
    refine AWP.seq (fun env pv hp => ∃ (x1 : Option Addr) (x3a : Option Addr) (x3n : Nat) (x3c : Nat), Sub (upd (upd E0 3 (SV.val (Value.slice x3a x3n x3c))) 1 (SV.val (Value.pointer x1))) env ∧ Sub V0 pv ∧ (F45_j1 x1 x3a x3n x3c hp  K)) ?_ ?_
    · refine AWP.seq (fun env pv hp => ∃ (x1 : Option Addr) (x3a : Option Addr) (x3n : Nat) (x3c : Nat) (x11 : Value), Sub (upd (upd (upd E0 11 (SV.val x11)) 3 (SV.val (Value.slice x3a x3n x3c))) 1 (SV.val (Value.pointer x1))) env ∧ Sub V0 pv ∧ (F45_j2 x1 x3a x3n x3c x11 hp  K)) ?_ ?_
      · refine AWP.rgn (F45_r9 (upd E0 3 (SV.val (Value.slice none 0 0))) (some ⟨b_1, 0, none⟩) (HP.set hp b_1 (.cells 69 [(Value.pointer x0)] 0)) _) ?_ (RefOk.v 1 _ (RefOk.v 3 _ (RefOk.nil _))) (Sub.cons rfl (Sub.cons rfl (Sub.nil _))) (Sub.nil _)
        refine ptrN_mono h (fun b_22 o_23 h => ?_)
        refine ldV_mono h (fun v_24 h => ?_)
        refine ptrV_mono h (fun p_25 h => ?_)
        refine ptrN_mono h (fun b_26 o_27 h => ?_)
        refine ldV_mono h (fun v_28 h => ?_)
        refine mapV_mono h (fun m_29 h => ?_)
        refine opS_mono h (fun u_30 h_31 h => ?_)
        exact ⟨(some ⟨b_1, 0, none⟩), none, 0, 0, u_30, (Sub.cons rfl (Sub.cons rfl (Sub.cons rfl (Sub.nil _)))), (Sub.nil _), h⟩
      · rintro env pv hp ⟨x1, x3a, x3n, x3c, x11, he, hv, h⟩
        refine AWP.sub (env' := (upd (upd (upd E0 11 (SV.val x11)) 3 (SV.val (Value.slice x3a x3n x3c))) 1 (SV.val (Value.pointer x1)))) (pv' := V0) ?_ (RefOk.v 1 _ (RefOk.v 3 _ (RefOk.v 11 _ (RefOk.nil _)))) he hv (HSub.refl _)
        clear he hv
        unfold F45_j2 at h
        refine AWP.block ?_
        refine AWP.loop (σ := (Option Addr) × Nat × Nat) (fun I s hp => F45_l3 x1 x11  K I s.1 s.2.1 s.2.2 hp) (fun s => (upd (upd (upd E0 11 (SV.val x11)) 3 (SV.val (Value.slice s.1 s.2.1 s.2.2))) 1 (SV.val (Value.pointer x1)))) (fun s => V0) (x3a, x3n, x3c) h (fun s => (RefOk.v 1 _ (RefOk.v 3 _ (RefOk.v 11 _ (RefOk.nil _))))) (Sub.cons rfl (Sub.cons rfl (Sub.cons rfl (Sub.nil _)))) (Sub.nil _) ?_
        intro I3 s hp h
        obtain ⟨x3a, x3n, x3c⟩ := s
        replace h : F45_l3 x1 x11  K I3 x3a x3n x3c hp := h
        unfold F45_l3 at h
        refine AWP.seq' ?_
        refine AWP.rgn (F45_r6 (upd (upd E0 3 (SV.val (Value.slice x3a x3n x3c))) 1 (SV.val (Value.pointer x1))) x11 hp _) ?_ (RefOk.v 11 _ (RefOk.v 1 _ (RefOk.v 3 _ (RefOk.nil _)))) (Sub.cons rfl (Sub.cons rfl (Sub.cons rfl (Sub.nil _)))) (Sub.nil _)
        refine opS_mono h (fun u_8 h_9 h => ?_)
        refine tupI_mono h (fun v_10 h => ?_)
        refine boolV_mono h (fun q_11 h => ?_)
        refine AWP.seq' ?_
        refine AWP.cond (t := q_11) rfl (fun e => ?_) (fun e => ?_)
        · replace h := ite2_t h e
          refine AWP.skip ?_
          refine AWP.block ?_
          refine AWP.seq' ?_
          refine AWP.rgn (F45_r7 (upd (upd E0 3 (SV.val (Value.slice x3a x3n x3c))) 1 (SV.val (Value.pointer x1))) x11 h_9 _) ?_ (RefOk.v 11 _ (RefOk.v 1 _ (RefOk.v 3 _ (RefOk.nil _)))) (Sub.cons rfl (Sub.cons rfl (Sub.cons rfl (Sub.nil _)))) (Sub.nil _)
          refine rdS_mono h (fun u_12 h => ?_)
          refine tupI_mono h (fun v_13 h => ?_)
          refine aggV_mono h (fun l_14 h => ?_)
          refine if_mono h (fun h => ?_)
          refine if_mono h (fun h => ?_)
          refine if_mono h (fun h => ?_)
          refine AWP.rgn (F45_r8 (upd (upd E0 11 (SV.val x11)) 1 (SV.val (Value.pointer x1))) x3a x3n x3c (splice [(Value.int .u8 0), (Value.int .u8 0), (Value.int .u8 0), (Value.int .u8 0), (Value.int .i64 0)] 0 l_14) h_9 _) ?_ (RefOk.v 3 _ (RefOk.p 4 4 0 (RefOk.v 1 _ (RefOk.v 11 _ (RefOk.nil _))) (fun e => by cases e))) (Sub.cons rfl (Sub.cons rfl (Sub.cons rfl (Sub.cons rfl (Sub.nil _))))) (Sub.cons rfl (Sub.nil _))
          refine ldL_mono h (fun l_15 h => ?_)
          refine if_mono h (fun h => ?_)
          refine fun b_16 hb_b_16 => ?_
          replace h := h b_16 hb_b_16
          refine opS_mono h (fun u_17 h_18 h => ?_)
          refine slcV_mono h (fun a_19 n_20 c_21 h => ?_)
          exact ⟨(a_19, n_20, c_21), (Sub.cons rfl (Sub.cons rfl (Sub.cons rfl (Sub.nil _)))), (Sub.nil _), h⟩
        · replace h := ite2_f h e
          refine AWP.exit ?_
          exact ⟨x1, x3a, x3n, x3c, (Sub.cons rfl (Sub.cons rfl (Sub.nil _))), (Sub.nil _), h⟩
    · rintro env pv hp ⟨x1, x3a, x3n, x3c, he, hv, h⟩
      refine AWP.sub (env' := (upd (upd E0 3 (SV.val (Value.slice x3a x3n x3c))) 1 (SV.val (Value.pointer x1)))) (pv' := V0) ?_ (RefOk.v 1 _ (RefOk.v 3 _ (RefOk.nil _))) he hv (HSub.refl _)
      clear he hv
      unfold F45_j1 at h
      refine AWP.seq' ?_
      refine AWP.rgn (F45_r4 E0 x1 x3a x3n x3c hp _) ?_ (RefOk.v 1 _ (RefOk.v 3 _ (RefOk.nil _))) (Sub.cons rfl (Sub.cons rfl (Sub.nil _))) (Sub.nil _)
      refine CF_mono h (fun u_6 h_7 h => ?_)
      refine AWP.seq' ?_
      refine AWP.rgn (F45_r5 E0 x3a x3n x3c h_7 _) ?_ (RefOk.v 3 _ (RefOk.nil _)) (Sub.cons rfl (Sub.nil _)) (Sub.nil _)
      refine AWP.ret ?_
      exact h

-- 47 (*interpreter/pool.Pool).Is
theorem F47_r0 (e : Env) (x1 : List Value) (hp : HP) (K : Env → PV → HP → Prop) : RW Try.prog 26 [3] (opsAt Try.f47 [0]) (List.range 3) (upd e 1 (SV.val (Value.agg ⟨x1⟩))) V0 hp K =
    (K (upd (upd (upd (upd e 1 (SV.val (Value.agg ⟨x1⟩))) 3 (SV.priv 3 0)) 4 (SV.val (Value.bool false))) 5 (SV.val (Value.bool false))) (upd V0 3 (75, x1)) hp) := by kernel_rfl
theorem F47_r1 (e : Env) (x0 : Option Addr) (k3 : List Value) (hp : HP) (K : Env → PV → HP → Prop) : RW Try.prog 26 [3] (opsAt Try.f47 [1, 0, 0]) (List.range 4) (upd (upd e 3 (SV.priv 3 0)) 0 (SV.val (Value.pointer x0))) (upd V0 3 (75, k3)) hp K =
    (ldL (cellsN k3 0 5) fun l1 => (CF Try.prog 100 [(Value.pointer x0), (Value.agg ⟨l1⟩)] hp fun u2 h3 => (intV u2 .i64 fun i4 => (K (upd (upd (upd (upd (upd (upd e 3 (SV.priv 3 0)) 0 (SV.val (Value.pointer x0))) 7 (SV.val (Value.pointer x0))) 8 (SV.val (Value.agg ⟨l1⟩))) 9 (SV.val (Value.int .i64 i4))) 10 (SV.val (Value.bool ((i4 : Int) != 0)))) (upd V0 3 (75, k3)) h3)))) := by kernel_rfl
theorem F47_r2 (e : Env) (hp : HP) (K : Env → PV → HP → Prop) : RW Try.prog 26 [3] (opsAt Try.f47 [1, 0, 1, 0, 0]) (List.range 2) e V0 hp K =
    (K (upd (upd e 4 (SV.val (Value.bool false))) 5 (SV.val (Value.bool false))) V0 hp) := by kernel_rfl
theorem F47_r3 (e : Env) (x0 : Option Addr) (k3 : List Value) (hp : HP) (K : Env → PV → HP → Prop) : RW Try.prog 26 [3] (opsAt Try.f47 [1, 1, 0]) (List.range 11) (upd (upd e 3 (SV.priv 3 0)) 0 (SV.val (Value.pointer x0))) (upd V0 3 (75, k3)) hp K =
    (ptrN x0 fun b1 o2 => (ldV (HP.cell hp b1 (o2 + 3)) fun v3 => (mapV v3 fun m4 => (ldL (cellsN k3 0 5) fun l5 => (rdS Try.prog (Instr.lookup 158 (Value.map m4) (Value.agg ⟨l5⟩) true) hp fun u6 => (tup2V u6 fun u7 u8 => (boolV u7 fun q9 => (boolV u8 fun q10 => (K (upd (upd (upd (upd (upd (upd (upd (upd (upd (upd (upd (upd (upd e 3 (SV.priv 3 0)) 0 (SV.val (Value.pointer x0))) 12 (SV.val (Value.pointer x0))) 13 (SV.val (ptr b1 o2))) 14 (SV.val (ptr b1 (o2 + 3)))) 15 (SV.val (Value.map m4))) 16 (SV.val (Value.agg ⟨l5⟩))) 17 (SV.val (Value.tuple ⟨[(Value.bool q9), (Value.bool q10)]⟩))) 11 (SV.val (Value.tuple ⟨[(Value.bool q9), (Value.bool q10)]⟩))) 18 (SV.val (Value.bool q9))) 19 (SV.val (Value.bool q10))) 5 (SV.val (Value.bool q9))) 6 (SV.val (Value.bool q10))) (upd V0 3 (75, k3)) hp))))))))) := by kernel_rfl
theorem F47_r4 (e : Env) (x5 : Bool) (x6 : Bool) (hp : HP) (K : Env → PV → HP → Prop) : RW Try.prog 26 [3] (opsAt Try.f47 [1, 1, 1, 0]) (List.range 8) (upd (upd e 6 (SV.val (Value.bool x6))) 5 (SV.val (Value.bool x5))) V0 hp K =
    (ite2 x6 (K (upd (upd (upd (upd (upd (upd (upd (upd (upd (upd e 6 (SV.val (Value.bool x6))) 5 (SV.val (Value.bool x5))) 20 (SV.val (Value.bool x6))) 21 (SV.val (Value.bool true))) 22 (SV.val (Value.bool x5))) 23 (SV.val (Value.bool (!x5)))) 24 (SV.val (Value.bool (!x5)))) 25 (SV.val (Value.bool x5))) 4 (SV.val (Value.bool (!x5)))) 5 (SV.val (Value.bool x5))) V0 hp) (K (upd (upd (upd (upd (upd (upd (upd (upd (upd (upd e 6 (SV.val (Value.bool x6))) 5 (SV.val (Value.bool x5))) 20 (SV.val (Value.bool x6))) 21 (SV.val (Value.bool false))) 22 (SV.val undef)) 23 (SV.val undef)) 24 (SV.val (Value.bool false))) 25 (SV.val (Value.bool x5))) 4 (SV.val (Value.bool false))) 5 (SV.val (Value.bool x5))) V0 hp)) := by kernel_rfl
def F47 (x0 : Option Addr) (x1 : List Value) (hp : HP) (K : Value → HP → Prop) : Prop :=
  (ldL (cellsN x1 0 5) fun l_1 => (CF Try.prog 100 [(Value.pointer x0), (Value.agg ⟨l_1⟩)] hp fun u_2 h_3 => (intV u_2 .i64 fun i_4 => (ite2 ((i_4 : Int) != 0) (K (.tuple ⟨[(Value.bool false), (Value.bool false)]⟩) h_3) (ptrN x0 fun b_5 o_6 => (ldV (HP.cell h_3 b_5 (o_6 + 3)) fun v_7 => (mapV v_7 fun m_8 => (ldL (cellsN x1 0 5) fun l_9 => (rdS Try.prog (Instr.lookup 158 (Value.map m_8) (Value.agg ⟨l_9⟩) true) h_3 fun u_10 => (tup2V u_10 fun u_11 u_12 => (boolV u_11 fun q_13 => (boolV u_12 fun q_14 => (ite2 q_14 (K (.tuple ⟨[(Value.bool (!q_13)), (Value.bool q_13)]⟩) h_3) (K (.tuple ⟨[(Value.bool false), (Value.bool q_13)]⟩) h_3))))))))))))))
noncomputable def F47_code : Code := (.seq (.region 0 (opsAt Try.f47 [0]) false) (.seq (.seq (.region 1 (opsAt Try.f47 [1, 0, 0]) false) (.cond (.tmp 10) (.seq (.region 2 (opsAt Try.f47 [1, 0, 1, 0, 0]) false) .ret) .skip)) (.seq (.region 3 (opsAt Try.f47 [1, 1, 0]) true) (.seq (.region 4 (opsAt Try.f47 [1, 1, 1, 0]) false) .ret))))
theorem F47_body : Try.f47.body = some F47_code := by kernel_rfl
theorem F47_ok (x0 : Option Addr) (x1 : List Value) (hp : HP) (K : Value → HP → Prop) (h : F47 x0 x1 hp K) : CF Try.prog 47 [(Value.pointer x0), (Value.agg ⟨x1⟩)] hp K := by
  refine ⟨by kernel_rfl, AC.intro (N := 26) Try.func47 F47_body rfl (Nat.le_of_ble_eq_true rfl) ?_⟩
  unfold F47 at h
  unfold F47_code
  refine AWP.seq' ?_
  refine AWP.rgn (F47_r0 (upd E0 0 (SV.val (Value.pointer x0))) x1 hp _) ?_ (RefOk.v 1 _ (RefOk.v 0 _ (RefOk.nil _))) (Sub.cons rfl (Sub.cons rfl (Sub.nil _))) (Sub.nil _)
  refine AWP.seq' ?_
  refine AWP.seq' ?_
  refine AWP.rgn (F47_r1 E0 x0 x1 hp _) ?_ (RefOk.v 0 _ (RefOk.p 3 3 0 (RefOk.nil _) (fun e => by cases e))) (Sub.cons rfl (Sub.cons rfl (Sub.nil _))) (Sub.cons rfl (Sub.nil _))
  refine ldL_mono h (fun l_1 h => ?_)
  refine CF_mono h (fun u_2 h_3 h => ?_)
  refine intV_mono h (fun i_4 h => ?_)
  refine AWP.cond (t := ((i_4 : Int) != 0)) rfl (fun e => ?_) (fun e => ?_)
  · replace h := ite2_t h e
    refine AWP.seq' ?_
    refine AWP.rgn (F47_r2 E0  h_3 _) ?_ (RefOk.nil _) (Sub.nil _) (Sub.nil _)
    refine AWP.ret ?_
    exact h
  · replace h := ite2_f h e
    refine AWP.skip ?_
    refine AWP.seq' ?_
    refine AWP.rgnD (by kernel_rfl) (by kernel_rfl) (F47_r3 E0 x0 x1 h_3 _) ?_ (RefOk.v 0 _ (RefOk.p 3 3 0 (RefOk.nil _) (fun e => by cases e))) (Sub.cons rfl (Sub.cons rfl (Sub.nil _))) (Sub.cons rfl (Sub.nil _))
    refine ptrN_mono h (fun b_5 o_6 h => ?_)
    refine ldV_mono h (fun v_7 h => ?_)
    refine mapV_mono h (fun m_8 h => ?_)
    refine ldL_mono h (fun l_9 h => ?_)
    refine rdS_mono h (fun u_10 h => ?_)
    refine tup2V_mono h (fun u_11 u_12 h => ?_)
    refine boolV_mono h (fun q_13 h => ?_)
    refine boolV_mono h (fun q_14 h => ?_)
    refine AWP.seq' ?_
    refine AWP.rgn (F47_r4 E0 q_13 q_14 h_3 _) ?_ (RefOk.v 5 _ (RefOk.v 6 _ (RefOk.nil _))) (Sub.cons rfl (Sub.cons rfl (Sub.nil _))) (Sub.nil _)
    refine ite2_mono h (fun h => ?_) (fun h => ?_)
    · refine AWP.ret ?_
      exact h
    · refine AWP.ret ?_
      exact h

-- 48 (*interpreter/pool.Pool).Has
theorem F48_r0 (e : Env) (x1 : List Value) (hp : HP) (K : Env → PV → HP → Prop) : RW Try.prog 10 [3] (opsAt Try.f48 [0]) (List.range 2) (upd e 1 (SV.val (Value.agg ⟨x1⟩))) V0 hp K =
    (K (upd (upd (upd e 1 (SV.val (Value.agg ⟨x1⟩))) 3 (SV.priv 3 0)) 4 (SV.val (Value.bool false))) (upd V0 3 (73, x1)) hp) := by kernel_rfl
theorem F48_r1 (e : Env) (x0 : Option Addr) (k3 : List Value) (hp : HP) (K : Env → PV → HP → Prop) : RW Try.prog 10 [3] (opsAt Try.f48 [1, 0]) (List.range 6) (upd (upd e 3 (SV.priv 3 0)) 0 (SV.val (Value.pointer x0))) (upd V0 3 (73, k3)) hp K =
    (ldL (cellsN k3 0 4) fun l1 => (if List.length l1 = 4 then (CF Try.prog 100 [(Value.pointer x0), (Value.agg ⟨(splice [(Value.int .u8 0), (Value.int .u8 0), (Value.int .u8 0), (Value.int .u8 0), (Value.int .i64 0)] 0 l1)⟩)] hp fun u2 h3 => (intV u2 .i64 fun i4 => (K (upd (upd (upd (upd (upd (upd (upd (upd e 3 (SV.priv 3 0)) 0 (SV.val (Value.pointer x0))) 5 (SV.val (Value.pointer x0))) 6 (SV.val (Value.agg ⟨l1⟩))) 7 (SV.val (Value.agg ⟨(splice [(Value.int .u8 0), (Value.int .u8 0), (Value.int .u8 0), (Value.int .u8 0), (Value.int .i64 0)] 0 l1)⟩))) 8 (SV.val (Value.int .i64 i4))) 9 (SV.val (Value.bool ((i4 : Int) == 0)))) 4 (SV.val (Value.bool ((i4 : Int) == 0)))) (upd V0 3 (73, k3)) h3))) else False)) := by kernel_rfl
def F48 (x0 : Option Addr) (x1 : List Value) (hp : HP) (K : Value → HP → Prop) : Prop :=
  (ldL (cellsN x1 0 4) fun l_1 => (if List.length l_1 = 4 then (CF Try.prog 100 [(Value.pointer x0), (Value.agg ⟨(splice [(Value.int .u8 0), (Value.int .u8 0), (Value.int .u8 0), (Value.int .u8 0), (Value.int .i64 0)] 0 l_1)⟩)] hp fun u_2 h_3 => (intV u_2 .i64 fun i_4 => (K (Value.bool ((i_4 : Int) == 0)) h_3))) else False))
noncomputable def F48_code : Code := (.seq (.region 0 (opsAt Try.f48 [0]) false) (.seq (.region 1 (opsAt Try.f48 [1, 0]) false) .ret))
theorem F48_body : Try.f48.body = some F48_code := by kernel_rfl
theorem F48_ok (x0 : Option Addr) (x1 : List Value) (hp : HP) (K : Value → HP → Prop) (h : F48 x0 x1 hp K) : CF Try.prog 48 [(Value.pointer x0), (Value.agg ⟨x1⟩)] hp K := by
  refine ⟨by kernel_rfl, AC.intro (N := 10) Try.func48 F48_body rfl (Nat.le_of_ble_eq_true rfl) ?_⟩
  unfold F48 at h
  unfold F48_code
  refine AWP.seq' ?_
  refine AWP.rgn (F48_r0 (upd E0 0 (SV.val (Value.pointer x0))) x1 hp _) ?_ (RefOk.v 1 _ (RefOk.v 0 _ (RefOk.nil _))) (Sub.cons rfl (Sub.cons rfl (Sub.nil _))) (Sub.nil _)
  refine AWP.seq' ?_
  refine AWP.rgn (F48_r1 E0 x0 x1 hp _) ?_ (RefOk.v 0 _ (RefOk.p 3 3 0 (RefOk.nil _) (fun e => by cases e))) (Sub.cons rfl (Sub.cons rfl (Sub.nil _))) (Sub.cons rfl (Sub.nil _))
  refine ldL_mono h (fun l_1 h => ?_)
  refine if_mono h (fun h => ?_)
  refine CF_mono h (fun u_2 h_3 h => ?_)
  refine intV_mono h (fun i_4 h => ?_)
  refine AWP.ret ?_
  exact h

-- 49 (*interpreter/pool.Pool).Give
theorem F49_r0 (e : Env) (x1 : List Value) (hp : HP) (K : Env → PV → HP → Prop) : RW Try.prog 33 [3] (opsAt Try.f49 [0]) (List.range 2) (upd e 1 (SV.val (Value.agg ⟨x1⟩))) V0 hp K =
    (K (upd (upd (upd e 1 (SV.val (Value.agg ⟨x1⟩))) 3 (SV.priv 3 0)) 4 (SV.val (Value.int .i64 0))) (upd V0 3 (75, x1)) hp) := by kernel_rfl
theorem F49_r1 (e : Env) (x0 : Option Addr) (k3 : List Value) (hp : HP) (K : Env → PV → HP → Prop) : RW Try.prog 33 [3] (opsAt Try.f49 [1, 0, 0]) (List.range 4) (upd (upd e 3 (SV.priv 3 0)) 0 (SV.val (Value.pointer x0))) (upd V0 3 (75, k3)) hp K =
    (ldL (cellsN k3 0 5) fun l1 => (CF Try.prog 100 [(Value.pointer x0), (Value.agg ⟨l1⟩)] hp fun u2 h3 => (intV u2 .i64 fun i4 => (K (upd (upd (upd (upd (upd (upd e 3 (SV.priv 3 0)) 0 (SV.val (Value.pointer x0))) 8 (SV.val (Value.pointer x0))) 9 (SV.val (Value.agg ⟨l1⟩))) 10 (SV.val (Value.int .i64 i4))) 5 (SV.val (Value.int .i64 i4))) (upd V0 3 (75, k3)) h3)))) := by kernel_rfl
theorem F49_r2 (e : Env) (x5 : Int) (k3 : List Value) (hp : HP) (K : Env → PV → HP → Prop) : RW Try.prog 33 [3] (opsAt Try.f49 [1, 0, 1, 0]) (List.range 2) (upd e 5 (SV.val (Value.int .i64 x5))) (upd V0 3 (75, k3)) hp K =
    (K (upd (upd (upd e 5 (SV.val (Value.int .i64 x5))) 11 (SV.val (Value.int .i64 x5))) 12 (SV.val (Value.bool ((x5 : Int) != 0)))) (upd V0 3 (75, k3)) hp) := by kernel_rfl
theorem F49_r3 (e : Env) (x5 : Int) (hp : HP) (K : Env → PV → HP → Prop) : RW Try.prog 33 [3] (opsAt Try.f49 [1, 0, 1, 1, 0, 0]) (List.range 2) (upd e 5 (SV.val (Value.int .i64 x5))) V0 hp K =
    (K (upd (upd (upd e 5 (SV.val (Value.int .i64 x5))) 13 (SV.val (Value.int .i64 x5))) 4 (SV.val (Value.int .i64 x5))) V0 hp) := by kernel_rfl
theorem F49_r4 (e : Env) (x0 : Option Addr) (k3 : List Value) (hp : HP) (K : Env → PV → HP → Prop) : RW Try.prog 33 [3] (opsAt Try.f49 [1, 1, 0]) (List.range 11) (upd (upd e 3 (SV.priv 3 0)) 0 (SV.val (Value.pointer x0))) (upd V0 3 (75, k3)) hp K =
    (ptrN x0 fun b1 o2 => (ldV (HP.cell hp b1 (o2 + 3)) fun v3 => (mapV v3 fun m4 => (ldL (cellsN k3 0 5) fun l5 => (rdS Try.prog (Instr.lookup 158 (Value.map m4) (Value.agg ⟨l5⟩) true) hp fun u6 => (tup2V u6 fun u7 u8 => (boolV u7 fun q9 => (boolV u8 fun q10 => (K (upd (upd (upd (upd (upd (upd (upd (upd (upd (upd (upd (upd (upd e 3 (SV.priv 3 0)) 0 (SV.val (Value.pointer x0))) 15 (SV.val (Value.pointer x0))) 16 (SV.val (ptr b1 o2))) 17 (SV.val (ptr b1 (o2 + 3)))) 18 (SV.val (Value.map m4))) 19 (SV.val (Value.agg ⟨l5⟩))) 20 (SV.val (Value.tuple ⟨[(Value.bool q9), (Value.bool q10)]⟩))) 14 (SV.val (Value.tuple ⟨[(Value.bool q9), (Value.bool q10)]⟩))) 21 (SV.val (Value.bool q9))) 22 (SV.val (Value.bool q10))) 6 (SV.val (Value.bool q9))) 7 (SV.val (Value.bool q10))) (upd V0 3 (75, k3)) hp))))))))) := by kernel_rfl
theorem F49_r5 (e : Env) (x6 : Bool) (k3 : List Value) (hp : HP) (K : Env → PV → HP → Prop) : RW Try.prog 33 [3] (opsAt Try.f49 [1, 1, 1, 0, 0, 0]) (List.range 2) (upd e 6 (SV.val (Value.bool x6))) (upd V0 3 (75, k3)) hp K =
    (K (upd (upd (upd e 6 (SV.val (Value.bool x6))) 24 (SV.val (Value.bool x6))) 23 (SV.val (Value.bool x6))) (upd V0 3 (75, k3)) hp) := by kernel_rfl
theorem F49_r6 (e : Env) (hp : HP) (K : Env → PV → HP → Prop) : RW Try.prog 33 [3] (opsAt Try.f49 [1, 1, 1, 0, 0, 1, 0, 0]) (List.range 1) e V0 hp K =
    (K (upd e 4 (SV.val (Value.int .i64 11))) V0 hp) := by kernel_rfl
theorem F49_r7 (e : Env) (x7 : Bool) (k3 : List Value) (hp : HP) (K : Env → PV → HP → Prop) : RW Try.prog 33 [3] (opsAt Try.f49 [1, 1, 1, 0, 0, 1, 1, 0]) (List.range 3) (upd e 7 (SV.val (Value.bool x7))) (upd V0 3 (75, k3)) hp K =
    (K (upd (upd (upd (upd e 7 (SV.val (Value.bool x7))) 26 (SV.val (Value.bool x7))) 27 (SV.val (Value.bool (!x7)))) 25 (SV.val (Value.bool (!x7)))) (upd V0 3 (75, k3)) hp) := by kernel_rfl
theorem F49_r8 (e : Env) (hp : HP) (K : Env → PV → HP → Prop) : RW Try.prog 33 [3] (opsAt Try.f49 [1, 1, 1, 0, 0, 1, 1, 1, 0, 0]) (List.range 1) e V0 hp K =
    (K (upd e 4 (SV.val (Value.int .i64 4))) V0 hp) := by kernel_rfl
theorem F49_r9 (e : Env) (x0 : Option Addr) (k3 : List Value) (hp : HP) (K : Env → PV → HP → Prop) : RW Try.prog 33 [3] (opsAt Try.f49 [1, 1, 1, 1, 0]) (List.range 6) (upd (upd e 3 (SV.priv 3 0)) 0 (SV.val (Value.pointer x0))) (upd V0 3 (75, k3)) hp K =
    (ptrN x0 fun b1 o2 => (ldV (HP.cell hp b1 (o2 + 3)) fun v3 => (mapV v3 fun m4 => (ldL (cellsN k3 0 5) fun l5 => (opS Try.prog (Builtin.delete_ #[158, 75] 0 ⟨[(Value.map m4), (Value.agg ⟨l5⟩)]⟩) hp fun u6 h7 => (K (upd (upd (upd (upd (upd (upd (upd e 3 (SV.priv 3 0)) 0 (SV.val (Value.pointer x0))) 28 (SV.val (Value.pointer x0))) 29 (SV.val (ptr b1 o2))) 30 (SV.val (ptr b1 (o2 + 3)))) 31 (SV.val (Value.map m4))) 32 (SV.val (Value.agg ⟨l5⟩))) (upd V0 3 (75, k3)) h7)))))) := by kernel_rfl
theorem F49_r10 (e : Env) (hp : HP) (K : Env → PV → HP → Prop) : RW Try.prog 33 [3] (opsAt Try.f49 [1, 1, 1, 1, 1, 0]) (List.range 1) e V0 hp K =
    (K (upd e 4 (SV.val (Value.int .i64 0))) V0 hp) := by kernel_rfl
def F49 (x0 : Option Addr) (x1 : List Value) (hp : HP) (K : Value → HP → Prop) : Prop :=
  (ldL (cellsN x1 0 5) fun l_1 => (CF Try.prog 100 [(Value.pointer x0), (Value.agg ⟨l_1⟩)] hp fun u_2 h_3 => (intV u_2 .i64 fun i_4 => (ite2 ((i_4 : Int) != 0) (K (Value.int .i64 i_4) h_3) (ptrN x0 fun b_5 o_6 => (ldV (HP.cell h_3 b_5 (o_6 + 3)) fun v_7 => (mapV v_7 fun m_8 => (ldL (cellsN x1 0 5) fun l_9 => (rdS Try.prog (Instr.lookup 158 (Value.map m_8) (Value.agg ⟨l_9⟩) true) h_3 fun u_10 => (tup2V u_10 fun u_11 u_12 => (boolV u_11 fun q_13 => (boolV u_12 fun q_14 => (ite2 q_13 (K (Value.int .i64 11) h_3) (ite2 (!q_14) (K (Value.int .i64 4) h_3) (ptrN x0 fun b_15 o_16 => (ldV (HP.cell h_3 b_15 (o_16 + 3)) fun v_17 => (mapV v_17 fun m_18 => (ldL (cellsN x1 0 5) fun l_19 => (opS Try.prog (Builtin.delete_ #[158, 75] 0 ⟨[(Value.map m_18), (Value.agg ⟨l_19⟩)]⟩) h_3 fun u_20 h_21 => (K (Value.int .i64 0) h_21))))))))))))))))))))
noncomputable def F49_code : Code := (.seq (.region 0 (opsAt Try.f49 [0]) false) (.seq (.seq (.region 1 (opsAt Try.f49 [1, 0, 0]) false) (.seq (.region 2 (opsAt Try.f49 [1, 0, 1, 0]) false) (.cond (.tmp 12) (.seq (.region 3 (opsAt Try.f49 [1, 0, 1, 1, 0, 0]) false) .ret) .skip))) (.seq (.region 4 (opsAt Try.f49 [1, 1, 0]) true) (.seq (.block 0 (.seq (.region 5 (opsAt Try.f49 [1, 1, 1, 0, 0, 0]) false) (.cond (.tmp 23) (.seq (.region 6 (opsAt Try.f49 [1, 1, 1, 0, 0, 1, 0, 0]) false) .ret) (.seq (.region 7 (opsAt Try.f49 [1, 1, 1, 0, 0, 1, 1, 0]) false) (.cond (.tmp 25) (.seq (.region 8 (opsAt Try.f49 [1, 1, 1, 0, 0, 1, 1, 1, 0, 0]) false) .ret) .skip))))) (.seq (.region 9 (opsAt Try.f49 [1, 1, 1, 1, 0]) true) (.seq (.region 10 (opsAt Try.f49 [1, 1, 1, 1, 1, 0]) false) .ret))))))
theorem F49_body : Try.f49.body = some F49_code := by kernel_rfl
theorem F49_ok (x0 : Option Addr) (x1 : List Value) (hp : HP) (K : Value → HP → Prop) (h : F49 x0 x1 hp K) : CF Try.prog 49 [(Value.pointer x0), (Value.agg ⟨x1⟩)] hp K := by
  refine ⟨by kernel_rfl, AC.intro (N := 33) Try.func49 F49_body rfl (Nat.le_of_ble_eq_true rfl) ?_⟩
  unfold F49 at h
  unfold F49_code
  refine AWP.seq' ?_
  refine AWP.rgn (F49_r0 (upd E0 0 (SV.val (Value.pointer x0))) x1 hp _) ?_ (RefOk.v 1 _ (RefOk.v 0 _ (RefOk.nil _))) (Sub.cons rfl (Sub.cons rfl (Sub.nil _))) (Sub.nil _)
  refine AWP.seq' ?_
  refine AWP.seq' ?_
  refine AWP.rgn (F49_r1 E0 x0 x1 hp _) ?_ (RefOk.v 0 _ (RefOk.p 3 3 0 (RefOk.nil _) (fun e => by cases e))) (Sub.cons rfl (Sub.cons rfl (Sub.nil _))) (Sub.cons rfl (Sub.nil _))
  refine ldL_mono h (fun l_1 h => ?_)
  refine CF_mono h (fun u_2 h_3 h => ?_)
  refine intV_mono h (fun i_4 h => ?_)
  refine AWP.seq' ?_
  refine AWP.rgn (F49_r2 (upd (upd E0 3 (SV.priv 3 0)) 0 (SV.val (Value.pointer x0))) i_4 x1 h_3 _) ?_ (RefOk.v 5 _ (RefOk.v 0 _ (RefOk.p 3 3 0 (RefOk.nil _) (fun e => by cases e)))) (Sub.cons rfl (Sub.cons rfl (Sub.cons rfl (Sub.nil _)))) (Sub.cons rfl (Sub.nil _))
  refine AWP.cond (t := ((i_4 : Int) != 0)) rfl (fun e => ?_) (fun e => ?_)
  · replace h := ite2_t h e
    refine AWP.seq' ?_
    refine AWP.rgn (F49_r3 E0 i_4 h_3 _) ?_ (RefOk.v 5 _ (RefOk.nil _)) (Sub.cons rfl (Sub.nil _)) (Sub.nil _)
    refine AWP.ret ?_
    exact h
  · replace h := ite2_f h e
    refine AWP.skip ?_
    refine AWP.seq' ?_
    refine AWP.rgnD (by kernel_rfl) (by kernel_rfl) (F49_r4 E0 x0 x1 h_3 _) ?_ (RefOk.v 0 _ (RefOk.p 3 3 0 (RefOk.nil _) (fun e => by cases e))) (Sub.cons rfl (Sub.cons rfl (Sub.nil _))) (Sub.cons rfl (Sub.nil _))
    refine ptrN_mono h (fun b_5 o_6 h => ?_)
    refine ldV_mono h (fun v_7 h => ?_)
    refine mapV_mono h (fun m_8 h => ?_)
    refine ldL_mono h (fun l_9 h => ?_)
    refine rdS_mono h (fun u_10 h => ?_)
    refine tup2V_mono h (fun u_11 u_12 h => ?_)
    refine boolV_mono h (fun q_13 h => ?_)
    refine boolV_mono h (fun q_14 h => ?_)
    refine AWP.seq' ?_
    refine AWP.block ?_
    refine AWP.seq' ?_
    refine AWP.rgn (F49_r5 (upd (upd (upd E0 7 (SV.val (Value.bool q_14))) 3 (SV.priv 3 0)) 0 (SV.val (Value.pointer x0))) q_13 x1 h_3 _) ?_ (RefOk.v 6 _ (RefOk.v 0 _ (RefOk.p 3 3 0 (RefOk.v 7 _ (RefOk.nil _)) (fun e => by cases e)))) (Sub.cons rfl (Sub.cons rfl (Sub.cons rfl (Sub.cons rfl (Sub.nil _))))) (Sub.cons rfl (Sub.nil _))
    refine AWP.cond (t := q_13) rfl (fun e => ?_) (fun e => ?_)
    · replace h := ite2_t h e
      refine AWP.seq' ?_
      refine AWP.rgn (F49_r6 E0  h_3 _) ?_ (RefOk.nil _) (Sub.nil _) (Sub.nil _)
      refine AWP.ret ?_
      exact h
    · replace h := ite2_f h e
      refine AWP.seq' ?_
      refine AWP.rgn (F49_r7 (upd (upd E0 3 (SV.priv 3 0)) 0 (SV.val (Value.pointer x0))) q_14 x1 h_3 _) ?_ (RefOk.v 7 _ (RefOk.v 0 _ (RefOk.p 3 3 0 (RefOk.nil _) (fun e => by cases e)))) (Sub.cons rfl (Sub.cons rfl (Sub.cons rfl (Sub.nil _)))) (Sub.cons rfl (Sub.nil _))
      refine AWP.cond (t := (!q_14)) rfl (fun e => ?_) (fun e => ?_)
      · replace h := ite2_t h e
        refine AWP.seq' ?_
        refine AWP.rgn (F49_r8 E0  h_3 _) ?_ (RefOk.nil _) (Sub.nil _) (Sub.nil _)
        refine AWP.ret ?_
        exact h
      · replace h := ite2_f h e
        refine AWP.skip ?_
        refine AWP.seq' ?_
        refine AWP.rgnD (by kernel_rfl) (by kernel_rfl) (F49_r9 E0 x0 x1 h_3 _) ?_ (RefOk.v 0 _ (RefOk.p 3 3 0 (RefOk.nil _) (fun e => by cases e))) (Sub.cons rfl (Sub.cons rfl (Sub.nil _))) (Sub.cons rfl (Sub.nil _))
        refine ptrN_mono h (fun b_15 o_16 h => ?_)
        refine ldV_mono h (fun v_17 h => ?_)
        refine mapV_mono h (fun m_18 h => ?_)
        refine ldL_mono h (fun l_19 h => ?_)
        refine opS_mono h (fun u_20 h_21 h => ?_)
        refine AWP.seq' ?_
        refine AWP.rgn (F49_r10 E0  h_21 _) ?_ (RefOk.nil _) (Sub.nil _) (Sub.nil _)
        refine AWP.ret ?_
        exact h

-- 50 (*interpreter/pool.Pool).Reserve
theorem F50_r0 (e : Env) (x1 : List Value) (hp : HP) (K : Env → PV → HP → Prop) : RW Try.prog 29 [3] (opsAt Try.f50 [0]) (List.range 2) (upd e 1 (SV.val (Value.agg ⟨x1⟩))) V0 hp K =
    (K (upd (upd (upd e 1 (SV.val (Value.agg ⟨x1⟩))) 3 (SV.priv 3 0)) 4 (SV.val (Value.int .i64 0))) (upd V0 3 (75, x1)) hp) := by kernel_rfl
theorem F50_r1 (e : Env) (x0 : Option Addr) (k3 : List Value) (hp : HP) (K : Env → PV → HP → Prop) : RW Try.prog 29 [3] (opsAt Try.f50 [1, 0, 0]) (List.range 4) (upd (upd e 3 (SV.priv 3 0)) 0 (SV.val (Value.pointer x0))) (upd V0 3 (75, k3)) hp K =
    (ldL (cellsN k3 0 5) fun l1 => (CF Try.prog 100 [(Value.pointer x0), (Value.agg ⟨l1⟩)] hp fun u2 h3 => (intV u2 .i64 fun i4 => (K (upd (upd (upd (upd (upd (upd e 3 (SV.priv 3 0)) 0 (SV.val (Value.pointer x0))) 8 (SV.val (Value.pointer x0))) 9 (SV.val (Value.agg ⟨l1⟩))) 10 (SV.val (Value.int .i64 i4))) 5 (SV.val (Value.int .i64 i4))) (upd V0 3 (75, k3)) h3)))) := by kernel_rfl
theorem F50_r2 (e : Env) (x5 : Int) (k3 : List Value) (hp : HP) (K : Env → PV → HP → Prop) : RW Try.prog 29 [3] (opsAt Try.f50 [1, 0, 1, 0]) (List.range 2) (upd e 5 (SV.val (Value.int .i64 x5))) (upd V0 3 (75, k3)) hp K =
    (K (upd (upd (upd e 5 (SV.val (Value.int .i64 x5))) 11 (SV.val (Value.int .i64 x5))) 12 (SV.val (Value.bool ((x5 : Int) != 0)))) (upd V0 3 (75, k3)) hp) := by kernel_rfl
theorem F50_r3 (e : Env) (x5 : Int) (hp : HP) (K : Env → PV → HP → Prop) : RW Try.prog 29 [3] (opsAt Try.f50 [1, 0, 1, 1, 0, 0]) (List.range 2) (upd e 5 (SV.val (Value.int .i64 x5))) V0 hp K =
    (K (upd (upd (upd e 5 (SV.val (Value.int .i64 x5))) 13 (SV.val (Value.int .i64 x5))) 4 (SV.val (Value.int .i64 x5))) V0 hp) := by kernel_rfl
theorem F50_r4 (e : Env) (x0 : Option Addr) (k3 : List Value) (hp : HP) (K : Env → PV → HP → Prop) : RW Try.prog 29 [3] (opsAt Try.f50 [1, 1, 0, 0]) (List.range 11) (upd (upd e 3 (SV.priv 3 0)) 0 (SV.val (Value.pointer x0))) (upd V0 3 (75, k3)) hp K =
    (ptrN x0 fun b1 o2 => (ldV (HP.cell hp b1 (o2 + 3)) fun v3 => (mapV v3 fun m4 => (ldL (cellsN k3 0 5) fun l5 => (rdS Try.prog (Instr.lookup 158 (Value.map m4) (Value.agg ⟨l5⟩) true) hp fun u6 => (tup2V u6 fun u7 u8 => (boolV u7 fun q9 => (boolV u8 fun q10 => (K (upd (upd (upd (upd (upd (upd (upd (upd (upd (upd (upd (upd (upd e 3 (SV.priv 3 0)) 0 (SV.val (Value.pointer x0))) 15 (SV.val (Value.pointer x0))) 16 (SV.val (ptr b1 o2))) 17 (SV.val (ptr b1 (o2 + 3)))) 18 (SV.val (Value.map m4))) 19 (SV.val (Value.agg ⟨l5⟩))) 20 (SV.val (Value.tuple ⟨[(Value.bool q9), (Value.bool q10)]⟩))) 14 (SV.val (Value.tuple ⟨[(Value.bool q9), (Value.bool q10)]⟩))) 21 (SV.val (Value.bool q9))) 22 (SV.val (Value.bool q10))) 6 (SV.val (Value.bool q9))) 7 (SV.val (Value.bool q10))) (upd V0 3 (75, k3)) hp))))))))) := by kernel_rfl
theorem F50_r5 (e : Env) (x7 : Bool) (k3 : List Value) (hp : HP) (K : Env → PV → HP → Prop) : RW Try.prog 29 [3] (opsAt Try.f50 [1, 1, 0, 1, 0]) (List.range 1) (upd e 7 (SV.val (Value.bool x7))) (upd V0 3 (75, k3)) hp K =
    (K (upd (upd e 7 (SV.val (Value.bool x7))) 23 (SV.val (Value.bool x7))) (upd V0 3 (75, k3)) hp) := by kernel_rfl
theorem F50_r6 (e : Env) (hp : HP) (K : Env → PV → HP → Prop) : RW Try.prog 29 [3] (opsAt Try.f50 [1, 1, 0, 1, 1, 0, 0]) (List.range 1) e V0 hp K =
    (K (upd e 4 (SV.val (Value.int .i64 5))) V0 hp) := by kernel_rfl
theorem F50_r7 (e : Env) (x0 : Option Addr) (k3 : List Value) (hp : HP) (K : Env → PV → HP → Prop) : RW Try.prog 29 [3] (opsAt Try.f50 [1, 1, 1, 0]) (List.range 6) (upd (upd e 3 (SV.priv 3 0)) 0 (SV.val (Value.pointer x0))) (upd V0 3 (75, k3)) hp K =
    (ptrN x0 fun b1 o2 => (ldV (HP.cell hp b1 (o2 + 3)) fun v3 => (mapV v3 fun m4 => (ldL (cellsN k3 0 5) fun l5 => (opS Try.prog (Instr.mapUpdate 158 (Value.map m4) (Value.agg ⟨l5⟩) (Value.bool true)) hp fun u6 h7 => (K (upd (upd (upd (upd (upd (upd (upd e 3 (SV.priv 3 0)) 0 (SV.val (Value.pointer x0))) 24 (SV.val (Value.pointer x0))) 25 (SV.val (ptr b1 o2))) 26 (SV.val (ptr b1 (o2 + 3)))) 27 (SV.val (Value.map m4))) 28 (SV.val (Value.agg ⟨l5⟩))) (upd V0 3 (75, k3)) h7)))))) := by kernel_rfl
theorem F50_r8 (e : Env) (hp : HP) (K : Env → PV → HP → Prop) : RW Try.prog 29 [3] (opsAt Try.f50 [1, 1, 1, 1, 0]) (List.range 1) e V0 hp K =
    (K (upd e 4 (SV.val (Value.int .i64 0))) V0 hp) := by kernel_rfl
def F50 (x0 : Option Addr) (x1 : List Value) (hp : HP) (K : Value → HP → Prop) : Prop :=
  (ldL (cellsN x1 0 5) fun l_1 => (CF Try.prog 100 [(Value.pointer x0), (Value.agg ⟨l_1⟩)] hp fun u_2 h_3 => (intV u_2 .i64 fun i_4 => (ite2 ((i_4 : Int) != 0) (K (Value.int .i64 i_4) h_3) (ptrN x0 fun b_5 o_6 => (ldV (HP.cell h_3 b_5 (o_6 + 3)) fun v_7 => (mapV v_7 fun m_8 => (ldL (cellsN x1 0 5) fun l_9 => (rdS Try.prog (Instr.lookup 158 (Value.map m_8) (Value.agg ⟨l_9⟩) true) h_3 fun u_10 => (tup2V u_10 fun u_11 u_12 => (boolV u_11 fun q_13 => (boolV u_12 fun q_14 => (ite2 q_14 (K (Value.int .i64 5) h_3) (ptrN x0 fun b_15 o_16 => (ldV (HP.cell h_3 b_15 (o_16 + 3)) fun v_17 => (mapV v_17 fun m_18 => (ldL (cellsN x1 0 5) fun l_19 => (opS Try.prog (Instr.mapUpdate 158 (Value.map m_18) (Value.agg ⟨l_19⟩) (Value.bool true)) h_3 fun u_20 h_21 => (K (Value.int .i64 0) h_21)))))))))))))))))))
noncomputable def F50_code : Code := (.seq (.region 0 (opsAt Try.f50 [0]) false) (.seq (.seq (.region 1 (opsAt Try.f50 [1, 0, 0]) false) (.seq (.region 2 (opsAt Try.f50 [1, 0, 1, 0]) false) (.cond (.tmp 12) (.seq (.region 3 (opsAt Try.f50 [1, 0, 1, 1, 0, 0]) false) .ret) .skip))) (.seq (.seq (.region 4 (opsAt Try.f50 [1, 1, 0, 0]) true) (.seq (.region 5 (opsAt Try.f50 [1, 1, 0, 1, 0]) false) (.cond (.tmp 23) (.seq (.region 6 (opsAt Try.f50 [1, 1, 0, 1, 1, 0, 0]) false) .ret) .skip))) (.seq (.region 7 (opsAt Try.f50 [1, 1, 1, 0]) true) (.seq (.region 8 (opsAt Try.f50 [1, 1, 1, 1, 0]) false) .ret)))))
theorem F50_body : Try.f50.body = some F50_code := by kernel_rfl
theorem F50_ok (x0 : Option Addr) (x1 : List Value) (hp : HP) (K : Value → HP → Prop) (h : F50 x0 x1 hp K) : CF Try.prog 50 [(Value.pointer x0), (Value.agg ⟨x1⟩)] hp K := by
  refine ⟨by kernel_rfl, AC.intro (N := 29) Try.func50 F50_body rfl (Nat.le_of_ble_eq_true rfl) ?_⟩
  unfold F50 at h
  unfold F50_code
  refine AWP.seq' ?_
  refine AWP.rgn (F50_r0 (upd E0 0 (SV.val (Value.pointer x0))) x1 hp _) ?_ (RefOk.v 1 _ (RefOk.v 0 _ (RefOk.nil _))) (Sub.cons rfl (Sub.cons rfl (Sub.nil _))) (Sub.nil _)
  refine AWP.seq' ?_
  refine AWP.seq' ?_
  refine AWP.rgn (F50_r1 E0 x0 x1 hp _) ?_ (RefOk.v 0 _ (RefOk.p 3 3 0 (RefOk.nil _) (fun e => by cases e))) (Sub.cons rfl (Sub.cons rfl (Sub.nil _))) (Sub.cons rfl (Sub.nil _))
  refine ldL_mono h (fun l_1 h => ?_)
  refine CF_mono h (fun u_2 h_3 h => ?_)
  refine intV_mono h (fun i_4 h => ?_)
  refine AWP.seq' ?_
  refine AWP.rgn (F50_r2 (upd (upd E0 3 (SV.priv 3 0)) 0 (SV.val (Value.pointer x0))) i_4 x1 h_3 _) ?_ (RefOk.v 5 _ (RefOk.v 0 _ (RefOk.p 3 3 0 (RefOk.nil _) (fun e => by cases e)))) (Sub.cons rfl (Sub.cons rfl (Sub.cons rfl (Sub.nil _)))) (Sub.cons rfl (Sub.nil _))
  refine AWP.cond (t := ((i_4 : Int) != 0)) rfl (fun e => ?_) (fun e => ?_)
  · replace h := ite2_t h e
    refine AWP.seq' ?_
    refine AWP.rgn (F50_r3 E0 i_4 h_3 _) ?_ (RefOk.v 5 _ (RefOk.nil _)) (Sub.cons rfl (Sub.nil _)) (Sub.nil _)
    refine AWP.ret ?_
    exact h
  · replace h := ite2_f h e
    refine AWP.skip ?_
    refine AWP.seq' ?_
    refine AWP.seq' ?_
    refine AWP.rgnD (by kernel_rfl) (by kernel_rfl) (F50_r4 E0 x0 x1 h_3 _) ?_ (RefOk.v 0 _ (RefOk.p 3 3 0 (RefOk.nil _) (fun e => by cases e))) (Sub.cons rfl (Sub.cons rfl (Sub.nil _))) (Sub.cons rfl (Sub.nil _))
    refine ptrN_mono h (fun b_5 o_6 h => ?_)
    refine ldV_mono h (fun v_7 h => ?_)
    refine mapV_mono h (fun m_8 h => ?_)
    refine ldL_mono h (fun l_9 h => ?_)
    refine rdS_mono h (fun u_10 h => ?_)
    refine tup2V_mono h (fun u_11 u_12 h => ?_)
    refine boolV_mono h (fun q_13 h => ?_)
    refine boolV_mono h (fun q_14 h => ?_)
    refine AWP.seq' ?_
    refine AWP.rgn (F50_r5 (upd (upd E0 3 (SV.priv 3 0)) 0 (SV.val (Value.pointer x0))) q_14 x1 h_3 _) ?_ (RefOk.v 7 _ (RefOk.v 0 _ (RefOk.p 3 3 0 (RefOk.nil _) (fun e => by cases e)))) (Sub.cons rfl (Sub.cons rfl (Sub.cons rfl (Sub.nil _)))) (Sub.cons rfl (Sub.nil _))
    refine AWP.cond (t := q_14) rfl (fun e => ?_) (fun e => ?_)
    · replace h := ite2_t h e
      refine AWP.seq' ?_
      refine AWP.rgn (F50_r6 E0  h_3 _) ?_ (RefOk.nil _) (Sub.nil _) (Sub.nil _)
      refine AWP.ret ?_
      exact h
    · replace h := ite2_f h e
      refine AWP.skip ?_
      refine AWP.seq' ?_
      refine AWP.rgnD (by kernel_rfl) (by kernel_rfl) (F50_r7 E0 x0 x1 h_3 _) ?_ (RefOk.v 0 _ (RefOk.p 3 3 0 (RefOk.nil _) (fun e => by cases e))) (Sub.cons rfl (Sub.cons rfl (Sub.nil _))) (Sub.cons rfl (Sub.nil _))
      refine ptrN_mono h (fun b_15 o_16 h => ?_)
      refine ldV_mono h (fun v_17 h => ?_)
      refine mapV_mono h (fun m_18 h => ?_)
      refine ldL_mono h (fun l_19 h => ?_)
      refine opS_mono h (fun u_20 h_21 h => ?_)
      refine AWP.seq' ?_
      refine AWP.rgn (F50_r8 E0  h_21 _) ?_ (RefOk.nil _) (Sub.nil _) (Sub.nil _)
      refine AWP.ret ?_
      exact h

-- 51 (*interpreter/pool.Pool).Release
theorem F51_r0 (e : Env) (x1 : List Value) (hp : HP) (K : Env → PV → HP → Prop) : RW Try.prog 24 [3] (opsAt Try.f51 [0]) (List.range 2) (upd e 1 (SV.val (Value.agg ⟨x1⟩))) V0 hp K =
    (K (upd (upd (upd e 1 (SV.val (Value.agg ⟨x1⟩))) 3 (SV.priv 3 0)) 4 (SV.val (Value.int .i64 0))) (upd V0 3 (75, x1)) hp) := by kernel_rfl
theorem F51_r1 (e : Env) (x0 : Option Addr) (k3 : List Value) (hp : HP) (K : Env → PV → HP → Prop) : RW Try.prog 24 [3] (opsAt Try.f51 [1, 0, 0]) (List.range 4) (upd (upd e 3 (SV.priv 3 0)) 0 (SV.val (Value.pointer x0))) (upd V0 3 (75, k3)) hp K =
    (ldL (cellsN k3 0 5) fun l1 => (CF Try.prog 100 [(Value.pointer x0), (Value.agg ⟨l1⟩)] hp fun u2 h3 => (intV u2 .i64 fun i4 => (K (upd (upd (upd (upd (upd (upd e 3 (SV.priv 3 0)) 0 (SV.val (Value.pointer x0))) 6 (SV.val (Value.pointer x0))) 7 (SV.val (Value.agg ⟨l1⟩))) 8 (SV.val (Value.int .i64 i4))) 5 (SV.val (Value.int .i64 i4))) (upd V0 3 (75, k3)) h3)))) := by kernel_rfl
theorem F51_r2 (e : Env) (x5 : Int) (k3 : List Value) (hp : HP) (K : Env → PV → HP → Prop) : RW Try.prog 24 [3] (opsAt Try.f51 [1, 0, 1, 0]) (List.range 2) (upd e 5 (SV.val (Value.int .i64 x5))) (upd V0 3 (75, k3)) hp K =
    (K (upd (upd (upd e 5 (SV.val (Value.int .i64 x5))) 9 (SV.val (Value.int .i64 x5))) 10 (SV.val (Value.bool ((x5 : Int) != 0)))) (upd V0 3 (75, k3)) hp) := by kernel_rfl
theorem F51_r3 (e : Env) (x5 : Int) (hp : HP) (K : Env → PV → HP → Prop) : RW Try.prog 24 [3] (opsAt Try.f51 [1, 0, 1, 1, 0, 0]) (List.range 2) (upd e 5 (SV.val (Value.int .i64 x5))) V0 hp K =
    (K (upd (upd (upd e 5 (SV.val (Value.int .i64 x5))) 11 (SV.val (Value.int .i64 x5))) 4 (SV.val (Value.int .i64 x5))) V0 hp) := by kernel_rfl
theorem F51_r4 (e : Env) (x0 : Option Addr) (k3 : List Value) (hp : HP) (K : Env → PV → HP → Prop) : RW Try.prog 24 [3] (opsAt Try.f51 [1, 1, 0, 0]) (List.range 7) (upd (upd e 3 (SV.priv 3 0)) 0 (SV.val (Value.pointer x0))) (upd V0 3 (75, k3)) hp K =
    (ptrN x0 fun b1 o2 => (ldV (HP.cell hp b1 (o2 + 3)) fun v3 => (mapV v3 fun m4 => (ldL (cellsN k3 0 5) fun l5 => (rdS Try.prog (Instr.lookup 158 (Value.map m4) (Value.agg ⟨l5⟩) false) hp fun u6 => (boolV u6 fun q7 => (K (upd (upd (upd (upd (upd (upd (upd (upd (upd e 3 (SV.priv 3 0)) 0 (SV.val (Value.pointer x0))) 12 (SV.val (Value.pointer x0))) 13 (SV.val (ptr b1 o2))) 14 (SV.val (ptr b1 (o2 + 3)))) 15 (SV.val (Value.map m4))) 16 (SV.val (Value.agg ⟨l5⟩))) 17 (SV.val (Value.bool q7))) 18 (SV.val (Value.bool (!q7)))) (upd V0 3 (75, k3)) hp))))))) := by kernel_rfl
theorem F51_r5 (e : Env) (hp : HP) (K : Env → PV → HP → Prop) : RW Try.prog 24 [3] (opsAt Try.f51 [1, 1, 0, 1, 0, 0]) (List.range 1) e V0 hp K =
    (K (upd e 4 (SV.val (Value.int .i64 4))) V0 hp) := by kernel_rfl
theorem F51_r6 (e : Env) (x0 : Option Addr) (k3 : List Value) (hp : HP) (K : Env → PV → HP → Prop) : RW Try.prog 24 [3] (opsAt Try.f51 [1, 1, 1, 0]) (List.range 6) (upd (upd e 3 (SV.priv 3 0)) 0 (SV.val (Value.pointer x0))) (upd V0 3 (75, k3)) hp K =
    (ptrN x0 fun b1 o2 => (ldV (HP.cell hp b1 (o2 + 3)) fun v3 => (mapV v3 fun m4 => (ldL (cellsN k3 0 5) fun l5 => (opS Try.prog (Builtin.delete_ #[158, 75] 0 ⟨[(Value.map m4), (Value.agg ⟨l5⟩)]⟩) hp fun u6 h7 => (K (upd (upd (upd (upd (upd (upd (upd e 3 (SV.priv 3 0)) 0 (SV.val (Value.pointer x0))) 19 (SV.val (Value.pointer x0))) 20 (SV.val (ptr b1 o2))) 21 (SV.val (ptr b1 (o2 + 3)))) 22 (SV.val (Value.map m4))) 23 (SV.val (Value.agg ⟨l5⟩))) (upd V0 3 (75, k3)) h7)))))) := by kernel_rfl
theorem F51_r7 (e : Env) (hp : HP) (K : Env → PV → HP → Prop) : RW Try.prog 24 [3] (opsAt Try.f51 [1, 1, 1, 1, 0]) (List.range 1) e V0 hp K =
    (K (upd e 4 (SV.val (Value.int .i64 0))) V0 hp) := by kernel_rfl
def F51 (x0 : Option Addr) (x1 : List Value) (hp : HP) (K : Value → HP → Prop) : Prop :=
  (ldL (cellsN x1 0 5) fun l_1 => (CF Try.prog 100 [(Value.pointer x0), (Value.agg ⟨l_1⟩)] hp fun u_2 h_3 => (intV u_2 .i64 fun i_4 => (ite2 ((i_4 : Int) != 0) (K (Value.int .i64 i_4) h_3) (ptrN x0 fun b_5 o_6 => (ldV (HP.cell h_3 b_5 (o_6 + 3)) fun v_7 => (mapV v_7 fun m_8 => (ldL (cellsN x1 0 5) fun l_9 => (rdS Try.prog (Instr.lookup 158 (Value.map m_8) (Value.agg ⟨l_9⟩) false) h_3 fun u_10 => (boolV u_10 fun q_11 => (ite2 (!q_11) (K (Value.int .i64 4) h_3) (ptrN x0 fun b_12 o_13 => (ldV (HP.cell h_3 b_12 (o_13 + 3)) fun v_14 => (mapV v_14 fun m_15 => (ldL (cellsN x1 0 5) fun l_16 => (opS Try.prog (Builtin.delete_ #[158, 75] 0 ⟨[(Value.map m_15), (Value.agg ⟨l_16⟩)]⟩) h_3 fun u_17 h_18 => (K (Value.int .i64 0) h_18)))))))))))))))))
noncomputable def F51_code : Code := (.seq (.region 0 (opsAt Try.f51 [0]) false) (.seq (.seq (.region 1 (opsAt Try.f51 [1, 0, 0]) false) (.seq (.region 2 (opsAt Try.f51 [1, 0, 1, 0]) false) (.cond (.tmp 10) (.seq (.region 3 (opsAt Try.f51 [1, 0, 1, 1, 0, 0]) false) .ret) .skip))) (.seq (.seq (.region 4 (opsAt Try.f51 [1, 1, 0, 0]) true) (.cond (.tmp 18) (.seq (.region 5 (opsAt Try.f51 [1, 1, 0, 1, 0, 0]) false) .ret) .skip)) (.seq (.region 6 (opsAt Try.f51 [1, 1, 1, 0]) true) (.seq (.region 7 (opsAt Try.f51 [1, 1, 1, 1, 0]) false) .ret)))))
theorem F51_body : Try.f51.body = some F51_code := by kernel_rfl
theorem F51_ok (x0 : Option Addr) (x1 : List Value) (hp : HP) (K : Value → HP → Prop) (h : F51 x0 x1 hp K) : CF Try.prog 51 [(Value.pointer x0), (Value.agg ⟨x1⟩)] hp K := by
  refine ⟨by kernel_rfl, AC.intro (N := 24) Try.func51 F51_body rfl (Nat.le_of_ble_eq_true rfl) ?_⟩
  unfold F51 at h
  unfold F51_code
  refine AWP.seq' ?_
  refine AWP.rgn (F51_r0 (upd E0 0 (SV.val (Value.pointer x0))) x1 hp _) ?_ (RefOk.v 1 _ (RefOk.v 0 _ (RefOk.nil _))) (Sub.cons rfl (Sub.cons rfl (Sub.nil _))) (Sub.nil _)
  refine AWP.seq' ?_
  refine AWP.seq' ?_
  refine AWP.rgn (F51_r1 E0 x0 x1 hp _) ?_ (RefOk.v 0 _ (RefOk.p 3 3 0 (RefOk.nil _) (fun e => by cases e))) (Sub.cons rfl (Sub.cons rfl (Sub.nil _))) (Sub.cons rfl (Sub.nil _))
  refine ldL_mono h (fun l_1 h => ?_)
  refine CF_mono h (fun u_2 h_3 h => ?_)
  refine intV_mono h (fun i_4 h => ?_)
  refine AWP.seq' ?_
  refine AWP.rgn (F51_r2 (upd (upd E0 3 (SV.priv 3 0)) 0 (SV.val (Value.pointer x0))) i_4 x1 h_3 _) ?_ (RefOk.v 5 _ (RefOk.v 0 _ (RefOk.p 3 3 0 (RefOk.nil _) (fun e => by cases e)))) (Sub.cons rfl (Sub.cons rfl (Sub.cons rfl (Sub.nil _)))) (Sub.cons rfl (Sub.nil _))
  refine AWP.cond (t := ((i_4 : Int) != 0)) rfl (fun e => ?_) (fun e => ?_)
  · replace h := ite2_t h e
    refine AWP.seq' ?_
    refine AWP.rgn (F51_r3 E0 i_4 h_3 _) ?_ (RefOk.v 5 _ (RefOk.nil _)) (Sub.cons rfl (Sub.nil _)) (Sub.nil _)
    refine AWP.ret ?_
    exact h
  · replace h := ite2_f h e
    refine AWP.skip ?_
    refine AWP.seq' ?_
    refine AWP.seq' ?_
    refine AWP.rgnD (by kernel_rfl) (by kernel_rfl) (F51_r4 E0 x0 x1 h_3 _) ?_ (RefOk.v 0 _ (RefOk.p 3 3 0 (RefOk.nil _) (fun e => by cases e))) (Sub.cons rfl (Sub.cons rfl (Sub.nil _))) (Sub.cons rfl (Sub.nil _))
    refine ptrN_mono h (fun b_5 o_6 h => ?_)
    refine ldV_mono h (fun v_7 h => ?_)
    refine mapV_mono h (fun m_8 h => ?_)
    refine ldL_mono h (fun l_9 h => ?_)
    refine rdS_mono h (fun u_10 h => ?_)
    refine boolV_mono h (fun q_11 h => ?_)
    refine AWP.cond (t := (!q_11)) rfl (fun e => ?_) (fun e => ?_)
    · replace h := ite2_t h e
      refine AWP.seq' ?_
      refine AWP.rgn (F51_r5 E0  h_3 _) ?_ (RefOk.nil _) (Sub.nil _) (Sub.nil _)
      refine AWP.ret ?_
      exact h
    · replace h := ite2_f h e
      refine AWP.skip ?_
      refine AWP.seq' ?_
      refine AWP.rgnD (by kernel_rfl) (by kernel_rfl) (F51_r6 E0 x0 x1 h_3 _) ?_ (RefOk.v 0 _ (RefOk.p 3 3 0 (RefOk.nil _) (fun e => by cases e))) (Sub.cons rfl (Sub.cons rfl (Sub.nil _))) (Sub.cons rfl (Sub.nil _))
      refine ptrN_mono h (fun b_12 o_13 h => ?_)
      refine ldV_mono h (fun v_14 h => ?_)
      refine mapV_mono h (fun m_15 h => ?_)
      refine ldL_mono h (fun l_16 h => ?_)
      refine opS_mono h (fun u_17 h_18 h => ?_)
      refine AWP.seq' ?_
      refine AWP.rgn (F51_r7 E0  h_18 _) ?_ (RefOk.nil _) (Sub.nil _) (Sub.nil _)
      refine AWP.ret ?_
      exact h

-- 54 (*interpreter/pool.Pool).Free
theorem F54_r0 (e : Env) (hp : HP) (K : Env → PV → HP → Prop) : RW Try.prog 58 [4, 39, 47] (opsAt Try.f54 [0]) (List.range 1) e V0 hp K =
    (K (upd e 2 (SV.val (Value.int .i64 0))) V0 hp) := by kernel_rfl
theorem F54_r1 (e : Env) (hp : HP) (K : Env → PV → HP → Prop) : RW Try.prog 58 [4, 39, 47] (opsAt Try.f54 [1, 0, 1, 0, 0]) (List.range 1) e V0 hp K =
    (K (upd e 2 (SV.val (Value.int .i64 0))) V0 hp) := by kernel_rfl
theorem F54_r2 (e : Env) (x0 : Option Addr) (hp : HP) (K : Env → PV → HP → Prop) : RW Try.prog 58 [4, 39, 47] (opsAt Try.f54 [1, 1, 0]) (List.range 17) (upd e 0 (SV.val (Value.pointer x0))) V0 hp K =
    (ptrN x0 fun b1 o2 => (ldV (HP.cell hp b1 (o2 + 0)) fun v3 => (slcV v3 fun a4 n5 c6 => (ptrN x0 fun b7 o8 => (ldV (HP.cell hp b7 (o8 + 2)) fun v9 => (intV v9 .i64 fun i10 => (ptrN x0 fun b11 o12 => (ldV (HP.cell hp b11 (o12 + 1)) fun v13 => (intV v13 .i64 fun i14 => (K (upd (upd (upd (upd (upd (upd (upd (upd (upd (upd (upd (upd (upd (upd (upd (upd (upd (upd e 0 (SV.val (Value.pointer x0))) 14 (SV.val (Value.pointer x0))) 15 (SV.val (ptr b1 o2))) 16 (SV.val (ptr b1 (o2 + 0)))) 17 (SV.val (Value.slice a4 n5 c6))) 18 (SV.val (Value.int .i64 (n5 : Nat)))) 19 (SV.val (Value.pointer x0))) 20 (SV.val (ptr b7 o8))) 21 (SV.val (ptr b7 (o8 + 2)))) 22 (SV.val (Value.int .i64 i10))) 23 (SV.val (Value.pointer x0))) 24 (SV.val (ptr b11 o12))) 25 (SV.val (ptr b11 (o12 + 1)))) 26 (SV.val (Value.int .i64 i14))) 27 (SV.val (Value.int .i64 (IntKind.wrap .i64 (i10 - i14))))) 28 (SV.val (Value.int .i64 (IntKind.wrap .i64 ((IntKind.wrap .i64 (i10 - i14)) + 1))))) 29 (SV.val (Value.int .i64 (IntKind.wrap .i64 ((n5 : Nat) * (IntKind.wrap .i64 ((IntKind.wrap .i64 (i10 - i14)) + 1))))))) 3 (SV.val (Value.int .i64 (IntKind.wrap .i64 ((n5 : Nat) * (IntKind.wrap .i64 ((IntKind.wrap .i64 (i10 - i14)) + 1))))))) V0 hp)))))))))) := by kernel_rfl
theorem F54_r3 (e : Env) (x3 : Int) (hp : HP) (K : Env → PV → HP → Prop) : RW Try.prog 58 [4, 39, 47] (opsAt Try.f54 [1, 1, 1, 1, 0]) (List.range 2) (upd e 3 (SV.val (Value.int .i64 x3))) V0 hp K =
    (K (upd (upd (upd e 3 (SV.val (Value.int .i64 x3))) 57 (SV.val (Value.int .i64 x3))) 2 (SV.val (Value.int .i64 x3))) V0 hp) := by kernel_rfl
def F54_j2 (x3 : Int) (hp : HP) (K : Value → HP → Prop) : Prop :=
  (K (Value.int .i64 x3) hp)
theorem F54_r4 (e : Env) (x34 : Value) (hp : HP) (K : Env → PV → HP → Prop) : RW Try.prog 58 [4, 39, 47] (opsAt Try.f54 [1, 1, 1, 0, 1, 0, 0, 0]) (List.range 2) (upd e 34 (SV.val x34)) V0 hp K =
    (opS Try.prog (Instr.next x34 false 0) hp fun u1 h2 => (tupI u1 0 fun v3 => (boolV v3 fun q4 => (K (upd (upd (upd e 34 (SV.val x34)) 35 (SV.val u1)) 36 (SV.val (Value.bool q4))) V0 h2)))) := by kernel_rfl
theorem F54_r5 (e : Env) (x34 : Value) (hp : HP) (K : Env → PV → HP → Prop) : RW Try.prog 58 [4, 39, 47] (opsAt Try.f54 [1, 1, 1, 0, 1, 0, 0, 1, 1, 0, 0]) (List.range 4) (upd e 34 (SV.val x34)) V0 hp K =
    (rdS Try.prog (Instr.entry x34) hp fun u1 => (tupI u1 0 fun v2 => (aggV v2 fun l3 => (if List.length l3 = 5 then (if List.all l3 one = true then (if 0 + List.length l3 ≤ List.length [(Value.int .u8 0), (Value.int .u8 0), (Value.int .u8 0), (Value.int .u8 0), (Value.int .i64 0)] then (K (upd (upd (upd (upd e 34 (SV.val x34)) 37 (SV.val u1)) 38 (SV.val (Value.agg ⟨l3⟩))) 4 (SV.priv 4 0)) (upd (upd V0 4 (75, [(Value.int .u8 0), (Value.int .u8 0), (Value.int .u8 0), (Value.int .u8 0), (Value.int .i64 0)])) 4 (75, (splice [(Value.int .u8 0), (Value.int .u8 0), (Value.int .u8 0), (Value.int .u8 0), (Value.int .i64 0)] 0 l3))) hp) else False) else False) else False)))) := by kernel_rfl
theorem F54_r6 (e : Env) (x3 : Int) (hp : HP) (K : Env → PV → HP → Prop) : RW Try.prog 58 [4, 39, 47] (opsAt Try.f54 [1, 1, 1, 0, 1, 0, 0, 1, 1, 0, 1, 1, 0]) (List.range 3) (upd e 3 (SV.val (Value.int .i64 x3))) V0 hp K =
    (K (upd (upd (upd (upd e 3 (SV.val (Value.int .i64 x3))) 55 (SV.val (Value.int .i64 x3))) 56 (SV.val (Value.int .i64 (IntKind.wrap .i64 (x3 - 1))))) 3 (SV.val (Value.int .i64 (IntKind.wrap .i64 (x3 - 1))))) V0 hp) := by kernel_rfl
def F54_j5 (x0 : Option Addr) (x3 : Int) (x34 : Value) (x54 : Bool) (hp : HP) (I4 : (Int) → HP → Prop) (K : Value → HP → Prop) : Prop :=
  (ite2 x54 (I4 (IntKind.wrap .i64 (x3 - 1)) hp) (I4 x3 hp))
theorem F54_r7 (e : Env) (x0 : Option Addr) (k4 : List Value) (hp : HP) (K : Env → PV → HP → Prop) : RW Try.prog 58 [4, 39, 47] (opsAt Try.f54 [1, 1, 1, 0, 1, 0, 0, 1, 1, 0, 1, 0]) (List.range 16) (upd (upd e 4 (SV.priv 4 0)) 0 (SV.val (Value.pointer x0))) (upd V0 4 (75, k4)) hp K =
    (ldV (k4)[4]? fun v1 => (intV v1 .i64 fun i2 => (ptrN x0 fun b3 o4 => (ldV (HP.cell hp b3 (o4 + 1)) fun v5 => (intV v5 .i64 fun i6 => (ite2 (decide ((i2 : Int) ≥ i6)) (ldV (k4)[4]? fun v7 => (intV v7 .i64 fun i8 => (ptrN x0 fun b9 o10 => (ldV (HP.cell hp b9 (o10 + 2)) fun v11 => (intV v11 .i64 fun i12 => (K (upd (upd (upd (upd (upd (upd (upd (upd (upd (upd (upd (upd (upd (upd (upd (upd (upd (upd e 4 (SV.priv 4 0)) 0 (SV.val (Value.pointer x0))) 39 (SV.priv 4 4)) 40 (SV.val (Value.int .i64 i2))) 41 (SV.val (Value.pointer x0))) 42 (SV.val (ptr b3 o4))) 43 (SV.val (ptr b3 (o4 + 1)))) 44 (SV.val (Value.int .i64 i6))) 45 (SV.val (Value.bool (decide ((i2 : Int) ≥ i6))))) 46 (SV.val (Value.bool true))) 47 (SV.priv 4 4)) 48 (SV.val (Value.int .i64 i8))) 49 (SV.val (Value.pointer x0))) 50 (SV.val (ptr b9 o10))) 51 (SV.val (ptr b9 (o10 + 2)))) 52 (SV.val (Value.int .i64 i12))) 53 (SV.val (Value.bool (decide ((i8 : Int) ≤ i12))))) 54 (SV.val (Value.bool (decide ((i8 : Int) ≤ i12))))) (upd V0 4 (75, k4)) hp)))))) (K (upd (upd (upd (upd (upd (upd (upd (upd (upd (upd (upd (upd (upd (upd (upd (upd (upd (upd e 4 (SV.priv 4 0)) 0 (SV.val (Value.pointer x0))) 39 (SV.priv 4 4)) 40 (SV.val (Value.int .i64 i2))) 41 (SV.val (Value.pointer x0))) 42 (SV.val (ptr b3 o4))) 43 (SV.val (ptr b3 (o4 + 1)))) 44 (SV.val (Value.int .i64 i6))) 45 (SV.val (Value.bool (decide ((i2 : Int) ≥ i6))))) 46 (SV.val (Value.bool false))) 47 (SV.val undef)) 48 (SV.val undef)) 49 (SV.val undef)) 50 (SV.val undef)) 51 (SV.val undef)) 52 (SV.val undef)) 53 (SV.val undef)) 54 (SV.val (Value.bool false))) (upd V0 4 (75, k4)) hp))))))) := by kernel_rfl
def F54_l4 (x0 : Option Addr) (x34 : Value) (K : Value → HP → Prop) (I4 : (Int) → HP → Prop) (x3 : Int) (hp : HP) : Prop :=
  (opS Try.prog (Instr.next x34 false 0) hp fun u_15 h_16 => (tupI u_15 0 fun v_17 => (boolV v_17 fun q_18 => (ite2 q_18 (rdS Try.prog (Instr.entry x34) h_16 fun u_19 => (tupI u_19 0 fun v_20 => (aggV v_20 fun l_21 => (if List.length l_21 = 5 then (if List.all l_21 one = true then (if 0 + List.length l_21 ≤ List.length [(Value.int .u8 0), (Value.int .u8 0), (Value.int .u8 0), (Value.int .u8 0), (Value.int .i64 0)] then (ldV ((splice [(Value.int .u8 0), (Value.int .u8 0), (Value.int .u8 0), (Value.int .u8 0), (Value.int .i64 0)] 0 l_21))[4]? fun v_22 => (intV v_22 .i64 fun i_23 => (ptrN x0 fun b_24 o_25 => (ldV (HP.cell h_16 b_24 (o_25 + 1)) fun v_26 => (intV v_26 .i64 fun i_27 => (ite2 (decide ((i_23 : Int) ≥ i_27)) (ldV ((splice [(Value.int .u8 0), (Value.int .u8 0), (Value.int .u8 0), (Value.int .u8 0), (Value.int .i64 0)] 0 l_21))[4]? fun v_28 => (intV v_28 .i64 fun i_29 => (ptrN x0 fun b_30 o_31 => (ldV (HP.cell h_16 b_30 (o_31 + 2)) fun v_32 => (intV v_32 .i64 fun i_33 => (F54_j5 x0 x3 x34 (decide ((i_29 : Int) ≤ i_33)) h_16 I4 K)))))) (F54_j5 x0 x3 x34 false h_16 I4 K))))))) else False) else False) else False)))) (F54_j2 x3 h_16  K)))))
def F54_j3 (x0 : Option Addr) (x3 : Int) (x34 : Value) (hp : HP) (K : Value → HP → Prop) : Prop :=
  (LoopP (σ := Int) (fun I s hp => F54_l4 x0 x34  K I s hp) x3 hp)
theorem F54_r8 (e : Env) (x0 : Option Addr) (hp : HP) (K : Env → PV → HP → Prop) : RW Try.prog 58 [4, 39, 47] (opsAt Try.f54 [1, 1, 1, 0, 0]) (List.range 5) (upd e 0 (SV.val (Value.pointer x0))) V0 hp K =
    (ptrN x0 fun b1 o2 => (ldV (HP.cell hp b1 (o2 + 3)) fun v3 => (mapV v3 fun m4 => (opS Try.prog (Instr.range 158 (Value.map m4)) hp fun u5 h6 => (K (upd (upd (upd (upd (upd (upd e 0 (SV.val (Value.pointer x0))) 30 (SV.val (Value.pointer x0))) 31 (SV.val (ptr b1 o2))) 32 (SV.val (ptr b1 (o2 + 3)))) 33 (SV.val (Value.map m4))) 34 (SV.val u5)) V0 h6))))) := by kernel_rfl
def F54_j1 (x0 : Option Addr) (x13 : Bool) (hp : HP) (K : Value → HP → Prop) : Prop :=
  (ite2 x13 (K (Value.int .i64 0) hp) (ptrN x0 fun b_1 o_2 => (ldV (HP.cell hp b_1 (o_2 + 0)) fun v_3 => (slcV v_3 fun a_4 n_5 c_6 => (ptrN x0 fun b_7 o_8 => (ldV (HP.cell hp b_7 (o_8 + 2)) fun v_9 => (intV v_9 .i64 fun i_10 => (ptrN x0 fun b_11 o_12 => (ldV (HP.cell hp b_11 (o_12 + 1)) fun v_13 => (intV v_13 .i64 fun i_14 => (ptrN x0 fun b_34 o_35 => (ldV (HP.cell hp b_34 (o_35 + 3)) fun v_36 => (mapV v_36 fun m_37 => (opS Try.prog (Instr.range 158 (Value.map m_37)) hp fun u_38 h_39 => (F54_j3 x0 (IntKind.wrap .i64 ((n_5 : Nat) * (IntKind.wrap .i64 ((IntKind.wrap .i64 (i_10 - i_14)) + 1)))) u_38 h_39  K)))))))))))))))
theorem F54_r9 (e : Env) (x0 : Option Addr) (hp : HP) (K : Env → PV → HP → Prop) : RW Try.prog 58 [4, 39, 47] (opsAt Try.f54 [1, 0, 0]) (List.range 9) (upd e 0 (SV.val (Value.pointer x0))) V0 hp K =
    (ite2 (Option.isNone x0) (K (upd (upd (upd (upd (upd (upd (upd (upd (upd (upd e 0 (SV.val (Value.pointer x0))) 5 (SV.val (Value.pointer x0))) 6 (SV.val (Value.bool (Option.isNone x0)))) 7 (SV.val (Value.bool true))) 8 (SV.val undef)) 9 (SV.val undef)) 10 (SV.val undef)) 11 (SV.val undef)) 12 (SV.val undef)) 13 (SV.val (Value.bool true))) V0 hp) (ptrN x0 fun b1 o2 => (ldV (HP.cell hp b1 (o2 + 3)) fun v3 => (mapV v3 fun m4 => (K (upd (upd (upd (upd (upd (upd (upd (upd (upd (upd e 0 (SV.val (Value.pointer x0))) 5 (SV.val (Value.pointer x0))) 6 (SV.val (Value.bool (Option.isNone x0)))) 7 (SV.val (Value.bool false))) 8 (SV.val (Value.pointer x0))) 9 (SV.val (ptr b1 o2))) 10 (SV.val (ptr b1 (o2 + 3)))) 11 (SV.val (Value.map m4))) 12 (SV.val (Value.bool (Option.isNone m4)))) 13 (SV.val (Value.bool (Option.isNone m4)))) V0 hp))))) := by kernel_rfl
def F54 (x0 : Option Addr) (hp : HP) (K : Value → HP → Prop) : Prop :=
  (ite2 (Option.isNone x0) (F54_j1 x0 true hp  K) (ptrN x0 fun b_40 o_41 => (ldV (HP.cell hp b_40 (o_41 + 3)) fun v_42 => (mapV v_42 fun m_43 => (F54_j1 x0 (Option.isNone m_43) hp  K)))))
noncomputable def F54_code : Code := (.seq (.region 0 (opsAt Try.f54 [0]) false) (.seq (.seq (.region 1 (opsAt Try.f54 [1, 0, 0]) false) (.cond (.tmp 13) (.seq (.region 2 (opsAt Try.f54 [1, 0, 1, 0, 0]) false) .ret) .skip)) (.seq (.region 3 (opsAt Try.f54 [1, 1, 0]) true) (.seq (.seq (.region 4 (opsAt Try.f54 [1, 1, 1, 0, 0]) false) (.block 0 (.loop (.seq (.region 5 (opsAt Try.f54 [1, 1, 1, 0, 1, 0, 0, 0]) false) (.seq (.cond (.tmp 36) .skip (.exit 0)) (.block 1 (.seq (.region 6 (opsAt Try.f54 [1, 1, 1, 0, 1, 0, 0, 1, 1, 0, 0]) false) (.seq (.region 7 (opsAt Try.f54 [1, 1, 1, 0, 1, 0, 0, 1, 1, 0, 1, 0]) true) (.cond (.tmp 54) (.region 8 (opsAt Try.f54 [1, 1, 1, 0, 1, 0, 0, 1, 1, 0, 1, 1, 0]) false) .skip))))))))) (.seq (.region 9 (opsAt Try.f54 [1, 1, 1, 1, 0]) false) .ret)))))
theorem F54_body : Try.f54.body = some F54_code := by kernel_rfl
theorem F54_ok (x0 : Option Addr) (hp : HP) (K : Value → HP → Prop) (h : F54 x0 hp K) : CF Try.prog 54 [(Value.pointer x0)] hp K := by
  refine ⟨by kernel_rfl, AC.intro (N := 58) Try.func54 F54_body rfl (Nat.le_of_ble_eq_true rfl) ?_⟩
  unfold F54 at h
  unfold F54_code
  refine AWP.seq' ?_
  refine AWP.rgn (F54_r0 (upd E0 0 (SV.val (Value.pointer x0)))  hp _) ?_ (RefOk.v 0 _ (RefOk.nil _)) (Sub.cons rfl (Sub.nil _)) (Sub.nil _)
  refine AWP.seq' ?_
  refine AWP.seq (fun env pv hp => ∃ (x0 : Option Addr) (x13 : Bool), Sub (upd (upd E0 13 (SV.val (Value.bool x13))) 0 (SV.val (Value.pointer x0))) env ∧ Sub V0 pv ∧ (F54_j1 x0 x13 hp  K)) ?_ ?_
  · refine AWP.rgn (F54_r9 E0 x0 hp _) ?_ (RefOk.v 0 _ (RefOk.nil _)) (Sub.cons rfl (Sub.nil _)) (Sub.nil _)
    refine ite2_mono h (fun h => ?_) (fun h => ?_)
    · exact ⟨x0, true, (Sub.cons rfl (Sub.cons rfl (Sub.nil _))), (Sub.nil _), h⟩
    · refine ptrN_mono h (fun b_40 o_41 h => ?_)
      refine ldV_mono h (fun v_42 h => ?_)
      refine mapV_mono h (fun m_43 h => ?_)
      exact ⟨x0, (Option.isNone m_43), (Sub.cons rfl (Sub.cons rfl (Sub.nil _))), (Sub.nil _), h⟩
  · rintro env pv hp ⟨x0, x13, he, hv, h⟩
    refine AWP.sub (env' := (upd (upd E0 13 (SV.val (Value.bool x13))) 0 (SV.val (Value.pointer x0)))) (pv' := V0) ?_ (RefOk.v 0 _ (RefOk.v 13 _ (RefOk.nil _))) he hv (HSub.refl _)
    clear he hv
    unfold F54_j1 at h
    refine AWP.cond (t := x13) rfl (fun e => ?_) (fun e => ?_)
    · replace h := ite2_t h e
      refine AWP.seq' ?_
      refine AWP.rgn (F54_r1 E0  hp _) ?_ (RefOk.nil _) (Sub.nil _) (Sub.nil _)
      refine AWP.ret ?_
      exact h
    · replace h := ite2_f h e
      refine AWP.skip ?_
      refine AWP.seq' ?_
      refine AWP.rgnD (by kernel_rfl) (by kernel_rfl) (F54_r2 E0 x0 hp _) ?_ (RefOk.v 0 _ (RefOk.nil _)) (Sub.cons rfl (Sub.nil _)) (Sub.nil _)
      refine ptrN_mono h (fun b_1 o_2 h => ?_)
      refine ldV_mono h (fun v_3 h => ?_)
      refine slcV_mono h (fun a_4 n_5 c_6 h => ?_)
      refine ptrN_mono h (fun b_7 o_8 h => ?_)
      refine ldV_mono h (fun v_9 h => ?_)
      refine intV_mono h (fun i_10 h => ?_)
      refine ptrN_mono h (fun b_11 o_12 h => ?_)
      refine ldV_mono h (fun v_13 h => ?_)
      refine intV_mono h (fun i_14 h => ?_)
      refine AWP.seq (fun env pv hp => ∃ (x3 : Int), Sub (upd E0 3 (SV.val (Value.int .i64 x3))) env ∧ Sub V0 pv ∧ (F54_j2 x3 hp  K)) ?_ ?_
      · refine AWP.seq (fun env pv hp => ∃ (x0 : Option Addr) (x3 : Int) (x34 : Value), Sub (upd (upd (upd E0 34 (SV.val x34)) 3 (SV.val (Value.int .i64 x3))) 0 (SV.val (Value.pointer x0))) env ∧ Sub V0 pv ∧ (F54_j3 x0 x3 x34 hp  K)) ?_ ?_
        · refine AWP.rgn (F54_r8 (upd E0 3 (SV.val (Value.int .i64 (IntKind.wrap .i64 ((n_5 : Nat) * (IntKind.wrap .i64 ((IntKind.wrap .i64 (i_10 - i_14)) + 1))))))) x0 hp _) ?_ (RefOk.v 0 _ (RefOk.v 3 _ (RefOk.nil _))) (Sub.cons rfl (Sub.cons rfl (Sub.nil _))) (Sub.nil _)
          refine ptrN_mono h (fun b_34 o_35 h => ?_)
          refine ldV_mono h (fun v_36 h => ?_)
          refine mapV_mono h (fun m_37 h => ?_)
          refine opS_mono h (fun u_38 h_39 h => ?_)
          exact ⟨x0, (IntKind.wrap .i64 ((n_5 : Nat) * (IntKind.wrap .i64 ((IntKind.wrap .i64 (i_10 - i_14)) + 1)))), u_38, (Sub.cons rfl (Sub.cons rfl (Sub.cons rfl (Sub.nil _)))), (Sub.nil _), h⟩
        · rintro env pv hp ⟨x0, x3, x34, he, hv, h⟩
          refine AWP.sub (env' := (upd (upd (upd E0 34 (SV.val x34)) 3 (SV.val (Value.int .i64 x3))) 0 (SV.val (Value.pointer x0)))) (pv' := V0) ?_ (RefOk.v 0 _ (RefOk.v 3 _ (RefOk.v 34 _ (RefOk.nil _)))) he hv (HSub.refl _)
          clear he hv
          unfold F54_j3 at h
          refine AWP.block ?_
          refine AWP.loop (σ := Int) (fun I s hp => F54_l4 x0 x34  K I s hp) (fun s => (upd (upd (upd E0 34 (SV.val x34)) 3 (SV.val (Value.int .i64 s))) 0 (SV.val (Value.pointer x0)))) (fun s => V0) x3 h (fun s => (RefOk.v 0 _ (RefOk.v 3 _ (RefOk.v 34 _ (RefOk.nil _))))) (Sub.cons rfl (Sub.cons rfl (Sub.cons rfl (Sub.nil _)))) (Sub.nil _) ?_
          intro I4 s hp h
          obtain ⟨x3, hs⟩ : ∃ x, x = s := ⟨s, rfl⟩
          subst hs
          replace h : F54_l4 x0 x34  K I4 x3 hp := h
          unfold F54_l4 at h
          refine AWP.seq' ?_
          refine AWP.rgn (F54_r4 (upd (upd E0 3 (SV.val (Value.int .i64 x3))) 0 (SV.val (Value.pointer x0))) x34 hp _) ?_ (RefOk.v 34 _ (RefOk.v 0 _ (RefOk.v 3 _ (RefOk.nil _)))) (Sub.cons rfl (Sub.cons rfl (Sub.cons rfl (Sub.nil _)))) (Sub.nil _)
          refine opS_mono h (fun u_15 h_16 h => ?_)
          refine tupI_mono h (fun v_17 h => ?_)
          refine boolV_mono h (fun q_18 h => ?_)
          refine AWP.seq' ?_
          refine AWP.cond (t := q_18) rfl (fun e => ?_) (fun e => ?_)
          · replace h := ite2_t h e
            refine AWP.skip ?_
            refine AWP.block ?_
            refine AWP.seq' ?_
            refine AWP.rgn (F54_r5 (upd (upd E0 3 (SV.val (Value.int .i64 x3))) 0 (SV.val (Value.pointer x0))) x34 h_16 _) ?_ (RefOk.v 34 _ (RefOk.v 0 _ (RefOk.v 3 _ (RefOk.nil _)))) (Sub.cons rfl (Sub.cons rfl (Sub.cons rfl (Sub.nil _)))) (Sub.nil _)
            refine rdS_mono h (fun u_19 h => ?_)
            refine tupI_mono h (fun v_20 h => ?_)
            refine aggV_mono h (fun l_21 h => ?_)
            refine if_mono h (fun h => ?_)
            refine if_mono h (fun h => ?_)
            refine if_mono h (fun h => ?_)
            refine AWP.seq (fun env pv hp => ∃ (x3 : Int) (x54 : Bool), Sub (upd (upd (upd (upd E0 54 (SV.val (Value.bool x54))) 34 (SV.val x34)) 3 (SV.val (Value.int .i64 x3))) 0 (SV.val (Value.pointer x0))) env ∧ Sub V0 pv ∧ (F54_j5 x0 x3 x34 x54 hp I4 K)) ?_ ?_
            · refine AWP.rgnD (by kernel_rfl) (by kernel_rfl) (F54_r7 (upd (upd E0 34 (SV.val x34)) 3 (SV.val (Value.int .i64 x3))) x0 (splice [(Value.int .u8 0), (Value.int .u8 0), (Value.int .u8 0), (Value.int .u8 0), (Value.int .i64 0)] 0 l_21) h_16 _) ?_ (RefOk.v 0 _ (RefOk.p 4 4 0 (RefOk.v 3 _ (RefOk.v 34 _ (RefOk.nil _))) (fun e => by cases e))) (Sub.cons rfl (Sub.cons rfl (Sub.cons rfl (Sub.cons rfl (Sub.nil _))))) (Sub.cons rfl (Sub.nil _))
              refine ldV_mono h (fun v_22 h => ?_)
              refine intV_mono h (fun i_23 h => ?_)
              refine ptrN_mono h (fun b_24 o_25 h => ?_)
              refine ldV_mono h (fun v_26 h => ?_)
              refine intV_mono h (fun i_27 h => ?_)
              refine ite2_mono h (fun h => ?_) (fun h => ?_)
              · refine ldV_mono h (fun v_28 h => ?_)
                refine intV_mono h (fun i_29 h => ?_)
                refine ptrN_mono h (fun b_30 o_31 h => ?_)
                refine ldV_mono h (fun v_32 h => ?_)
                refine intV_mono h (fun i_33 h => ?_)
                exact ⟨x3, (decide ((i_29 : Int) ≤ i_33)), (Sub.cons rfl (Sub.cons rfl (Sub.cons rfl (Sub.cons rfl (Sub.nil _))))), (Sub.nil _), h⟩
              · exact ⟨x3, false, (Sub.cons rfl (Sub.cons rfl (Sub.cons rfl (Sub.cons rfl (Sub.nil _))))), (Sub.nil _), h⟩
            · rintro env pv hp ⟨x3, x54, he, hv, h⟩
              refine AWP.sub (env' := (upd (upd (upd (upd E0 54 (SV.val (Value.bool x54))) 34 (SV.val x34)) 3 (SV.val (Value.int .i64 x3))) 0 (SV.val (Value.pointer x0)))) (pv' := V0) ?_ (RefOk.v 0 _ (RefOk.v 3 _ (RefOk.v 34 _ (RefOk.v 54 _ (RefOk.nil _))))) he hv (HSub.refl _)
              clear he hv
              unfold F54_j5 at h
              refine AWP.cond (t := x54) rfl (fun e => ?_) (fun e => ?_)
              · replace h := ite2_t h e
                refine AWP.rgn (F54_r6 (upd (upd E0 34 (SV.val x34)) 0 (SV.val (Value.pointer x0))) x3 hp _) ?_ (RefOk.v 3 _ (RefOk.v 0 _ (RefOk.v 34 _ (RefOk.nil _)))) (Sub.cons rfl (Sub.cons rfl (Sub.cons rfl (Sub.nil _)))) (Sub.nil _)
                exact ⟨(IntKind.wrap .i64 (x3 - 1)), (Sub.cons rfl (Sub.cons rfl (Sub.cons rfl (Sub.nil _)))), (Sub.nil _), h⟩
              · replace h := ite2_f h e
                refine AWP.skip ?_
                exact ⟨x3, (Sub.cons rfl (Sub.cons rfl (Sub.cons rfl (Sub.nil _)))), (Sub.nil _), h⟩
          · replace h := ite2_f h e
            refine AWP.exit ?_
            exact ⟨x3, (Sub.cons rfl (Sub.nil _)), (Sub.nil _), h⟩
      · rintro env pv hp ⟨x3, he, hv, h⟩
        refine AWP.sub (env' := (upd E0 3 (SV.val (Value.int .i64 x3)))) (pv' := V0) ?_ (RefOk.v 3 _ (RefOk.nil _)) he hv (HSub.refl _)
        clear he hv
        unfold F54_j2 at h
        refine AWP.seq' ?_
        refine AWP.rgn (F54_r3 E0 x3 hp _) ?_ (RefOk.v 3 _ (RefOk.nil _)) (Sub.cons rfl (Sub.nil _)) (Sub.nil _)
        refine AWP.ret ?_
        exact h

-- 55 interpreter/interpreterref18.Right
theorem F55_r0 (e : Env) (hp : HP) (K : Env → PV → HP → Prop) : RW Try.prog 57 [] (opsAt Try.f55 [0]) (List.range 1) e V0 hp K =
    (K (upd e 6 (SV.val (Value.bool false))) V0 hp) := by kernel_rfl
theorem F55_r1 (e : Env) (x0a : Option Addr) (x0n : Nat) (x0c : Nat) (x1 : Int) (x2 : Int) (hp : HP) (K : Env → PV → HP → Prop) : RW Try.prog 57 [] (opsAt Try.f55 [1, 1, 0]) (List.range 29) (upd (upd (upd e 2 (SV.val (Value.int .i64 x2))) 1 (SV.val (Value.int .i64 x1))) 0 (SV.val (Value.slice x0a x0n x0c))) V0 hp K =
    (ite2 (decide (((x0n : Nat) : Int) ≥ 1)) (ite2 (decide (((x0n : Nat) : Int) ≤ 4)) (ite2 (decide ((x1 : Int) ≥ 0)) (ite2 (decide ((x1 : Int) ≤ x2)) (ite2 (decide ((x2 : Int) ≤ 65535)) (K (upd (upd (upd (upd (upd (upd (upd (upd (upd (upd (upd (upd (upd (upd (upd (upd (upd (upd (upd (upd (upd (upd (upd (upd (upd (upd (upd (upd (upd (upd (upd (upd e 2 (SV.val (Value.int .i64 x2))) 1 (SV.val (Value.int .i64 x1))) 0 (SV.val (Value.slice x0a x0n x0c))) 29 (SV.val (Value.slice x0a x0n x0c))) 30 (SV.val (Value.int .i64 (x0n : Nat)))) 31 (SV.val (Value.bool (decide (((x0n : Nat) : Int) ≥ 1))))) 32 (SV.val (Value.bool true))) 33 (SV.val (Value.slice x0a x0n x0c))) 34 (SV.val (Value.int .i64 (x0n : Nat)))) 35 (SV.val (Value.bool (decide (((x0n : Nat) : Int) ≤ 4))))) 36 (SV.val (Value.bool (decide (((x0n : Nat) : Int) ≤ 4))))) 37 (SV.val (Value.bool true))) 38 (SV.val (Value.int .i64 x1))) 39 (SV.val (Value.bool (decide ((x1 : Int) ≥ 0))))) 40 (SV.val (Value.bool (decide ((x1 : Int) ≥ 0))))) 41 (SV.val (Value.bool true))) 42 (SV.val (Value.int .i64 x1))) 43 (SV.val (Value.int .i64 x2))) 44 (SV.val (Value.bool (decide ((x1 : Int) ≤ x2))))) 45 (SV.val (Value.bool (decide ((x1 : Int) ≤ x2))))) 46 (SV.val (Value.bool true))) 47 (SV.val (Value.int .i64 x2))) 48 (SV.val (Value.bool (decide ((x2 : Int) ≤ 65535))))) 49 (SV.val (Value.bool (decide ((x2 : Int) ≤ 65535))))) 50 (SV.val (Value.bool true))) 51 (SV.val (Value.int .i64 x2))) 52 (SV.val (Value.int .i64 x1))) 53 (SV.val (Value.int .i64 (IntKind.wrap .i64 (x2 - x1))))) 54 (SV.val (Value.int .i64 (IntKind.wrap .i64 ((IntKind.wrap .i64 (x2 - x1)) + 1))))) 55 (SV.val (Value.bool (decide (((IntKind.wrap .i64 ((IntKind.wrap .i64 (x2 - x1)) + 1)) : Int) ≤ 1024))))) 56 (SV.val (Value.bool (decide (((IntKind.wrap .i64 ((IntKind.wrap .i64 (x2 - x1)) + 1)) : Int) ≤ 1024))))) 6 (SV.val (Value.bool (decide (((IntKind.wrap .i64 ((IntKind.wrap .i64 (x2 - x1)) + 1)) : Int) ≤ 1024))))) V0 hp) (K (upd (upd (upd (upd (upd (upd (upd (upd (upd (upd (upd (upd (upd (upd (upd (upd (upd (upd (upd (upd (upd (upd (upd (upd (upd (upd (upd (upd (upd (upd (upd (upd e 2 (SV.val (Value.int .i64 x2))) 1 (SV.val (Value.int .i64 x1))) 0 (SV.val (Value.slice x0a x0n x0c))) 29 (SV.val (Value.slice x0a x0n x0c))) 30 (SV.val (Value.int .i64 (x0n : Nat)))) 31 (SV.val (Value.bool (decide (((x0n : Nat) : Int) ≥ 1))))) 32 (SV.val (Value.bool true))) 33 (SV.val (Value.slice x0a x0n x0c))) 34 (SV.val (Value.int .i64 (x0n : Nat)))) 35 (SV.val (Value.bool (decide (((x0n : Nat) : Int) ≤ 4))))) 36 (SV.val (Value.bool (decide (((x0n : Nat) : Int) ≤ 4))))) 37 (SV.val (Value.bool true))) 38 (SV.val (Value.int .i64 x1))) 39 (SV.val (Value.bool (decide ((x1 : Int) ≥ 0))))) 40 (SV.val (Value.bool (decide ((x1 : Int) ≥ 0))))) 41 (SV.val (Value.bool true))) 42 (SV.val (Value.int .i64 x1))) 43 (SV.val (Value.int .i64 x2))) 44 (SV.val (Value.bool (decide ((x1 : Int) ≤ x2))))) 45 (SV.val (Value.bool (decide ((x1 : Int) ≤ x2))))) 46 (SV.val (Value.bool true))) 47 (SV.val (Value.int .i64 x2))) 48 (SV.val (Value.bool (decide ((x2 : Int) ≤ 65535))))) 49 (SV.val (Value.bool (decide ((x2 : Int) ≤ 65535))))) 50 (SV.val (Value.bool false))) 51 (SV.val undef)) 52 (SV.val undef)) 53 (SV.val undef)) 54 (SV.val undef)) 55 (SV.val undef)) 56 (SV.val (Value.bool false))) 6 (SV.val (Value.bool false))) V0 hp)) (K (upd (upd (upd (upd (upd (upd (upd (upd (upd (upd (upd (upd (upd (upd (upd (upd (upd (upd (upd (upd (upd (upd (upd (upd (upd (upd (upd (upd (upd (upd (upd (upd e 2 (SV.val (Value.int .i64 x2))) 1 (SV.val (Value.int .i64 x1))) 0 (SV.val (Value.slice x0a x0n x0c))) 29 (SV.val (Value.slice x0a x0n x0c))) 30 (SV.val (Value.int .i64 (x0n : Nat)))) 31 (SV.val (Value.bool (decide (((x0n : Nat) : Int) ≥ 1))))) 32 (SV.val (Value.bool true))) 33 (SV.val (Value.slice x0a x0n x0c))) 34 (SV.val (Value.int .i64 (x0n : Nat)))) 35 (SV.val (Value.bool (decide (((x0n : Nat) : Int) ≤ 4))))) 36 (SV.val (Value.bool (decide (((x0n : Nat) : Int) ≤ 4))))) 37 (SV.val (Value.bool true))) 38 (SV.val (Value.int .i64 x1))) 39 (SV.val (Value.bool (decide ((x1 : Int) ≥ 0))))) 40 (SV.val (Value.bool (decide ((x1 : Int) ≥ 0))))) 41 (SV.val (Value.bool true))) 42 (SV.val (Value.int .i64 x1))) 43 (SV.val (Value.int .i64 x2))) 44 (SV.val (Value.bool (decide ((x1 : Int) ≤ x2))))) 45 (SV.val (Value.bool (decide ((x1 : Int) ≤ x2))))) 46 (SV.val (Value.bool false))) 47 (SV.val undef)) 48 (SV.val undef)) 49 (SV.val (Value.bool false))) 50 (SV.val (Value.bool false))) 51 (SV.val undef)) 52 (SV.val undef)) 53 (SV.val undef)) 54 (SV.val undef)) 55 (SV.val undef)) 56 (SV.val (Value.bool false))) 6 (SV.val (Value.bool false))) V0 hp)) (K (upd (upd (upd (upd (upd (upd (upd (upd (upd (upd (upd (upd (upd (upd (upd (upd (upd (upd (upd (upd (upd (upd (upd (upd (upd (upd (upd (upd (upd (upd (upd (upd e 2 (SV.val (Value.int .i64 x2))) 1 (SV.val (Value.int .i64 x1))) 0 (SV.val (Value.slice x0a x0n x0c))) 29 (SV.val (Value.slice x0a x0n x0c))) 30 (SV.val (Value.int .i64 (x0n : Nat)))) 31 (SV.val (Value.bool (decide (((x0n : Nat) : Int) ≥ 1))))) 32 (SV.val (Value.bool true))) 33 (SV.val (Value.slice x0a x0n x0c))) 34 (SV.val (Value.int .i64 (x0n : Nat)))) 35 (SV.val (Value.bool (decide (((x0n : Nat) : Int) ≤ 4))))) 36 (SV.val (Value.bool (decide (((x0n : Nat) : Int) ≤ 4))))) 37 (SV.val (Value.bool true))) 38 (SV.val (Value.int .i64 x1))) 39 (SV.val (Value.bool (decide ((x1 : Int) ≥ 0))))) 40 (SV.val (Value.bool (decide ((x1 : Int) ≥ 0))))) 41 (SV.val (Value.bool false))) 42 (SV.val undef)) 43 (SV.val undef)) 44 (SV.val undef)) 45 (SV.val (Value.bool false))) 46 (SV.val (Value.bool false))) 47 (SV.val undef)) 48 (SV.val undef)) 49 (SV.val (Value.bool false))) 50 (SV.val (Value.bool false))) 51 (SV.val undef)) 52 (SV.val undef)) 53 (SV.val undef)) 54 (SV.val undef)) 55 (SV.val undef)) 56 (SV.val (Value.bool false))) 6 (SV.val (Value.bool false))) V0 hp)) (K (upd (upd (upd (upd (upd (upd (upd (upd (upd (upd (upd (upd (upd (upd (upd (upd (upd (upd (upd (upd (upd (upd (upd (upd (upd (upd (upd (upd (upd (upd (upd (upd e 2 (SV.val (Value.int .i64 x2))) 1 (SV.val (Value.int .i64 x1))) 0 (SV.val (Value.slice x0a x0n x0c))) 29 (SV.val (Value.slice x0a x0n x0c))) 30 (SV.val (Value.int .i64 (x0n : Nat)))) 31 (SV.val (Value.bool (decide (((x0n : Nat) : Int) ≥ 1))))) 32 (SV.val (Value.bool true))) 33 (SV.val (Value.slice x0a x0n x0c))) 34 (SV.val (Value.int .i64 (x0n : Nat)))) 35 (SV.val (Value.bool (decide (((x0n : Nat) : Int) ≤ 4))))) 36 (SV.val (Value.bool (decide (((x0n : Nat) : Int) ≤ 4))))) 37 (SV.val (Value.bool false))) 38 (SV.val undef)) 39 (SV.val undef)) 40 (SV.val (Value.bool false))) 41 (SV.val (Value.bool false))) 42 (SV.val undef)) 43 (SV.val undef)) 44 (SV.val undef)) 45 (SV.val (Value.bool false))) 46 (SV.val (Value.bool false))) 47 (SV.val undef)) 48 (SV.val undef)) 49 (SV.val (Value.bool false))) 50 (SV.val (Value.bool false))) 51 (SV.val undef)) 52 (SV.val undef)) 53 (SV.val undef)) 54 (SV.val undef)) 55 (SV.val undef)) 56 (SV.val (Value.bool false))) 6 (SV.val (Value.bool false))) V0 hp)) (K (upd (upd (upd (upd (upd (upd (upd (upd (upd (upd (upd (upd (upd (upd (upd (upd (upd (upd (upd (upd (upd (upd (upd (upd (upd (upd (upd (upd (upd (upd (upd (upd e 2 (SV.val (Value.int .i64 x2))) 1 (SV.val (Value.int .i64 x1))) 0 (SV.val (Value.slice x0a x0n x0c))) 29 (SV.val (Value.slice x0a x0n x0c))) 30 (SV.val (Value.int .i64 (x0n : Nat)))) 31 (SV.val (Value.bool (decide (((x0n : Nat) : Int) ≥ 1))))) 32 (SV.val (Value.bool false))) 33 (SV.val undef)) 34 (SV.val undef)) 35 (SV.val undef)) 36 (SV.val (Value.bool false))) 37 (SV.val (Value.bool false))) 38 (SV.val undef)) 39 (SV.val undef)) 40 (SV.val (Value.bool false))) 41 (SV.val (Value.bool false))) 42 (SV.val undef)) 43 (SV.val undef)) 44 (SV.val undef)) 45 (SV.val (Value.bool false))) 46 (SV.val (Value.bool false))) 47 (SV.val undef)) 48 (SV.val undef)) 49 (SV.val (Value.bool false))) 50 (SV.val (Value.bool false))) 51 (SV.val undef)) 52 (SV.val undef)) 53 (SV.val undef)) 54 (SV.val undef)) 55 (SV.val undef)) 56 (SV.val (Value.bool false))) 6 (SV.val (Value.bool false))) V0 hp)) := by kernel_rfl
def F55_j1 (x0a : Option Addr) (x0n : Nat) (x0c : Nat) (x1 : Int) (x2 : Int) (hp : HP) (K : Value → HP → Prop) : Prop :=
  (ite2 (decide (((x0n : Nat) : Int) ≥ 1)) (ite2 (decide (((x0n : Nat) : Int) ≤ 4)) (ite2 (decide ((x1 : Int) ≥ 0)) (ite2 (decide ((x1 : Int) ≤ x2)) (ite2 (decide ((x2 : Int) ≤ 65535)) (K (Value.bool (decide (((IntKind.wrap .i64 ((IntKind.wrap .i64 (x2 - x1)) + 1)) : Int) ≤ 1024))) hp) (K (Value.bool false) hp)) (K (Value.bool false) hp)) (K (Value.bool false) hp)) (K (Value.bool false) hp)) (K (Value.bool false) hp))
theorem F55_r2 (e : Env) (x0a : Option Addr) (x0n : Nat) (x0c : Nat) (x7 : Int) (hp : HP) (K : Env → PV → HP → Prop) : RW Try.prog 57 [] (opsAt Try.f55 [1, 0, 1, 0, 0, 0, 0]) (List.range 4) (upd (upd e 7 (SV.val (Value.int .i64 x7))) 0 (SV.val (Value.slice x0a x0n x0c))) V0 hp K =
    (K (upd (upd (upd (upd (upd (upd e 7 (SV.val (Value.int .i64 x7))) 0 (SV.val (Value.slice x0a x0n x0c))) 9 (SV.val (Value.int .i64 x7))) 10 (SV.val (Value.slice x0a x0n x0c))) 11 (SV.val (Value.int .i64 (x0n : Nat)))) 12 (SV.val (Value.bool (decide ((x7 : Int) < (x0n : Nat)))))) V0 hp) := by kernel_rfl
theorem F55_r3 (e : Env) (x7 : Int) (hp : HP) (K : Env → PV → HP → Prop) : RW Try.prog 57 [] (opsAt Try.f55 [1, 0, 1, 0, 0, 1, 1]) (List.range 3) (upd e 7 (SV.val (Value.int .i64 x7))) V0 hp K =
    (K (upd (upd (upd (upd e 7 (SV.val (Value.int .i64 x7))) 13 (SV.val (Value.int .i64 x7))) 14 (SV.val (Value.int .i64 (IntKind.wrap .i64 (x7 + 1))))) 7 (SV.val (Value.int .i64 (IntKind.wrap .i64 (x7 + 1))))) V0 hp) := by kernel_rfl
def F55_j4 (x0a : Option Addr) (x0n : Nat) (x0c : Nat) (x1 : Int) (x2 : Int) (x7 : Int) (hp : HP) (I3 : (Int) → HP → Prop) (K : Value → HP → Prop) : Prop :=
  (I3 (IntKind.wrap .i64 (x7 + 1)) hp)
theorem F55_r4 (e : Env) (x7 : Int) (x8 : Int) (hp : HP) (K : Env → PV → HP → Prop) : RW Try.prog 57 [] (opsAt Try.f55 [1, 0, 1, 0, 0, 1, 0, 0, 1, 0, 0, 0, 0]) (List.range 3) (upd (upd e 8 (SV.val (Value.int .i64 x8))) 7 (SV.val (Value.int .i64 x7))) V0 hp K =
    (K (upd (upd (upd (upd (upd e 8 (SV.val (Value.int .i64 x8))) 7 (SV.val (Value.int .i64 x7))) 15 (SV.val (Value.int .i64 x8))) 16 (SV.val (Value.int .i64 x7))) 17 (SV.val (Value.bool (decide ((x8 : Int) < x7))))) V0 hp) := by kernel_rfl
theorem F55_r5 (e : Env) (x0a : Option Addr) (x0n : Nat) (x0c : Nat) (x7 : Int) (x8 : Int) (hp : HP) (K : Env → PV → HP → Prop) : RW Try.prog 57 [] (opsAt Try.f55 [1, 0, 1, 0, 0, 1, 0, 0, 1, 0, 0, 1, 0, 0, 0]) (List.range 9) (upd (upd (upd e 8 (SV.val (Value.int .i64 x8))) 7 (SV.val (Value.int .i64 x7))) 0 (SV.val (Value.slice x0a x0n x0c))) V0 hp K =
    ((0 ≤ (x7 : Int)) ∧ ((x7 : Int) < (x0n : Nat)) ∧ (ptrN x0a fun b1 o2 => (ldL (HP.cellN hp b1 (o2 + Int.toNat x7 * 4) 4) fun l3 => ((0 ≤ (x8 : Int)) ∧ ((x8 : Int) < (x0n : Nat)) ∧ (ptrN x0a fun b4 o5 => (ldL (HP.cellN hp b4 (o5 + Int.toNat x8 * 4) 4) fun l6 => (eqAgg Try.prog 73 l3 l6 fun q7 => (K (upd (upd (upd (upd (upd (upd (upd (upd (upd (upd (upd (upd e 8 (SV.val (Value.int .i64 x8))) 7 (SV.val (Value.int .i64 x7))) 0 (SV.val (Value.slice x0a x0n x0c))) 20 (SV.val (Value.slice x0a x0n x0c))) 21 (SV.val (Value.int .i64 x7))) 22 (SV.val (ptr b1 (o2 + Int.toNat x7 * 4)))) 23 (SV.val (Value.agg ⟨l3⟩))) 24 (SV.val (Value.slice x0a x0n x0c))) 25 (SV.val (Value.int .i64 x8))) 26 (SV.val (ptr b4 (o5 + Int.toNat x8 * 4)))) 27 (SV.val (Value.agg ⟨l6⟩))) 28 (SV.val (Value.bool q7))) V0 hp)))))))) := by kernel_rfl
theorem F55_r6 (e : Env) (hp : HP) (K : Env → PV → HP → Prop) : RW Try.prog 57 [] (opsAt Try.f55 [1, 0, 1, 0, 0, 1, 0, 0, 1, 0, 0, 1, 0, 0, 1, 0, 0]) (List.range 1) e V0 hp K =
    (K (upd e 6 (SV.val (Value.bool false))) V0 hp) := by kernel_rfl
theorem F55_r7 (e : Env) (x8 : Int) (hp : HP) (K : Env → PV → HP → Prop) : RW Try.prog 57 [] (opsAt Try.f55 [1, 0, 1, 0, 0, 1, 0, 0, 1, 0, 0, 1, 1]) (List.range 3) (upd e 8 (SV.val (Value.int .i64 x8))) V0 hp K =
    (K (upd (upd (upd (upd e 8 (SV.val (Value.int .i64 x8))) 18 (SV.val (Value.int .i64 x8))) 19 (SV.val (Value.int .i64 (IntKind.wrap .i64 (x8 + 1))))) 8 (SV.val (Value.int .i64 (IntKind.wrap .i64 (x8 + 1))))) V0 hp) := by kernel_rfl
def F55_l6 (x0a : Option Addr) (x0n : Nat) (x0c : Nat) (x1 : Int) (x2 : Int) (x7 : Int) (I3 : (Int) → HP → Prop) (K : Value → HP → Prop) (I6 : (Int) → HP → Prop) (x8 : Int) (hp : HP) : Prop :=
  (ite2 (decide ((x8 : Int) < x7)) ((0 ≤ (x7 : Int)) ∧ ((x7 : Int) < (x0n : Nat)) ∧ (ptrN x0a fun b_1 o_2 => (ldL (HP.cellN hp b_1 (o_2 + Int.toNat x7 * 4) 4) fun l_3 => ((0 ≤ (x8 : Int)) ∧ ((x8 : Int) < (x0n : Nat)) ∧ (ptrN x0a fun b_4 o_5 => (ldL (HP.cellN hp b_4 (o_5 + Int.toNat x8 * 4) 4) fun l_6 => (eqAgg Try.prog 73 l_3 l_6 fun q_7 => (ite2 q_7 (K (Value.bool false) hp) (I6 (IntKind.wrap .i64 (x8 + 1)) hp))))))))) (F55_j4 x0a x0n x0c x1 x2 x7 hp I3 K))
def F55_j5 (x0a : Option Addr) (x0n : Nat) (x0c : Nat) (x1 : Int) (x2 : Int) (x7 : Int) (x8 : Int) (hp : HP) (I3 : (Int) → HP → Prop) (K : Value → HP → Prop) : Prop :=
  (LoopP (σ := Int) (fun I s hp => F55_l6 x0a x0n x0c x1 x2 x7 I3 K I s hp) x8 hp)
theorem F55_r8 (e : Env) (hp : HP) (K : Env → PV → HP → Prop) : RW Try.prog 57 [] (opsAt Try.f55 [1, 0, 1, 0, 0, 1, 0, 0, 0]) (List.range 1) e V0 hp K =
    (K (upd e 8 (SV.val (Value.int .i64 0))) V0 hp) := by kernel_rfl
def F55_l3 (x0a : Option Addr) (x0n : Nat) (x0c : Nat) (x1 : Int) (x2 : Int) (K : Value → HP → Prop) (I3 : (Int) → HP → Prop) (x7 : Int) (hp : HP) : Prop :=
  (ite2 (decide ((x7 : Int) < (x0n : Nat))) (F55_j5 x0a x0n x0c x1 x2 x7 0 hp I3 K) (F55_j1 x0a x0n x0c x1 x2 hp  K))
def F55_j2 (x0a : Option Addr) (x0n : Nat) (x0c : Nat) (x1 : Int) (x2 : Int) (x7 : Int) (hp : HP) (K : Value → HP → Prop) : Prop :=
  (LoopP (σ := Int) (fun I s hp => F55_l3 x0a x0n x0c x1 x2  K I s hp) x7 hp)
theorem F55_r9 (e : Env) (hp : HP) (K : Env → PV → HP → Prop) : RW Try.prog 57 [] (opsAt Try.f55 [1, 0, 0]) (List.range 1) e V0 hp K =
    (K (upd e 7 (SV.val (Value.int .i64 0))) V0 hp) := by kernel_rfl
def F55 (x0a : Option Addr) (x0n : Nat) (x0c : Nat) (x1 : Int) (x2 : Int) (hp : HP) (K : Value → HP → Prop) : Prop :=
  (F55_j2 x0a x0n x0c x1 x2 0 hp  K)
noncomputable def F55_code : Code := (.seq (.region 0 (opsAt Try.f55 [0]) false) (.seq (.seq (.region 1 (opsAt Try.f55 [1, 0, 0]) false) (.block 0 (.loop (.seq (.seq (.region 2 (opsAt Try.f55 [1, 0, 1, 0, 0, 0, 0]) false) (.cond (.tmp 12) .skip (.exit 0))) (.seq (.block 1 (.seq (.region 4 (opsAt Try.f55 [1, 0, 1, 0, 0, 1, 0, 0, 0]) false) (.block 2 (.loop (.seq (.seq (.region 5 (opsAt Try.f55 [1, 0, 1, 0, 0, 1, 0, 0, 1, 0, 0, 0, 0]) false) (.cond (.tmp 17) .skip (.exit 2))) (.seq (.block 3 (.seq (.region 7 (opsAt Try.f55 [1, 0, 1, 0, 0, 1, 0, 0, 1, 0, 0, 1, 0, 0, 0]) true) (.cond (.tmp 28) (.seq (.region 8 (opsAt Try.f55 [1, 0, 1, 0, 0, 1, 0, 0, 1, 0, 0, 1, 0, 0, 1, 0, 0]) false) .ret) .skip))) (.region 6 (opsAt Try.f55 [1, 0, 1, 0, 0, 1, 0, 0, 1, 0, 0, 1, 1]) false))))))) (.region 3 (opsAt Try.f55 [1, 0, 1, 0, 0, 1, 1]) false)))))) (.seq (.region 9 (opsAt Try.f55 [1, 1, 0]) false) .ret)))
theorem F55_body : Try.f55.body = some F55_code := by kernel_rfl
theorem F55_ok (x0a : Option Addr) (x0n : Nat) (x0c : Nat) (x1 : Int) (x2 : Int) (hp : HP) (K : Value → HP → Prop) (h : F55 x0a x0n x0c x1 x2 hp K) : CF Try.prog 55 [(Value.slice x0a x0n x0c), (Value.int .i64 x1), (Value.int .i64 x2)] hp K := by
  refine ⟨by kernel_rfl, AC.intro (N := 57) Try.func55 F55_body rfl (Nat.le_of_ble_eq_true rfl) ?_⟩
  unfold F55 at h
  unfold F55_code
  refine AWP.seq' ?_
  refine AWP.rgn (F55_r0 (upd (upd (upd E0 2 (SV.val (Value.int .i64 x2))) 1 (SV.val (Value.int .i64 x1))) 0 (SV.val (Value.slice x0a x0n x0c)))  hp _) ?_ (RefOk.v 0 _ (RefOk.v 1 _ (RefOk.v 2 _ (RefOk.nil _)))) (Sub.cons rfl (Sub.cons rfl (Sub.cons rfl (Sub.nil _)))) (Sub.nil _)
  refine AWP.seq (fun env pv hp => ∃ (x0a : Option Addr) (x0n : Nat) (x0c : Nat) (x1 : Int) (x2 : Int), Sub (upd (upd (upd E0 2 (SV.val (Value.int .i64 x2))) 1 (SV.val (Value.int .i64 x1))) 0 (SV.val (Value.slice x0a x0n x0c))) env ∧ Sub V0 pv ∧ (F55_j1 x0a x0n x0c x1 x2 hp  K)) ?_ ?_
  · refine AWP.seq (fun env pv hp => ∃ (x0a : Option Addr) (x0n : Nat) (x0c : Nat) (x1 : Int) (x2 : Int) (x7 : Int), Sub (upd (upd (upd (upd E0 7 (SV.val (Value.int .i64 x7))) 2 (SV.val (Value.int .i64 x2))) 1 (SV.val (Value.int .i64 x1))) 0 (SV.val (Value.slice x0a x0n x0c))) env ∧ Sub V0 pv ∧ (F55_j2 x0a x0n x0c x1 x2 x7 hp  K)) ?_ ?_
    · refine AWP.rgn (F55_r9 (upd (upd (upd E0 2 (SV.val (Value.int .i64 x2))) 1 (SV.val (Value.int .i64 x1))) 0 (SV.val (Value.slice x0a x0n x0c)))  hp _) ?_ (RefOk.v 0 _ (RefOk.v 1 _ (RefOk.v 2 _ (RefOk.nil _)))) (Sub.cons rfl (Sub.cons rfl (Sub.cons rfl (Sub.nil _)))) (Sub.nil _)
      exact ⟨x0a, x0n, x0c, x1, x2, 0, (Sub.cons rfl (Sub.cons rfl (Sub.cons rfl (Sub.cons rfl (Sub.nil _))))), (Sub.nil _), h⟩
    · rintro env pv hp ⟨x0a, x0n, x0c, x1, x2, x7, he, hv, h⟩
      refine AWP.sub (env' := (upd (upd (upd (upd E0 7 (SV.val (Value.int .i64 x7))) 2 (SV.val (Value.int .i64 x2))) 1 (SV.val (Value.int .i64 x1))) 0 (SV.val (Value.slice x0a x0n x0c)))) (pv' := V0) ?_ (RefOk.v 0 _ (RefOk.v 1 _ (RefOk.v 2 _ (RefOk.v 7 _ (RefOk.nil _))))) he hv (HSub.refl _)
      clear he hv
      unfold F55_j2 at h
      refine AWP.block ?_
      refine AWP.loop (σ := Int) (fun I s hp => F55_l3 x0a x0n x0c x1 x2  K I s hp) (fun s => (upd (upd (upd (upd E0 7 (SV.val (Value.int .i64 s))) 2 (SV.val (Value.int .i64 x2))) 1 (SV.val (Value.int .i64 x1))) 0 (SV.val (Value.slice x0a x0n x0c)))) (fun s => V0) x7 h (fun s => (RefOk.v 0 _ (RefOk.v 1 _ (RefOk.v 2 _ (RefOk.v 7 _ (RefOk.nil _)))))) (Sub.cons rfl (Sub.cons rfl (Sub.cons rfl (Sub.cons rfl (Sub.nil _))))) (Sub.nil _) ?_
      intro I3 s hp h
      obtain ⟨x7, hs⟩ : ∃ x, x = s := ⟨s, rfl⟩
      subst hs
      replace h : F55_l3 x0a x0n x0c x1 x2  K I3 x7 hp := h
      unfold F55_l3 at h
      refine AWP.seq' ?_
      refine AWP.seq' ?_
      refine AWP.rgn (F55_r2 (upd (upd E0 2 (SV.val (Value.int .i64 x2))) 1 (SV.val (Value.int .i64 x1))) x0a x0n x0c x7 hp _) ?_ (RefOk.v 0 _ (RefOk.v 7 _ (RefOk.v 1 _ (RefOk.v 2 _ (RefOk.nil _))))) (Sub.cons rfl (Sub.cons rfl (Sub.cons rfl (Sub.cons rfl (Sub.nil _))))) (Sub.nil _)
      refine AWP.cond (t := (decide ((x7 : Int) < (x0n : Nat)))) rfl (fun e => ?_) (fun e => ?_)
      · replace h := ite2_t h e
        refine AWP.skip ?_
        refine AWP.seq (fun env pv hp => ∃ (x7 : Int), Sub (upd (upd (upd (upd E0 7 (SV.val (Value.int .i64 x7))) 2 (SV.val (Value.int .i64 x2))) 1 (SV.val (Value.int .i64 x1))) 0 (SV.val (Value.slice x0a x0n x0c))) env ∧ Sub V0 pv ∧ (F55_j4 x0a x0n x0c x1 x2 x7 hp I3 K)) ?_ ?_
        · refine AWP.block ?_
          refine AWP.seq (fun env pv hp => ∃ (x7 : Int) (x8 : Int), Sub (upd (upd (upd (upd (upd E0 8 (SV.val (Value.int .i64 x8))) 7 (SV.val (Value.int .i64 x7))) 2 (SV.val (Value.int .i64 x2))) 1 (SV.val (Value.int .i64 x1))) 0 (SV.val (Value.slice x0a x0n x0c))) env ∧ Sub V0 pv ∧ (F55_j5 x0a x0n x0c x1 x2 x7 x8 hp I3 K)) ?_ ?_
          · refine AWP.rgn (F55_r8 (upd (upd (upd (upd E0 7 (SV.val (Value.int .i64 x7))) 2 (SV.val (Value.int .i64 x2))) 1 (SV.val (Value.int .i64 x1))) 0 (SV.val (Value.slice x0a x0n x0c)))  hp _) ?_ (RefOk.v 0 _ (RefOk.v 1 _ (RefOk.v 2 _ (RefOk.v 7 _ (RefOk.nil _))))) (Sub.cons rfl (Sub.cons rfl (Sub.cons rfl (Sub.cons rfl (Sub.nil _))))) (Sub.nil _)
            exact ⟨x7, 0, (Sub.cons rfl (Sub.cons rfl (Sub.cons rfl (Sub.cons rfl (Sub.cons rfl (Sub.nil _)))))), (Sub.nil _), h⟩
          · rintro env pv hp ⟨x7, x8, he, hv, h⟩
            refine AWP.sub (env' := (upd (upd (upd (upd (upd E0 8 (SV.val (Value.int .i64 x8))) 7 (SV.val (Value.int .i64 x7))) 2 (SV.val (Value.int .i64 x2))) 1 (SV.val (Value.int .i64 x1))) 0 (SV.val (Value.slice x0a x0n x0c)))) (pv' := V0) ?_ (RefOk.v 0 _ (RefOk.v 1 _ (RefOk.v 2 _ (RefOk.v 7 _ (RefOk.v 8 _ (RefOk.nil _)))))) he hv (HSub.refl _)
            clear he hv
            unfold F55_j5 at h
            refine AWP.block ?_
            refine AWP.loop (σ := Int) (fun I s hp => F55_l6 x0a x0n x0c x1 x2 x7 I3 K I s hp) (fun s => (upd (upd (upd (upd (upd E0 8 (SV.val (Value.int .i64 s))) 7 (SV.val (Value.int .i64 x7))) 2 (SV.val (Value.int .i64 x2))) 1 (SV.val (Value.int .i64 x1))) 0 (SV.val (Value.slice x0a x0n x0c)))) (fun s => V0) x8 h (fun s => (RefOk.v 0 _ (RefOk.v 1 _ (RefOk.v 2 _ (RefOk.v 7 _ (RefOk.v 8 _ (RefOk.nil _))))))) (Sub.cons rfl (Sub.cons rfl (Sub.cons rfl (Sub.cons rfl (Sub.cons rfl (Sub.nil _)))))) (Sub.nil _) ?_
            intro I6 s hp h
            obtain ⟨x8, hs⟩ : ∃ x, x = s := ⟨s, rfl⟩
            subst hs
            replace h : F55_l6 x0a x0n x0c x1 x2 x7 I3 K I6 x8 hp := h
            unfold F55_l6 at h
            refine AWP.seq' ?_
            refine AWP.seq' ?_
            refine AWP.rgn (F55_r4 (upd (upd (upd E0 2 (SV.val (Value.int .i64 x2))) 1 (SV.val (Value.int .i64 x1))) 0 (SV.val (Value.slice x0a x0n x0c))) x7 x8 hp _) ?_ (RefOk.v 7 _ (RefOk.v 8 _ (RefOk.v 0 _ (RefOk.v 1 _ (RefOk.v 2 _ (RefOk.nil _)))))) (Sub.cons rfl (Sub.cons rfl (Sub.cons rfl (Sub.cons rfl (Sub.cons rfl (Sub.nil _)))))) (Sub.nil _)
            refine AWP.cond (t := (decide ((x8 : Int) < x7))) rfl (fun e => ?_) (fun e => ?_)
            · replace h := ite2_t h e
              refine AWP.skip ?_
              refine AWP.seq' ?_
              refine AWP.block ?_
              refine AWP.seq' ?_
              refine AWP.rgnD (by kernel_rfl) (by kernel_rfl) (F55_r5 (upd (upd E0 2 (SV.val (Value.int .i64 x2))) 1 (SV.val (Value.int .i64 x1))) x0a x0n x0c x7 x8 hp _) ?_ (RefOk.v 0 _ (RefOk.v 7 _ (RefOk.v 8 _ (RefOk.v 1 _ (RefOk.v 2 _ (RefOk.nil _)))))) (Sub.cons rfl (Sub.cons rfl (Sub.cons rfl (Sub.cons rfl (Sub.cons rfl (Sub.nil _)))))) (Sub.nil _)
              refine ⟨h.1, h.2.1, ?_⟩
              replace h := h.2.2
              refine ptrN_mono h (fun b_1 o_2 h => ?_)
              refine ldL_mono h (fun l_3 h => ?_)
              refine ⟨h.1, h.2.1, ?_⟩
              replace h := h.2.2
              refine ptrN_mono h (fun b_4 o_5 h => ?_)
              refine ldL_mono h (fun l_6 h => ?_)
              refine eqAgg_mono h (fun q_7 h => ?_)
              refine AWP.cond (t := q_7) rfl (fun e => ?_) (fun e => ?_)
              · replace h := ite2_t h e
                refine AWP.seq' ?_
                refine AWP.rgn (F55_r6 E0  hp _) ?_ (RefOk.nil _) (Sub.nil _) (Sub.nil _)
                refine AWP.ret ?_
                exact h
              · replace h := ite2_f h e
                refine AWP.skip ?_
                refine AWP.rgn (F55_r7 (upd (upd (upd (upd E0 7 (SV.val (Value.int .i64 x7))) 2 (SV.val (Value.int .i64 x2))) 1 (SV.val (Value.int .i64 x1))) 0 (SV.val (Value.slice x0a x0n x0c))) x8 hp _) ?_ (RefOk.v 8 _ (RefOk.v 0 _ (RefOk.v 1 _ (RefOk.v 2 _ (RefOk.v 7 _ (RefOk.nil _)))))) (Sub.cons rfl (Sub.cons rfl (Sub.cons rfl (Sub.cons rfl (Sub.cons rfl (Sub.nil _)))))) (Sub.nil _)
                exact ⟨(IntKind.wrap .i64 (x8 + 1)), (Sub.cons rfl (Sub.cons rfl (Sub.cons rfl (Sub.cons rfl (Sub.cons rfl (Sub.nil _)))))), (Sub.nil _), h⟩
            · replace h := ite2_f h e
              refine AWP.exit ?_
              exact ⟨x7, (Sub.cons rfl (Sub.cons rfl (Sub.cons rfl (Sub.cons rfl (Sub.nil _))))), (Sub.nil _), h⟩
        · rintro env pv hp ⟨x7, he, hv, h⟩
          refine AWP.sub (env' := (upd (upd (upd (upd E0 7 (SV.val (Value.int .i64 x7))) 2 (SV.val (Value.int .i64 x2))) 1 (SV.val (Value.int .i64 x1))) 0 (SV.val (Value.slice x0a x0n x0c)))) (pv' := V0) ?_ (RefOk.v 0 _ (RefOk.v 1 _ (RefOk.v 2 _ (RefOk.v 7 _ (RefOk.nil _))))) he hv (HSub.refl _)
          clear he hv
          unfold F55_j4 at h
          refine AWP.rgn (F55_r3 (upd (upd (upd E0 2 (SV.val (Value.int .i64 x2))) 1 (SV.val (Value.int .i64 x1))) 0 (SV.val (Value.slice x0a x0n x0c))) x7 hp _) ?_ (RefOk.v 7 _ (RefOk.v 0 _ (RefOk.v 1 _ (RefOk.v 2 _ (RefOk.nil _))))) (Sub.cons rfl (Sub.cons rfl (Sub.cons rfl (Sub.cons rfl (Sub.nil _))))) (Sub.nil _)
          exact ⟨(IntKind.wrap .i64 (x7 + 1)), (Sub.cons rfl (Sub.cons rfl (Sub.cons rfl (Sub.cons rfl (Sub.nil _))))), (Sub.nil _), h⟩
      · replace h := ite2_f h e
        refine AWP.exit ?_
        exact ⟨x0a, x0n, x0c, x1, x2, (Sub.cons rfl (Sub.cons rfl (Sub.cons rfl (Sub.nil _)))), (Sub.nil _), h⟩
  · rintro env pv hp ⟨x0a, x0n, x0c, x1, x2, he, hv, h⟩
    refine AWP.sub (env' := (upd (upd (upd E0 2 (SV.val (Value.int .i64 x2))) 1 (SV.val (Value.int .i64 x1))) 0 (SV.val (Value.slice x0a x0n x0c)))) (pv' := V0) ?_ (RefOk.v 0 _ (RefOk.v 1 _ (RefOk.v 2 _ (RefOk.nil _)))) he hv (HSub.refl _)
    clear he hv
    unfold F55_j1 at h
    refine AWP.seq' ?_
    refine AWP.rgn (F55_r1 E0 x0a x0n x0c x1 x2 hp _) ?_ (RefOk.v 0 _ (RefOk.v 1 _ (RefOk.v 2 _ (RefOk.nil _)))) (Sub.cons rfl (Sub.cons rfl (Sub.cons rfl (Sub.nil _)))) (Sub.nil _)
    refine ite2_mono h (fun h => ?_) (fun h => ?_)
    · refine ite2_mono h (fun h => ?_) (fun h => ?_)
      · refine ite2_mono h (fun h => ?_) (fun h => ?_)
        · refine ite2_mono h (fun h => ?_) (fun h => ?_)
          · refine ite2_mono h (fun h => ?_) (fun h => ?_)
            · refine AWP.ret ?_
              exact h
            · refine AWP.ret ?_
              exact h
          · refine AWP.ret ?_
            exact h
        · refine AWP.ret ?_
          exact h
      · refine AWP.ret ?_
        exact h
    · refine AWP.ret ?_
      exact h

-- 59 interpreter/interpreterref18.Class
theorem F59_r0 (e : Env) (hp : HP) (K : Env → PV → HP → Prop) : RW Try.prog 32 [] (opsAt Try.f59 [0]) (List.range 1) e V0 hp K =
    (K (upd e 4 (SV.val (Value.bool false))) V0 hp) := by kernel_rfl
theorem F59_r1 (e : Env) (hp : HP) (K : Env → PV → HP → Prop) : RW Try.prog 32 [] (opsAt Try.f59 [1, 0, 1, 0, 0]) (List.range 1) e V0 hp K =
    (K (upd e 4 (SV.val (Value.bool false))) V0 hp) := by kernel_rfl
theorem F59_r2 (e : Env) (x0 : Int) (hp : HP) (K : Env → PV → HP → Prop) : RW Try.prog 32 [] (opsAt Try.f59 [1, 1, 0, 0]) (List.range 2) (upd e 0 (SV.val (Value.int .i64 x0))) V0 hp K =
    (K (upd (upd (upd e 0 (SV.val (Value.int .i64 x0))) 26 (SV.val (Value.int .i64 x0))) 27 (SV.val (Value.bool (decide ((x0 : Int) < 1024))))) V0 hp) := by kernel_rfl
theorem F59_r3 (e : Env) (x1 : Int) (hp : HP) (K : Env → PV → HP → Prop) : RW Try.prog 32 [] (opsAt Try.f59 [1, 1, 0, 1, 0, 0]) (List.range 3) (upd e 1 (SV.val (Value.int .i64 x1))) V0 hp K =
    (K (upd (upd (upd (upd e 1 (SV.val (Value.int .i64 x1))) 28 (SV.val (Value.int .i64 x1))) 29 (SV.val (Value.bool (decide ((x1 : Int) < 1024))))) 4 (SV.val (Value.bool (decide ((x1 : Int) < 1024))))) V0 hp) := by kernel_rfl
theorem F59_r4 (e : Env) (x1 : Int) (hp : HP) (K : Env → PV → HP → Prop) : RW Try.prog 32 [] (opsAt Try.f59 [1, 1, 1, 0]) (List.range 3) (upd e 1 (SV.val (Value.int .i64 x1))) V0 hp K =
    (K (upd (upd (upd (upd e 1 (SV.val (Value.int .i64 x1))) 30 (SV.val (Value.int .i64 x1))) 31 (SV.val (Value.bool (decide ((x1 : Int) ≥ 1024))))) 4 (SV.val (Value.bool (decide ((x1 : Int) ≥ 1024))))) V0 hp) := by kernel_rfl
def F59_j1 (x0 : Int) (x1 : Int) (x25 : Bool) (hp : HP) (K : Value → HP → Prop) : Prop :=
  (ite2 x25 (K (Value.bool false) hp) (ite2 (decide ((x0 : Int) < 1024)) (K (Value.bool (decide ((x1 : Int) < 1024))) hp) (K (Value.bool (decide ((x1 : Int) ≥ 1024))) hp)))
theorem F59_r5 (e : Env) (x0 : Int) (x1 : Int) (hp : HP) (K : Env → PV → HP → Prop) : RW Try.prog 32 [] (opsAt Try.f59 [1, 0, 0]) (List.range 21) (upd (upd e 1 (SV.val (Value.int .i64 x1))) 0 (SV.val (Value.int .i64 x0))) V0 hp K =
    (ite2 (decide ((x0 : Int) < 0)) (K (upd (upd (upd (upd (upd (upd (upd (upd (upd (upd (upd (upd (upd (upd (upd (upd (upd (upd (upd (upd (upd (upd (upd e 1 (SV.val (Value.int .i64 x1))) 0 (SV.val (Value.int .i64 x0))) 5 (SV.val (Value.int .i64 x0))) 6 (SV.val (Value.bool (decide ((x0 : Int) < 0))))) 7 (SV.val (Value.bool true))) 8 (SV.val undef)) 9 (SV.val undef)) 10 (SV.val (Value.bool true))) 11 (SV.val (Value.bool true))) 12 (SV.val undef)) 13 (SV.val undef)) 14 (SV.val (Value.bool true))) 15 (SV.val (Value.bool true))) 16 (SV.val undef)) 17 (SV.val undef)) 18 (SV.val (Value.bool true))) 19 (SV.val (Value.bool true))) 20 (SV.val undef)) 21 (SV.val undef)) 22 (SV.val undef)) 23 (SV.val undef)) 24 (SV.val undef)) 25 (SV.val (Value.bool true))) V0 hp) (ite2 (decide ((x0 : Int) > 65535)) (K (upd (upd (upd (upd (upd (upd (upd (upd (upd (upd (upd (upd (upd (upd (upd (upd (upd (upd (upd (upd (upd (upd (upd e 1 (SV.val (Value.int .i64 x1))) 0 (SV.val (Value.int .i64 x0))) 5 (SV.val (Value.int .i64 x0))) 6 (SV.val (Value.bool (decide ((x0 : Int) < 0))))) 7 (SV.val (Value.bool false))) 8 (SV.val (Value.int .i64 x0))) 9 (SV.val (Value.bool (decide ((x0 : Int) > 65535))))) 10 (SV.val (Value.bool (decide ((x0 : Int) > 65535))))) 11 (SV.val (Value.bool true))) 12 (SV.val undef)) 13 (SV.val undef)) 14 (SV.val (Value.bool true))) 15 (SV.val (Value.bool true))) 16 (SV.val undef)) 17 (SV.val undef)) 18 (SV.val (Value.bool true))) 19 (SV.val (Value.bool true))) 20 (SV.val undef)) 21 (SV.val undef)) 22 (SV.val undef)) 23 (SV.val undef)) 24 (SV.val undef)) 25 (SV.val (Value.bool true))) V0 hp) (ite2 (decide ((x1 : Int) < 0)) (K (upd (upd (upd (upd (upd (upd (upd (upd (upd (upd (upd (upd (upd (upd (upd (upd (upd (upd (upd (upd (upd (upd (upd e 1 (SV.val (Value.int .i64 x1))) 0 (SV.val (Value.int .i64 x0))) 5 (SV.val (Value.int .i64 x0))) 6 (SV.val (Value.bool (decide ((x0 : Int) < 0))))) 7 (SV.val (Value.bool false))) 8 (SV.val (Value.int .i64 x0))) 9 (SV.val (Value.bool (decide ((x0 : Int) > 65535))))) 10 (SV.val (Value.bool (decide ((x0 : Int) > 65535))))) 11 (SV.val (Value.bool false))) 12 (SV.val (Value.int .i64 x1))) 13 (SV.val (Value.bool (decide ((x1 : Int) < 0))))) 14 (SV.val (Value.bool (decide ((x1 : Int) < 0))))) 15 (SV.val (Value.bool true))) 16 (SV.val undef)) 17 (SV.val undef)) 18 (SV.val (Value.bool true))) 19 (SV.val (Value.bool true))) 20 (SV.val undef)) 21 (SV.val undef)) 22 (SV.val undef)) 23 (SV.val undef)) 24 (SV.val undef)) 25 (SV.val (Value.bool true))) V0 hp) (ite2 (decide ((x1 : Int) > 65535)) (K (upd (upd (upd (upd (upd (upd (upd (upd (upd (upd (upd (upd (upd (upd (upd (upd (upd (upd (upd (upd (upd (upd (upd e 1 (SV.val (Value.int .i64 x1))) 0 (SV.val (Value.int .i64 x0))) 5 (SV.val (Value.int .i64 x0))) 6 (SV.val (Value.bool (decide ((x0 : Int) < 0))))) 7 (SV.val (Value.bool false))) 8 (SV.val (Value.int .i64 x0))) 9 (SV.val (Value.bool (decide ((x0 : Int) > 65535))))) 10 (SV.val (Value.bool (decide ((x0 : Int) > 65535))))) 11 (SV.val (Value.bool false))) 12 (SV.val (Value.int .i64 x1))) 13 (SV.val (Value.bool (decide ((x1 : Int) < 0))))) 14 (SV.val (Value.bool (decide ((x1 : Int) < 0))))) 15 (SV.val (Value.bool false))) 16 (SV.val (Value.int .i64 x1))) 17 (SV.val (Value.bool (decide ((x1 : Int) > 65535))))) 18 (SV.val (Value.bool (decide ((x1 : Int) > 65535))))) 19 (SV.val (Value.bool true))) 20 (SV.val undef)) 21 (SV.val undef)) 22 (SV.val undef)) 23 (SV.val undef)) 24 (SV.val undef)) 25 (SV.val (Value.bool true))) V0 hp) (((2 : Int) ≠ 0) ∧ (((2 : Int) ≠ 0) ∧ (K (upd (upd (upd (upd (upd (upd (upd (upd (upd (upd (upd (upd (upd (upd (upd (upd (upd (upd (upd (upd (upd (upd (upd e 1 (SV.val (Value.int .i64 x1))) 0 (SV.val (Value.int .i64 x0))) 5 (SV.val (Value.int .i64 x0))) 6 (SV.val (Value.bool (decide ((x0 : Int) < 0))))) 7 (SV.val (Value.bool false))) 8 (SV.val (Value.int .i64 x0))) 9 (SV.val (Value.bool (decide ((x0 : Int) > 65535))))) 10 (SV.val (Value.bool (decide ((x0 : Int) > 65535))))) 11 (SV.val (Value.bool false))) 12 (SV.val (Value.int .i64 x1))) 13 (SV.val (Value.bool (decide ((x1 : Int) < 0))))) 14 (SV.val (Value.bool (decide ((x1 : Int) < 0))))) 15 (SV.val (Value.bool false))) 16 (SV.val (Value.int .i64 x1))) 17 (SV.val (Value.bool (decide ((x1 : Int) > 65535))))) 18 (SV.val (Value.bool (decide ((x1 : Int) > 65535))))) 19 (SV.val (Value.bool false))) 20 (SV.val (Value.int .i64 x0))) 21 (SV.val (Value.int .i64 (Int.tmod x0 2)))) 22 (SV.val (Value.int .i64 x1))) 23 (SV.val (Value.int .i64 (Int.tmod x1 2)))) 24 (SV.val (Value.bool (((Int.tmod x0 2) : Int) != (Int.tmod x1 2))))) 25 (SV.val (Value.bool (((Int.tmod x0 2) : Int) != (Int.tmod x1 2))))) V0 hp))))))) := by kernel_rfl
def F59 (x0 : Int) (x1 : Int) (hp : HP) (K : Value → HP → Prop) : Prop :=
  (ite2 (decide ((x0 : Int) < 0)) (F59_j1 x0 x1 true hp  K) (ite2 (decide ((x0 : Int) > 65535)) (F59_j1 x0 x1 true hp  K) (ite2 (decide ((x1 : Int) < 0)) (F59_j1 x0 x1 true hp  K) (ite2 (decide ((x1 : Int) > 65535)) (F59_j1 x0 x1 true hp  K) (((2 : Int) ≠ 0) ∧ (((2 : Int) ≠ 0) ∧ (F59_j1 x0 x1 (((Int.tmod x0 2) : Int) != (Int.tmod x1 2)) hp  K)))))))
noncomputable def F59_code : Code := (.seq (.region 0 (opsAt Try.f59 [0]) false) (.seq (.seq (.region 1 (opsAt Try.f59 [1, 0, 0]) false) (.cond (.tmp 25) (.seq (.region 2 (opsAt Try.f59 [1, 0, 1, 0, 0]) false) .ret) .skip)) (.seq (.seq (.region 3 (opsAt Try.f59 [1, 1, 0, 0]) false) (.cond (.tmp 27) (.seq (.region 4 (opsAt Try.f59 [1, 1, 0, 1, 0, 0]) false) .ret) .skip)) (.seq (.region 5 (opsAt Try.f59 [1, 1, 1, 0]) false) .ret))))
theorem F59_body : Try.f59.body = some F59_code := by kernel_rfl
theorem F59_ok (x0 : Int) (x1 : Int) (hp : HP) (K : Value → HP → Prop) (h : F59 x0 x1 hp K) : CF Try.prog 59 [(Value.int .i64 x0), (Value.int .i64 x1)] hp K := by
  refine ⟨by kernel_rfl, AC.intro (N := 32) Try.func59 F59_body rfl (Nat.le_of_ble_eq_true rfl) ?_⟩
  unfold F59 at h
  unfold F59_code
  refine AWP.seq' ?_
  refine AWP.rgn (F59_r0 (upd (upd E0 1 (SV.val (Value.int .i64 x1))) 0 (SV.val (Value.int .i64 x0)))  hp _) ?_ (RefOk.v 0 _ (RefOk.v 1 _ (RefOk.nil _))) (Sub.cons rfl (Sub.cons rfl (Sub.nil _))) (Sub.nil _)
  refine AWP.seq' ?_
  refine AWP.seq (fun env pv hp => ∃ (x0 : Int) (x1 : Int) (x25 : Bool), Sub (upd (upd (upd E0 25 (SV.val (Value.bool x25))) 1 (SV.val (Value.int .i64 x1))) 0 (SV.val (Value.int .i64 x0))) env ∧ Sub V0 pv ∧ (F59_j1 x0 x1 x25 hp  K)) ?_ ?_
  · refine AWP.rgn (F59_r5 E0 x0 x1 hp _) ?_ (RefOk.v 0 _ (RefOk.v 1 _ (RefOk.nil _))) (Sub.cons rfl (Sub.cons rfl (Sub.nil _))) (Sub.nil _)
    refine ite2_mono h (fun h => ?_) (fun h => ?_)
    · exact ⟨x0, x1, true, (Sub.cons rfl (Sub.cons rfl (Sub.cons rfl (Sub.nil _)))), (Sub.nil _), h⟩
    · refine ite2_mono h (fun h => ?_) (fun h => ?_)
      · exact ⟨x0, x1, true, (Sub.cons rfl (Sub.cons rfl (Sub.cons rfl (Sub.nil _)))), (Sub.nil _), h⟩
      · refine ite2_mono h (fun h => ?_) (fun h => ?_)
        · exact ⟨x0, x1, true, (Sub.cons rfl (Sub.cons rfl (Sub.cons rfl (Sub.nil _)))), (Sub.nil _), h⟩
        · refine ite2_mono h (fun h => ?_) (fun h => ?_)
          · exact ⟨x0, x1, true, (Sub.cons rfl (Sub.cons rfl (Sub.cons rfl (Sub.nil _)))), (Sub.nil _), h⟩
          · refine ⟨h.1, ?_⟩
            replace h := h.2
            refine ⟨h.1, ?_⟩
            replace h := h.2
            exact ⟨x0, x1, (((Int.tmod x0 2) : Int) != (Int.tmod x1 2)), (Sub.cons rfl (Sub.cons rfl (Sub.cons rfl (Sub.nil _)))), (Sub.nil _), h⟩
  · rintro env pv hp ⟨x0, x1, x25, he, hv, h⟩
    refine AWP.sub (env' := (upd (upd (upd E0 25 (SV.val (Value.bool x25))) 1 (SV.val (Value.int .i64 x1))) 0 (SV.val (Value.int .i64 x0)))) (pv' := V0) ?_ (RefOk.v 0 _ (RefOk.v 1 _ (RefOk.v 25 _ (RefOk.nil _)))) he hv (HSub.refl _)
    clear he hv
    unfold F59_j1 at h
    refine AWP.cond (t := x25) rfl (fun e => ?_) (fun e => ?_)
    · replace h := ite2_t h e
      refine AWP.seq' ?_
      refine AWP.rgn (F59_r1 E0  hp _) ?_ (RefOk.nil _) (Sub.nil _) (Sub.nil _)
      refine AWP.ret ?_
      exact h
    · replace h := ite2_f h e
      refine AWP.skip ?_
      refine AWP.seq' ?_
      refine AWP.seq' ?_
      refine AWP.rgn (F59_r2 (upd E0 1 (SV.val (Value.int .i64 x1))) x0 hp _) ?_ (RefOk.v 0 _ (RefOk.v 1 _ (RefOk.nil _))) (Sub.cons rfl (Sub.cons rfl (Sub.nil _))) (Sub.nil _)
      refine AWP.cond (t := (decide ((x0 : Int) < 1024))) rfl (fun e => ?_) (fun e => ?_)
      · replace h := ite2_t h e
        refine AWP.seq' ?_
        refine AWP.rgn (F59_r3 E0 x1 hp _) ?_ (RefOk.v 1 _ (RefOk.nil _)) (Sub.cons rfl (Sub.nil _)) (Sub.nil _)
        refine AWP.ret ?_
        exact h
      · replace h := ite2_f h e
        refine AWP.skip ?_
        refine AWP.seq' ?_
        refine AWP.rgn (F59_r4 E0 x1 hp _) ?_ (RefOk.v 1 _ (RefOk.nil _)) (Sub.cons rfl (Sub.nil _)) (Sub.nil _)
        refine AWP.ret ?_
        exact h

-- 100 (*interpreter/pool.Pool).may
theorem F100_r0 (e : Env) (x1 : List Value) (hp : HP) (K : Env → PV → HP → Prop) : RW Try.prog 30 [3, 16, 25] (opsAt Try.f100 [0]) (List.range 2) (upd e 1 (SV.val (Value.agg ⟨x1⟩))) V0 hp K =
    (K (upd (upd (upd e 1 (SV.val (Value.agg ⟨x1⟩))) 3 (SV.priv 3 0)) 4 (SV.val (Value.int .i64 0))) (upd V0 3 (75, x1)) hp) := by kernel_rfl
theorem F100_r1 (e : Env) (hp : HP) (K : Env → PV → HP → Prop) : RW Try.prog 30 [3, 16, 25] (opsAt Try.f100 [1, 0, 0, 1, 0, 0]) (List.range 1) e V0 hp K =
    (K (upd e 4 (SV.val (Value.int .i64 2))) V0 hp) := by kernel_rfl
theorem F100_r2 (e : Env) (hp : HP) (K : Env → PV → HP → Prop) : RW Try.prog 30 [3, 16, 25] (opsAt Try.f100 [1, 0, 0, 1, 1, 1, 0, 0]) (List.range 1) e V0 hp K =
    (K (upd e 4 (SV.val (Value.int .i64 1))) V0 hp) := by kernel_rfl
theorem F100_r3 (e : Env) (hp : HP) (K : Env → PV → HP → Prop) : RW Try.prog 30 [3, 16, 25] (opsAt Try.f100 [1, 1, 0]) (List.range 1) e V0 hp K =
    (K (upd e 4 (SV.val (Value.int .i64 0))) V0 hp) := by kernel_rfl
def F100_j2 (x15 : Bool) (hp : HP) (K : Value → HP → Prop) : Prop :=
  (ite2 x15 (K (Value.int .i64 1) hp) (K (Value.int .i64 0) hp))
theorem F100_r4 (e : Env) (x0 : Option Addr) (k3 : List Value) (hp : HP) (K : Env → PV → HP → Prop) : RW Try.prog 30 [3, 16, 25] (opsAt Try.f100 [1, 0, 0, 1, 1, 0]) (List.range 15) (upd (upd e 3 (SV.priv 3 0)) 0 (SV.val (Value.pointer x0))) (upd V0 3 (75, k3)) hp K =
    (ldV (k3)[4]? fun v1 => (intV v1 .i64 fun i2 => (CF Try.prog 74 [(Value.int .i64 i2)] hp fun u3 h4 => (boolV u3 fun q5 => (ite2 (!q5) (K (upd (upd (upd (upd (upd (upd (upd (upd (upd (upd (upd (upd (upd (upd (upd (upd (upd e 3 (SV.priv 3 0)) 0 (SV.val (Value.pointer x0))) 16 (SV.priv 3 4)) 17 (SV.val (Value.int .i64 i2))) 18 (SV.val (Value.bool q5))) 19 (SV.val (Value.bool (!q5)))) 20 (SV.val (Value.bool true))) 21 (SV.val undef)) 22 (SV.val undef)) 23 (SV.val undef)) 24 (SV.val undef)) 25 (SV.val undef)) 26 (SV.val undef)) 27 (SV.val undef)) 28 (SV.val undef)) 29 (SV.val (Value.bool true))) 15 (SV.val (Value.bool true))) (upd V0 3 (75, k3)) h4) (ptrN x0 fun b6 o7 => (ldV (HP.cell h4 b6 (o7 + 0)) fun v8 => (slcV v8 fun a9 n10 c11 => (ldL (cellsN k3 0 4) fun l12 => (CF Try.prog 92 [(Value.slice a9 n10 c11), (Value.agg ⟨l12⟩)] h4 fun u13 h14 => (boolV u13 fun q15 => (K (upd (upd (upd (upd (upd (upd (upd (upd (upd (upd (upd (upd (upd (upd (upd (upd (upd e 3 (SV.priv 3 0)) 0 (SV.val (Value.pointer x0))) 16 (SV.priv 3 4)) 17 (SV.val (Value.int .i64 i2))) 18 (SV.val (Value.bool q5))) 19 (SV.val (Value.bool (!q5)))) 20 (SV.val (Value.bool false))) 21 (SV.val (Value.pointer x0))) 22 (SV.val (ptr b6 o7))) 23 (SV.val (ptr b6 (o7 + 0)))) 24 (SV.val (Value.slice a9 n10 c11))) 25 (SV.priv 3 0)) 26 (SV.val (Value.agg ⟨l12⟩))) 27 (SV.val (Value.bool q15))) 28 (SV.val (Value.bool (!q15)))) 29 (SV.val (Value.bool (!q15)))) 15 (SV.val (Value.bool (!q15)))) (upd V0 3 (75, k3)) h14)))))))))))) := by kernel_rfl
def F100_j1 (x0 : Option Addr) (x5 : Bool) (k3 : List Value) (hp : HP) (K : Value → HP → Prop) : Prop :=
  (ite2 x5 (K (Value.int .i64 2) hp) (ldV (k3)[4]? fun v_1 => (intV v_1 .i64 fun i_2 => (CF Try.prog 74 [(Value.int .i64 i_2)] hp fun u_3 h_4 => (boolV u_3 fun q_5 => (ite2 (!q_5) (F100_j2 true h_4  K) (ptrN x0 fun b_6 o_7 => (ldV (HP.cell h_4 b_6 (o_7 + 0)) fun v_8 => (slcV v_8 fun a_9 n_10 c_11 => (ldL (cellsN k3 0 4) fun l_12 => (CF Try.prog 92 [(Value.slice a_9 n_10 c_11), (Value.agg ⟨l_12⟩)] h_4 fun u_13 h_14 => (boolV u_13 fun q_15 => (F100_j2 (!q_15) h_14  K)))))))))))))
theorem F100_r5 (e : Env) (x0 : Option Addr) (k3 : List Value) (hp : HP) (K : Env → PV → HP → Prop) : RW Try.prog 30 [3, 16, 25] (opsAt Try.f100 [1, 0, 0, 0]) (List.range 10) (upd e 0 (SV.val (Value.pointer x0))) (upd V0 3 (75, k3)) hp K =
    (ite2 (Option.isNone x0) (K (upd (upd (upd (upd (upd (upd (upd (upd (upd (upd (upd e 0 (SV.val (Value.pointer x0))) 6 (SV.val (Value.pointer x0))) 7 (SV.val (Value.bool (Option.isNone x0)))) 8 (SV.val (Value.bool true))) 9 (SV.val undef)) 10 (SV.val undef)) 11 (SV.val undef)) 12 (SV.val undef)) 13 (SV.val undef)) 14 (SV.val (Value.bool true))) 5 (SV.val (Value.bool true))) (upd V0 3 (75, k3)) hp) (ptrN x0 fun b1 o2 => (ldV (HP.cell hp b1 (o2 + 3)) fun v3 => (mapV v3 fun m4 => (K (upd (upd (upd (upd (upd (upd (upd (upd (upd (upd (upd e 0 (SV.val (Value.pointer x0))) 6 (SV.val (Value.pointer x0))) 7 (SV.val (Value.bool (Option.isNone x0)))) 8 (SV.val (Value.bool false))) 9 (SV.val (Value.pointer x0))) 10 (SV.val (ptr b1 o2))) 11 (SV.val (ptr b1 (o2 + 3)))) 12 (SV.val (Value.map m4))) 13 (SV.val (Value.bool (Option.isNone m4)))) 14 (SV.val (Value.bool (Option.isNone m4)))) 5 (SV.val (Value.bool (Option.isNone m4)))) (upd V0 3 (75, k3)) hp))))) := by kernel_rfl
def F100 (x0 : Option Addr) (x1 : List Value) (hp : HP) (K : Value → HP → Prop) : Prop :=
  (ite2 (Option.isNone x0) (F100_j1 x0 true x1 hp  K) (ptrN x0 fun b_16 o_17 => (ldV (HP.cell hp b_16 (o_17 + 3)) fun v_18 => (mapV v_18 fun m_19 => (F100_j1 x0 (Option.isNone m_19) x1 hp  K)))))
noncomputable def F100_code : Code := (.seq (.region 0 (opsAt Try.f100 [0]) false) (.seq (.block 0 (.seq (.region 1 (opsAt Try.f100 [1, 0, 0, 0]) false) (.cond (.tmp 5) (.seq (.region 2 (opsAt Try.f100 [1, 0, 0, 1, 0, 0]) false) .ret) (.seq (.region 3 (opsAt Try.f100 [1, 0, 0, 1, 1, 0]) true) (.cond (.tmp 15) (.seq (.region 4 (opsAt Try.f100 [1, 0, 0, 1, 1, 1, 0, 0]) false) .ret) .skip))))) (.seq (.region 5 (opsAt Try.f100 [1, 1, 0]) false) .ret)))
theorem F100_body : Try.f100.body = some F100_code := by kernel_rfl
theorem F100_ok (x0 : Option Addr) (x1 : List Value) (hp : HP) (K : Value → HP → Prop) (h : F100 x0 x1 hp K) : CF Try.prog 100 [(Value.pointer x0), (Value.agg ⟨x1⟩)] hp K := by
  refine ⟨by kernel_rfl, AC.intro (N := 30) Try.func100 F100_body rfl (Nat.le_of_ble_eq_true rfl) ?_⟩
  unfold F100 at h
  unfold F100_code
  refine AWP.seq' ?_
  refine AWP.rgn (F100_r0 (upd E0 0 (SV.val (Value.pointer x0))) x1 hp _) ?_ (RefOk.v 1 _ (RefOk.v 0 _ (RefOk.nil _))) (Sub.cons rfl (Sub.cons rfl (Sub.nil _))) (Sub.nil _)
  refine AWP.seq' ?_
  refine AWP.block ?_
  refine AWP.seq (fun env pv hp => ∃ (x0 : Option Addr) (x5 : Bool) (k3 : List Value), Sub (upd (upd (upd E0 5 (SV.val (Value.bool x5))) 3 (SV.priv 3 0)) 0 (SV.val (Value.pointer x0))) env ∧ Sub (upd V0 3 (75, k3)) pv ∧ (F100_j1 x0 x5 k3 hp  K)) ?_ ?_
  · refine AWP.rgn (F100_r5 (upd E0 3 (SV.priv 3 0)) x0 x1 hp _) ?_ (RefOk.v 0 _ (RefOk.p 3 3 0 (RefOk.nil _) (fun e => by cases e))) (Sub.cons rfl (Sub.cons rfl (Sub.nil _))) (Sub.cons rfl (Sub.nil _))
    refine ite2_mono h (fun h => ?_) (fun h => ?_)
    · exact ⟨x0, true, x1, (Sub.cons rfl (Sub.cons rfl (Sub.cons rfl (Sub.nil _)))), (Sub.cons rfl (Sub.nil _)), h⟩
    · refine ptrN_mono h (fun b_16 o_17 h => ?_)
      refine ldV_mono h (fun v_18 h => ?_)
      refine mapV_mono h (fun m_19 h => ?_)
      exact ⟨x0, (Option.isNone m_19), x1, (Sub.cons rfl (Sub.cons rfl (Sub.cons rfl (Sub.nil _)))), (Sub.cons rfl (Sub.nil _)), h⟩
  · rintro env pv hp ⟨x0, x5, k3, he, hv, h⟩
    refine AWP.sub (env' := (upd (upd (upd E0 5 (SV.val (Value.bool x5))) 3 (SV.priv 3 0)) 0 (SV.val (Value.pointer x0)))) (pv' := (upd V0 3 (75, k3))) ?_ (RefOk.v 0 _ (RefOk.p 3 3 0 (RefOk.v 5 _ (RefOk.nil _)) (fun e => by cases e))) he hv (HSub.refl _)
    clear he hv
    unfold F100_j1 at h
    refine AWP.cond (t := x5) rfl (fun e => ?_) (fun e => ?_)
    · replace h := ite2_t h e
      refine AWP.seq' ?_
      refine AWP.rgn (F100_r1 E0  hp _) ?_ (RefOk.nil _) (Sub.nil _) (Sub.nil _)
      refine AWP.ret ?_
      exact h
    · replace h := ite2_f h e
      refine AWP.seq (fun env pv hp => ∃ (x15 : Bool), Sub (upd E0 15 (SV.val (Value.bool x15))) env ∧ Sub V0 pv ∧ (F100_j2 x15 hp  K)) ?_ ?_
      · refine AWP.rgnD (by kernel_rfl) (by kernel_rfl) (F100_r4 E0 x0 k3 hp _) ?_ (RefOk.v 0 _ (RefOk.p 3 3 0 (RefOk.nil _) (fun e => by cases e))) (Sub.cons rfl (Sub.cons rfl (Sub.nil _))) (Sub.cons rfl (Sub.nil _))
        refine ldV_mono h (fun v_1 h => ?_)
        refine intV_mono h (fun i_2 h => ?_)
        refine CF_mono h (fun u_3 h_4 h => ?_)
        refine boolV_mono h (fun q_5 h => ?_)
        refine ite2_mono h (fun h => ?_) (fun h => ?_)
        · exact ⟨true, (Sub.cons rfl (Sub.nil _)), (Sub.nil _), h⟩
        · refine ptrN_mono h (fun b_6 o_7 h => ?_)
          refine ldV_mono h (fun v_8 h => ?_)
          refine slcV_mono h (fun a_9 n_10 c_11 h => ?_)
          refine ldL_mono h (fun l_12 h => ?_)
          refine CF_mono h (fun u_13 h_14 h => ?_)
          refine boolV_mono h (fun q_15 h => ?_)
          exact ⟨(!q_15), (Sub.cons rfl (Sub.nil _)), (Sub.nil _), h⟩
      · rintro env pv hp ⟨x15, he, hv, h⟩
        refine AWP.sub (env' := (upd E0 15 (SV.val (Value.bool x15)))) (pv' := V0) ?_ (RefOk.v 15 _ (RefOk.nil _)) he hv (HSub.refl _)
        clear he hv
        unfold F100_j2 at h
        refine AWP.cond (t := x15) rfl (fun e => ?_) (fun e => ?_)
        · replace h := ite2_t h e
          refine AWP.seq' ?_
          refine AWP.rgn (F100_r2 E0  hp _) ?_ (RefOk.nil _) (Sub.nil _) (Sub.nil _)
          refine AWP.ret ?_
          exact h
        · replace h := ite2_f h e
          refine AWP.skip ?_
          refine AWP.seq' ?_
          refine AWP.rgn (F100_r3 E0  hp _) ?_ (RefOk.nil _) (Sub.nil _) (Sub.nil _)
          refine AWP.ret ?_
          exact h

end Go.Proofs
