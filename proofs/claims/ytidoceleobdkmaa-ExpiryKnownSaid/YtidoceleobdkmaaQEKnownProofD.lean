/- Parts of the proof of EKnownProof: the logic of what is known of memory, functions' contracts. -/
import Derived.Test.YtidoceleobdkmaaQEKnownProofC
import Derived.Test.YtidoceleobdkmaaHlAbb
import Derived.Test.YtidoceleobdkmaaProg
set_option linter.unusedVariables false
set_option maxRecDepth 20000
namespace Go.Proofs
open Go Go.HL
-- 9 interpreter/interpreterlaw20.ExpiryKnown
theorem F9_r0 (e : Env) (hp : HP) (K : Env → PV → HP → Prop) : RW Try.prog 143 [] (opsAt Try.f9 [0]) (List.range 1) e V0 hp K =
    (K (upd e 0 (sB (false))) V0 hp) := by kernel_rfl
theorem F9_r1 (e : Env) (hp : HP) (K : Env → PV → HP → Prop) : RW Try.prog 143 [] (opsAt Try.f9 [1, 0]) (List.range 2) e V0 hp K =
    (CF Try.prog 29 [] hp fun u1 h2 => (ptrV u1 fun p3 => (K (upd (upd e 12 (sV (Value.pointer p3))) 1 (sV (Value.pointer p3))) V0 h2))) := by kernel_rfl
theorem F9_r2 (e : Env) (x1 : Option Addr) (hp : HP) (K : Env → PV → HP → Prop) : RW Try.prog 143 [] (opsAt Try.f9 [1, 1, 1, 0]) (List.range 9) (upd e 1 (sV (Value.pointer x1))) V0 hp K =
    (CF Try.prog 42 [(Value.pointer x1)] hp fun u1 h2 => (tup3V u1 fun u3 u4 u5 => (intV u3 .i64 fun i6 => (intV u4 .i64 fun i7 => (boolV u5 fun q8 => (K (upd (upd (upd (upd (upd (upd (upd (upd (upd (upd e 1 (sV (Value.pointer x1))) 37 (sV (Value.pointer x1))) 38 (sV (Value.tuple ⟨[(Value.int .i64 i6), (Value.int .i64 i7), (Value.bool q8)]⟩))) 36 (sV (Value.tuple ⟨[(Value.int .i64 i6), (Value.int .i64 i7), (Value.bool q8)]⟩))) 39 (sI (i6))) 40 (sI (i7))) 41 (sB (q8))) 3 (sI (i6))) 4 (sI (i7))) 5 (sB (q8))) V0 h2)))))) := by kernel_rfl
theorem F9_r3 (e : Env) (x1 : Option Addr) (hp : HP) (K : Env → PV → HP → Prop) : RW Try.prog 143 [] (opsAt Try.f9 [1, 1, 1, 1, 1, 0]) (List.range 7) (upd e 1 (sV (Value.pointer x1))) V0 hp K =
    (CF Try.prog 38 [(Value.pointer x1), (Value.int .i64 7)] hp fun u1 h2 => (tup2V u1 fun u3 u4 => (intV u3 .i64 fun i5 => (boolV u4 fun q6 => (K (upd (upd (upd (upd (upd (upd (upd (upd e 1 (sV (Value.pointer x1))) 64 (sV (Value.pointer x1))) 65 (sV (Value.tuple ⟨[(Value.int .i64 i5), (Value.bool q6)]⟩))) 63 (sV (Value.tuple ⟨[(Value.int .i64 i5), (Value.bool q6)]⟩))) 66 (sI (i5))) 67 (sB (q6))) 7 (sI (i5))) 8 (sB (q6))) V0 h2))))) := by kernel_rfl
theorem F9_r4 (e : Env) (x1 : Option Addr) (hp : HP) (K : Env → PV → HP → Prop) : RW Try.prog 143 [] (opsAt Try.f9 [1, 1, 1, 1, 1, 1, 1, 1, 0]) (List.range 3) (upd e 1 (sV (Value.pointer x1))) V0 hp K =
    (CF Try.prog 31 [(Value.pointer x1), (Value.int .i64 4611686018427387904)] hp fun u1 h2 => (slcV u1 fun a3 n4 c5 => (K (upd (upd (upd (upd e 1 (sV (Value.pointer x1))) 101 (sV (Value.pointer x1))) 102 (sV (Value.slice a3 n4 c5))) 11 (sV (Value.slice a3 n4 c5))) V0 h2))) := by kernel_rfl
theorem F9_r5 (e : Env) (x2 : Bool) (x6 : Bool) (x7 : Int) (x8 : Bool) (x9 : Bool) (x11a : Option Addr) (x11n : Nat) (x11c : Nat) (hp : HP) (K : Env → PV → HP → Prop) : RW Try.prog 143 [] (opsAt Try.f9 [1, 1, 1, 1, 1, 1, 1, 1, 1, 0]) (List.range 41) (upd (upd (upd (upd (upd (upd e 11 (sV (Value.slice x11a x11n x11c))) 9 (sB (x9))) 8 (sB (x8))) 7 (sI (x7))) 6 (sB (x6))) 2 (sB (x2))) V0 hp K =
    (ite2 x2 (ite2 x6 (ite2 ((x7 : Int) == 5) (ite2 x8 (ite2 x9 (ite2 (((x11n : Nat) : Int) == 40) ((0 ≤ (0 : Int)) ∧ ((0 : Int) < (x11n : Nat)) ∧ (ptrN x11a fun b1 o2 => (ldV (HP.cell hp b1 (o2 + Int.toNat 0 * 1)) fun v3 => (intV v3 .i64 fun i4 => (ite2 ((i4 : Int) == 6) ((0 ≤ (1 : Int)) ∧ ((1 : Int) < (x11n : Nat)) ∧ (ptrN x11a fun b5 o6 => (ldV (HP.cell hp b5 (o6 + Int.toNat 1 * 1)) fun v7 => (intV v7 .i64 fun i8 => (ite2 ((i8 : Int) == 13) ((0 ≤ (39 : Int)) ∧ ((39 : Int) < (x11n : Nat)) ∧ (ptrN x11a fun b9 o10 => (ldV (HP.cell hp b9 (o10 + Int.toNat 39 * 1)) fun v11 => (intV v11 .i64 fun i12 => (ite2 ((i12 : Int) == 35) (CF Try.prog 28 [] hp fun u13 h14 => (boolV u13 fun q15 => (K (upd (upd (upd (upd (upd (upd (upd (upd (upd (upd (upd (upd (upd (upd (upd (upd (upd (upd (upd (upd (upd (upd (upd (upd (upd (upd (upd (upd (upd (upd (upd (upd (upd (upd (upd (upd (upd (upd (upd (upd (upd (upd (upd (upd (upd (upd (upd e 11 (sV (Value.slice x11a x11n x11c))) 9 (sB (x9))) 8 (sB (x8))) 7 (sI (x7))) 6 (sB (x6))) 2 (sB (x2))) 103 (sB (x2))) 104 (sB (true))) 105 (sB (x6))) 106 (sB (x6))) 107 (sB (true))) 108 (sI (x7))) 109 (sB (((x7 : Int) == 5)))) 110 (sB (((x7 : Int) == 5)))) 111 (sB (true))) 112 (sB (x8))) 113 (sB (x8))) 114 (sB (true))) 115 (sB (x9))) 116 (sB (x9))) 117 (sB (true))) 118 (sV (Value.slice x11a x11n x11c))) 119 (sI ((x11n : Nat)))) 120 (sB ((((x11n : Nat) : Int) == 40)))) 121 (sB ((((x11n : Nat) : Int) == 40)))) 122 (sB (true))) 123 (sV (Value.slice x11a x11n x11c))) 124 (sV (ptr b1 (o2 + Int.toNat 0 * 1)))) 125 (sI (i4))) 126 (sB (((i4 : Int) == 6)))) 127 (sB (((i4 : Int) == 6)))) 128 (sB (true))) 129 (sV (Value.slice x11a x11n x11c))) 130 (sV (ptr b5 (o6 + Int.toNat 1 * 1)))) 131 (sI (i8))) 132 (sB (((i8 : Int) == 13)))) 133 (sB (((i8 : Int) == 13)))) 134 (sB (true))) 135 (sV (Value.slice x11a x11n x11c))) 136 (sV (ptr b9 (o10 + Int.toNat 39 * 1)))) 137 (sI (i12))) 138 (sB (((i12 : Int) == 35)))) 139 (sB (((i12 : Int) == 35)))) 140 (sB (true))) 141 (sB (q15))) 142 (sB (q15))) 0 (sB (q15))) V0 h14))) (K (upd (upd (upd (upd (upd (upd (upd (upd (upd (upd (upd (upd (upd (upd (upd (upd (upd (upd (upd (upd (upd (upd (upd (upd (upd (upd (upd (upd (upd (upd (upd (upd (upd (upd (upd (upd (upd (upd (upd (upd (upd (upd (upd (upd (upd (upd (upd e 11 (sV (Value.slice x11a x11n x11c))) 9 (sB (x9))) 8 (sB (x8))) 7 (sI (x7))) 6 (sB (x6))) 2 (sB (x2))) 103 (sB (x2))) 104 (sB (true))) 105 (sB (x6))) 106 (sB (x6))) 107 (sB (true))) 108 (sI (x7))) 109 (sB (((x7 : Int) == 5)))) 110 (sB (((x7 : Int) == 5)))) 111 (sB (true))) 112 (sB (x8))) 113 (sB (x8))) 114 (sB (true))) 115 (sB (x9))) 116 (sB (x9))) 117 (sB (true))) 118 (sV (Value.slice x11a x11n x11c))) 119 (sI ((x11n : Nat)))) 120 (sB ((((x11n : Nat) : Int) == 40)))) 121 (sB ((((x11n : Nat) : Int) == 40)))) 122 (sB (true))) 123 (sV (Value.slice x11a x11n x11c))) 124 (sV (ptr b1 (o2 + Int.toNat 0 * 1)))) 125 (sI (i4))) 126 (sB (((i4 : Int) == 6)))) 127 (sB (((i4 : Int) == 6)))) 128 (sB (true))) 129 (sV (Value.slice x11a x11n x11c))) 130 (sV (ptr b5 (o6 + Int.toNat 1 * 1)))) 131 (sI (i8))) 132 (sB (((i8 : Int) == 13)))) 133 (sB (((i8 : Int) == 13)))) 134 (sB (true))) 135 (sV (Value.slice x11a x11n x11c))) 136 (sV (ptr b9 (o10 + Int.toNat 39 * 1)))) 137 (sI (i12))) 138 (sB (((i12 : Int) == 35)))) 139 (sB (((i12 : Int) == 35)))) 140 (sB (false))) 141 (sV undef)) 142 (sB (false))) 0 (sB (false))) V0 hp)))))) (K (upd (upd (upd (upd (upd (upd (upd (upd (upd (upd (upd (upd (upd (upd (upd (upd (upd (upd (upd (upd (upd (upd (upd (upd (upd (upd (upd (upd (upd (upd (upd (upd (upd (upd (upd (upd (upd (upd (upd (upd (upd (upd (upd (upd (upd (upd (upd e 11 (sV (Value.slice x11a x11n x11c))) 9 (sB (x9))) 8 (sB (x8))) 7 (sI (x7))) 6 (sB (x6))) 2 (sB (x2))) 103 (sB (x2))) 104 (sB (true))) 105 (sB (x6))) 106 (sB (x6))) 107 (sB (true))) 108 (sI (x7))) 109 (sB (((x7 : Int) == 5)))) 110 (sB (((x7 : Int) == 5)))) 111 (sB (true))) 112 (sB (x8))) 113 (sB (x8))) 114 (sB (true))) 115 (sB (x9))) 116 (sB (x9))) 117 (sB (true))) 118 (sV (Value.slice x11a x11n x11c))) 119 (sI ((x11n : Nat)))) 120 (sB ((((x11n : Nat) : Int) == 40)))) 121 (sB ((((x11n : Nat) : Int) == 40)))) 122 (sB (true))) 123 (sV (Value.slice x11a x11n x11c))) 124 (sV (ptr b1 (o2 + Int.toNat 0 * 1)))) 125 (sI (i4))) 126 (sB (((i4 : Int) == 6)))) 127 (sB (((i4 : Int) == 6)))) 128 (sB (true))) 129 (sV (Value.slice x11a x11n x11c))) 130 (sV (ptr b5 (o6 + Int.toNat 1 * 1)))) 131 (sI (i8))) 132 (sB (((i8 : Int) == 13)))) 133 (sB (((i8 : Int) == 13)))) 134 (sB (false))) 135 (sV undef)) 136 (sV undef)) 137 (sV undef)) 138 (sV undef)) 139 (sB (false))) 140 (sB (false))) 141 (sV undef)) 142 (sB (false))) 0 (sB (false))) V0 hp)))))) (K (upd (upd (upd (upd (upd (upd (upd (upd (upd (upd (upd (upd (upd (upd (upd (upd (upd (upd (upd (upd (upd (upd (upd (upd (upd (upd (upd (upd (upd (upd (upd (upd (upd (upd (upd (upd (upd (upd (upd (upd (upd (upd (upd (upd (upd (upd (upd e 11 (sV (Value.slice x11a x11n x11c))) 9 (sB (x9))) 8 (sB (x8))) 7 (sI (x7))) 6 (sB (x6))) 2 (sB (x2))) 103 (sB (x2))) 104 (sB (true))) 105 (sB (x6))) 106 (sB (x6))) 107 (sB (true))) 108 (sI (x7))) 109 (sB (((x7 : Int) == 5)))) 110 (sB (((x7 : Int) == 5)))) 111 (sB (true))) 112 (sB (x8))) 113 (sB (x8))) 114 (sB (true))) 115 (sB (x9))) 116 (sB (x9))) 117 (sB (true))) 118 (sV (Value.slice x11a x11n x11c))) 119 (sI ((x11n : Nat)))) 120 (sB ((((x11n : Nat) : Int) == 40)))) 121 (sB ((((x11n : Nat) : Int) == 40)))) 122 (sB (true))) 123 (sV (Value.slice x11a x11n x11c))) 124 (sV (ptr b1 (o2 + Int.toNat 0 * 1)))) 125 (sI (i4))) 126 (sB (((i4 : Int) == 6)))) 127 (sB (((i4 : Int) == 6)))) 128 (sB (false))) 129 (sV undef)) 130 (sV undef)) 131 (sV undef)) 132 (sV undef)) 133 (sB (false))) 134 (sB (false))) 135 (sV undef)) 136 (sV undef)) 137 (sV undef)) 138 (sV undef)) 139 (sB (false))) 140 (sB (false))) 141 (sV undef)) 142 (sB (false))) 0 (sB (false))) V0 hp)))))) (K (upd (upd (upd (upd (upd (upd (upd (upd (upd (upd (upd (upd (upd (upd (upd (upd (upd (upd (upd (upd (upd (upd (upd (upd (upd (upd (upd (upd (upd (upd (upd (upd (upd (upd (upd (upd (upd (upd (upd (upd (upd (upd (upd (upd (upd (upd (upd e 11 (sV (Value.slice x11a x11n x11c))) 9 (sB (x9))) 8 (sB (x8))) 7 (sI (x7))) 6 (sB (x6))) 2 (sB (x2))) 103 (sB (x2))) 104 (sB (true))) 105 (sB (x6))) 106 (sB (x6))) 107 (sB (true))) 108 (sI (x7))) 109 (sB (((x7 : Int) == 5)))) 110 (sB (((x7 : Int) == 5)))) 111 (sB (true))) 112 (sB (x8))) 113 (sB (x8))) 114 (sB (true))) 115 (sB (x9))) 116 (sB (x9))) 117 (sB (true))) 118 (sV (Value.slice x11a x11n x11c))) 119 (sI ((x11n : Nat)))) 120 (sB ((((x11n : Nat) : Int) == 40)))) 121 (sB ((((x11n : Nat) : Int) == 40)))) 122 (sB (false))) 123 (sV undef)) 124 (sV undef)) 125 (sV undef)) 126 (sV undef)) 127 (sB (false))) 128 (sB (false))) 129 (sV undef)) 130 (sV undef)) 131 (sV undef)) 132 (sV undef)) 133 (sB (false))) 134 (sB (false))) 135 (sV undef)) 136 (sV undef)) 137 (sV undef)) 138 (sV undef)) 139 (sB (false))) 140 (sB (false))) 141 (sV undef)) 142 (sB (false))) 0 (sB (false))) V0 hp)) (K (upd (upd (upd (upd (upd (upd (upd (upd (upd (upd (upd (upd (upd (upd (upd (upd (upd (upd (upd (upd (upd (upd (upd (upd (upd (upd (upd (upd (upd (upd (upd (upd (upd (upd (upd (upd (upd (upd (upd (upd (upd (upd (upd (upd (upd (upd (upd e 11 (sV (Value.slice x11a x11n x11c))) 9 (sB (x9))) 8 (sB (x8))) 7 (sI (x7))) 6 (sB (x6))) 2 (sB (x2))) 103 (sB (x2))) 104 (sB (true))) 105 (sB (x6))) 106 (sB (x6))) 107 (sB (true))) 108 (sI (x7))) 109 (sB (((x7 : Int) == 5)))) 110 (sB (((x7 : Int) == 5)))) 111 (sB (true))) 112 (sB (x8))) 113 (sB (x8))) 114 (sB (true))) 115 (sB (x9))) 116 (sB (x9))) 117 (sB (false))) 118 (sV undef)) 119 (sV undef)) 120 (sV undef)) 121 (sB (false))) 122 (sB (false))) 123 (sV undef)) 124 (sV undef)) 125 (sV undef)) 126 (sV undef)) 127 (sB (false))) 128 (sB (false))) 129 (sV undef)) 130 (sV undef)) 131 (sV undef)) 132 (sV undef)) 133 (sB (false))) 134 (sB (false))) 135 (sV undef)) 136 (sV undef)) 137 (sV undef)) 138 (sV undef)) 139 (sB (false))) 140 (sB (false))) 141 (sV undef)) 142 (sB (false))) 0 (sB (false))) V0 hp)) (K (upd (upd (upd (upd (upd (upd (upd (upd (upd (upd (upd (upd (upd (upd (upd (upd (upd (upd (upd (upd (upd (upd (upd (upd (upd (upd (upd (upd (upd (upd (upd (upd (upd (upd (upd (upd (upd (upd (upd (upd (upd (upd (upd (upd (upd (upd (upd e 11 (sV (Value.slice x11a x11n x11c))) 9 (sB (x9))) 8 (sB (x8))) 7 (sI (x7))) 6 (sB (x6))) 2 (sB (x2))) 103 (sB (x2))) 104 (sB (true))) 105 (sB (x6))) 106 (sB (x6))) 107 (sB (true))) 108 (sI (x7))) 109 (sB (((x7 : Int) == 5)))) 110 (sB (((x7 : Int) == 5)))) 111 (sB (true))) 112 (sB (x8))) 113 (sB (x8))) 114 (sB (false))) 115 (sV undef)) 116 (sB (false))) 117 (sB (false))) 118 (sV undef)) 119 (sV undef)) 120 (sV undef)) 121 (sB (false))) 122 (sB (false))) 123 (sV undef)) 124 (sV undef)) 125 (sV undef)) 126 (sV undef)) 127 (sB (false))) 128 (sB (false))) 129 (sV undef)) 130 (sV undef)) 131 (sV undef)) 132 (sV undef)) 133 (sB (false))) 134 (sB (false))) 135 (sV undef)) 136 (sV undef)) 137 (sV undef)) 138 (sV undef)) 139 (sB (false))) 140 (sB (false))) 141 (sV undef)) 142 (sB (false))) 0 (sB (false))) V0 hp)) (K (upd (upd (upd (upd (upd (upd (upd (upd (upd (upd (upd (upd (upd (upd (upd (upd (upd (upd (upd (upd (upd (upd (upd (upd (upd (upd (upd (upd (upd (upd (upd (upd (upd (upd (upd (upd (upd (upd (upd (upd (upd (upd (upd (upd (upd (upd (upd e 11 (sV (Value.slice x11a x11n x11c))) 9 (sB (x9))) 8 (sB (x8))) 7 (sI (x7))) 6 (sB (x6))) 2 (sB (x2))) 103 (sB (x2))) 104 (sB (true))) 105 (sB (x6))) 106 (sB (x6))) 107 (sB (true))) 108 (sI (x7))) 109 (sB (((x7 : Int) == 5)))) 110 (sB (((x7 : Int) == 5)))) 111 (sB (false))) 112 (sV undef)) 113 (sB (false))) 114 (sB (false))) 115 (sV undef)) 116 (sB (false))) 117 (sB (false))) 118 (sV undef)) 119 (sV undef)) 120 (sV undef)) 121 (sB (false))) 122 (sB (false))) 123 (sV undef)) 124 (sV undef)) 125 (sV undef)) 126 (sV undef)) 127 (sB (false))) 128 (sB (false))) 129 (sV undef)) 130 (sV undef)) 131 (sV undef)) 132 (sV undef)) 133 (sB (false))) 134 (sB (false))) 135 (sV undef)) 136 (sV undef)) 137 (sV undef)) 138 (sV undef)) 139 (sB (false))) 140 (sB (false))) 141 (sV undef)) 142 (sB (false))) 0 (sB (false))) V0 hp)) (K (upd (upd (upd (upd (upd (upd (upd (upd (upd (upd (upd (upd (upd (upd (upd (upd (upd (upd (upd (upd (upd (upd (upd (upd (upd (upd (upd (upd (upd (upd (upd (upd (upd (upd (upd (upd (upd (upd (upd (upd (upd (upd (upd (upd (upd (upd (upd e 11 (sV (Value.slice x11a x11n x11c))) 9 (sB (x9))) 8 (sB (x8))) 7 (sI (x7))) 6 (sB (x6))) 2 (sB (x2))) 103 (sB (x2))) 104 (sB (true))) 105 (sB (x6))) 106 (sB (x6))) 107 (sB (false))) 108 (sV undef)) 109 (sV undef)) 110 (sB (false))) 111 (sB (false))) 112 (sV undef)) 113 (sB (false))) 114 (sB (false))) 115 (sV undef)) 116 (sB (false))) 117 (sB (false))) 118 (sV undef)) 119 (sV undef)) 120 (sV undef)) 121 (sB (false))) 122 (sB (false))) 123 (sV undef)) 124 (sV undef)) 125 (sV undef)) 126 (sV undef)) 127 (sB (false))) 128 (sB (false))) 129 (sV undef)) 130 (sV undef)) 131 (sV undef)) 132 (sV undef)) 133 (sB (false))) 134 (sB (false))) 135 (sV undef)) 136 (sV undef)) 137 (sV undef)) 138 (sV undef)) 139 (sB (false))) 140 (sB (false))) 141 (sV undef)) 142 (sB (false))) 0 (sB (false))) V0 hp)) (K (upd (upd (upd (upd (upd (upd (upd (upd (upd (upd (upd (upd (upd (upd (upd (upd (upd (upd (upd (upd (upd (upd (upd (upd (upd (upd (upd (upd (upd (upd (upd (upd (upd (upd (upd (upd (upd (upd (upd (upd (upd (upd (upd (upd (upd (upd (upd e 11 (sV (Value.slice x11a x11n x11c))) 9 (sB (x9))) 8 (sB (x8))) 7 (sI (x7))) 6 (sB (x6))) 2 (sB (x2))) 103 (sB (x2))) 104 (sB (false))) 105 (sV undef)) 106 (sB (false))) 107 (sB (false))) 108 (sV undef)) 109 (sV undef)) 110 (sB (false))) 111 (sB (false))) 112 (sV undef)) 113 (sB (false))) 114 (sB (false))) 115 (sV undef)) 116 (sB (false))) 117 (sB (false))) 118 (sV undef)) 119 (sV undef)) 120 (sV undef)) 121 (sB (false))) 122 (sB (false))) 123 (sV undef)) 124 (sV undef)) 125 (sV undef)) 126 (sV undef)) 127 (sB (false))) 128 (sB (false))) 129 (sV undef)) 130 (sV undef)) 131 (sV undef)) 132 (sV undef)) 133 (sB (false))) 134 (sB (false))) 135 (sV undef)) 136 (sV undef)) 137 (sV undef)) 138 (sV undef)) 139 (sB (false))) 140 (sB (false))) 141 (sV undef)) 142 (sB (false))) 0 (sB (false))) V0 hp)) := by kernel_rfl
def F9_j4 (x1 : Option Addr) (x2 : Bool) (x6 : Bool) (x7 : Int) (x8 : Bool) (x9 : Bool) (hp : HP) (K : Value → HP → Prop) : Prop :=
  (CF Try.prog 31 [(Value.pointer x1), (Value.int .i64 4611686018427387904)] hp fun u_18 h_19 => (slcV u_18 fun a_20 n_21 c_22 => (ite2 x2 (ite2 x6 (ite2 ((x7 : Int) == 5) (ite2 x8 (ite2 x9 (ite2 (((n_21 : Nat) : Int) == 40) ((0 ≤ (0 : Int)) ∧ ((0 : Int) < (n_21 : Nat)) ∧ (ptrN a_20 fun b_23 o_24 => (ldV (HP.cell h_19 b_23 (o_24 + Int.toNat 0 * 1)) fun v_25 => (intV v_25 .i64 fun i_26 => (ite2 ((i_26 : Int) == 6) ((0 ≤ (1 : Int)) ∧ ((1 : Int) < (n_21 : Nat)) ∧ (ptrN a_20 fun b_27 o_28 => (ldV (HP.cell h_19 b_27 (o_28 + Int.toNat 1 * 1)) fun v_29 => (intV v_29 .i64 fun i_30 => (ite2 ((i_30 : Int) == 13) ((0 ≤ (39 : Int)) ∧ ((39 : Int) < (n_21 : Nat)) ∧ (ptrN a_20 fun b_31 o_32 => (ldV (HP.cell h_19 b_31 (o_32 + Int.toNat 39 * 1)) fun v_33 => (intV v_33 .i64 fun i_34 => (ite2 ((i_34 : Int) == 35) (CF Try.prog 28 [] h_19 fun u_35 h_36 => (boolV u_35 fun q_37 => (K (Value.bool q_37) h_36))) (K (Value.bool false) h_19)))))) (K (Value.bool false) h_19)))))) (K (Value.bool false) h_19)))))) (K (Value.bool false) h_19)) (K (Value.bool false) h_19)) (K (Value.bool false) h_19)) (K (Value.bool false) h_19)) (K (Value.bool false) h_19)) (K (Value.bool false) h_19))))
theorem F9_r6 (e : Env) (x10 : Int) (hp : HP) (K : Env → PV → HP → Prop) : RW Try.prog 143 [] (opsAt Try.f9 [1, 1, 1, 1, 1, 1, 1, 0, 1, 0, 0, 0, 0]) (List.range 2) (upd e 10 (sI (x10))) V0 hp K =
    (K (upd (upd (upd e 10 (sI (x10))) 91 (sI (x10))) 92 (sB ((decide ((x10 : Int) < 40))))) V0 hp) := by kernel_rfl
theorem F9_r7 (e : Env) (x1 : Option Addr) (x10 : Int) (hp : HP) (K : Env → PV → HP → Prop) : RW Try.prog 143 [] (opsAt Try.f9 [1, 1, 1, 1, 1, 1, 1, 0, 1, 0, 0, 1, 0, 0]) (List.range 6) (upd (upd e 10 (sI (x10))) 1 (sV (Value.pointer x1))) V0 hp K =
    (((7 : Int) ≠ 0) ∧ (CF Try.prog 30 [(Value.pointer x1), (Value.int .i64 x10), (Value.int .i64 (IntKind.wrap .i64 (40 - (Int.tmod x10 7))))] hp fun u1 h2 => (intV u1 .i64 fun i3 => (K (upd (upd (upd (upd (upd (upd (upd (upd e 10 (sI (x10))) 1 (sV (Value.pointer x1))) 95 (sV (Value.pointer x1))) 96 (sI (x10))) 97 (sI (x10))) 98 (sI ((Int.tmod x10 7)))) 99 (sI ((IntKind.wrap .i64 (40 - (Int.tmod x10 7)))))) 100 (sI (i3))) V0 h2)))) := by kernel_rfl
theorem F9_r8 (e : Env) (x10 : Int) (hp : HP) (K : Env → PV → HP → Prop) : RW Try.prog 143 [] (opsAt Try.f9 [1, 1, 1, 1, 1, 1, 1, 0, 1, 0, 0, 1, 1]) (List.range 3) (upd e 10 (sI (x10))) V0 hp K =
    (K (upd (upd (upd (upd e 10 (sI (x10))) 93 (sI (x10))) 94 (sI ((IntKind.wrap .i64 (x10 + 1))))) 10 (sI ((IntKind.wrap .i64 (x10 + 1))))) V0 hp) := by kernel_rfl
def F9_l6 (x1 : Option Addr) (x2 : Bool) (x6 : Bool) (x7 : Int) (x8 : Bool) (x9 : Bool) (K : Value → HP → Prop) (I6 : (Int) → HP → Prop) (x10 : Int) (hp : HP) : Prop :=
  (ite2 (decide ((x10 : Int) < 40)) (((7 : Int) ≠ 0) ∧ (CF Try.prog 30 [(Value.pointer x1), (Value.int .i64 x10), (Value.int .i64 (IntKind.wrap .i64 (40 - (Int.tmod x10 7))))] hp fun u_38 h_39 => (intV u_38 .i64 fun i_40 => (I6 (IntKind.wrap .i64 (x10 + 1)) h_39)))) (F9_j4 x1 x2 x6 x7 x8 x9 hp  K))
def F9_j5 (x1 : Option Addr) (x2 : Bool) (x6 : Bool) (x7 : Int) (x8 : Bool) (x9 : Bool) (x10 : Int) (hp : HP) (K : Value → HP → Prop) : Prop :=
  (LoopP (σ := Int) (fun I s hp => F9_l6 x1 x2 x6 x7 x8 x9  K I s hp) x10 hp)
theorem F9_r9 (e : Env) (hp : HP) (K : Env → PV → HP → Prop) : RW Try.prog 143 [] (opsAt Try.f9 [1, 1, 1, 1, 1, 1, 1, 0, 0]) (List.range 1) e V0 hp K =
    (K (upd e 10 (sI (0))) V0 hp) := by kernel_rfl
def F9_j3 (x1 : Option Addr) (x2 : Bool) (x6 : Bool) (x7 : Int) (x8 : Bool) (x9 : Bool) (hp : HP) (K : Value → HP → Prop) : Prop :=
  (F9_j5 x1 x2 x6 x7 x8 x9 0 hp  K)
theorem F9_r10 (e : Env) (x1 : Option Addr) (hp : HP) (K : Env → PV → HP → Prop) : RW Try.prog 143 [] (opsAt Try.f9 [1, 1, 1, 1, 1, 1, 0]) (List.range 24) (upd e 1 (sV (Value.pointer x1))) V0 hp K =
    (CF Try.prog 30 [(Value.pointer x1), (Value.int .i64 7), (Value.int .i64 8)] hp fun u1 h2 => (intV u1 .i64 fun i3 => (ite2 ((i3 : Int) == 0) (CF Try.prog 31 [(Value.pointer x1), (Value.int .i64 5)] h2 fun u4 h5 => (slcV u4 fun a6 n7 c8 => (∀ b9 : Nat, h5 b9 = .none → (CF Try.prog 32 [(Value.slice a6 n7 c8), (Value.slice (some ⟨b9, 0, none⟩) 1 1)] (HP.set h5 b9 (.cells 3 [(Value.int .i64 3)] 0)) fun u10 h11 => (boolV u10 fun q12 => (ite2 q12 (CF Try.prog 34 [(Value.pointer x1), (Value.int .i64 7)] h11 fun u13 h14 => (boolV u13 fun q15 => (ite2 q15 (CF Try.prog 34 [(Value.pointer x1), (Value.int .i64 7)] h14 fun u16 h17 => (boolV u16 fun q18 => (ite2 (!q18) (CF Try.prog 36 [(Value.pointer x1)] h17 fun u19 h20 => (intV u19 .i64 fun i21 => (K (upd (upd (upd (upd (upd (upd (upd (upd (upd (upd (upd (upd (upd (upd (upd (upd (upd (upd (upd (upd (upd (upd (upd (upd (upd e 1 (sV (Value.pointer x1))) 68 (sV (Value.pointer x1))) 69 (sI (i3))) 70 (sB (((i3 : Int) == 0)))) 71 (sB (true))) 72 (sV (Value.pointer x1))) 73 (sV (Value.slice a6 n7 c8))) 74 (sV (Value.slice (some ⟨b9, 0, none⟩) 1 1))) 75 (sB (q12))) 76 (sB (q12))) 77 (sB (true))) 78 (sV (Value.pointer x1))) 79 (sB (q15))) 80 (sB (q15))) 81 (sB (true))) 82 (sV (Value.pointer x1))) 83 (sB (q18))) 84 (sB ((!q18)))) 85 (sB ((!q18)))) 86 (sB (true))) 87 (sV (Value.pointer x1))) 88 (sI (i21))) 89 (sB (((i21 : Int) == 0)))) 90 (sB (((i21 : Int) == 0)))) 9 (sB (((i21 : Int) == 0)))) V0 h20))) (K (upd (upd (upd (upd (upd (upd (upd (upd (upd (upd (upd (upd (upd (upd (upd (upd (upd (upd (upd (upd (upd (upd (upd (upd (upd e 1 (sV (Value.pointer x1))) 68 (sV (Value.pointer x1))) 69 (sI (i3))) 70 (sB (((i3 : Int) == 0)))) 71 (sB (true))) 72 (sV (Value.pointer x1))) 73 (sV (Value.slice a6 n7 c8))) 74 (sV (Value.slice (some ⟨b9, 0, none⟩) 1 1))) 75 (sB (q12))) 76 (sB (q12))) 77 (sB (true))) 78 (sV (Value.pointer x1))) 79 (sB (q15))) 80 (sB (q15))) 81 (sB (true))) 82 (sV (Value.pointer x1))) 83 (sB (q18))) 84 (sB ((!q18)))) 85 (sB ((!q18)))) 86 (sB (false))) 87 (sV undef)) 88 (sV undef)) 89 (sV undef)) 90 (sB (false))) 9 (sB (false))) V0 h17)))) (K (upd (upd (upd (upd (upd (upd (upd (upd (upd (upd (upd (upd (upd (upd (upd (upd (upd (upd (upd (upd (upd (upd (upd (upd (upd e 1 (sV (Value.pointer x1))) 68 (sV (Value.pointer x1))) 69 (sI (i3))) 70 (sB (((i3 : Int) == 0)))) 71 (sB (true))) 72 (sV (Value.pointer x1))) 73 (sV (Value.slice a6 n7 c8))) 74 (sV (Value.slice (some ⟨b9, 0, none⟩) 1 1))) 75 (sB (q12))) 76 (sB (q12))) 77 (sB (true))) 78 (sV (Value.pointer x1))) 79 (sB (q15))) 80 (sB (q15))) 81 (sB (false))) 82 (sV undef)) 83 (sV undef)) 84 (sV undef)) 85 (sB (false))) 86 (sB (false))) 87 (sV undef)) 88 (sV undef)) 89 (sV undef)) 90 (sB (false))) 9 (sB (false))) V0 h14)))) (K (upd (upd (upd (upd (upd (upd (upd (upd (upd (upd (upd (upd (upd (upd (upd (upd (upd (upd (upd (upd (upd (upd (upd (upd (upd e 1 (sV (Value.pointer x1))) 68 (sV (Value.pointer x1))) 69 (sI (i3))) 70 (sB (((i3 : Int) == 0)))) 71 (sB (true))) 72 (sV (Value.pointer x1))) 73 (sV (Value.slice a6 n7 c8))) 74 (sV (Value.slice (some ⟨b9, 0, none⟩) 1 1))) 75 (sB (q12))) 76 (sB (q12))) 77 (sB (false))) 78 (sV undef)) 79 (sV undef)) 80 (sB (false))) 81 (sB (false))) 82 (sV undef)) 83 (sV undef)) 84 (sV undef)) 85 (sB (false))) 86 (sB (false))) 87 (sV undef)) 88 (sV undef)) 89 (sV undef)) 90 (sB (false))) 9 (sB (false))) V0 h11))))))) (K (upd (upd (upd (upd (upd (upd (upd (upd (upd (upd (upd (upd (upd (upd (upd (upd (upd (upd (upd (upd (upd (upd (upd (upd (upd e 1 (sV (Value.pointer x1))) 68 (sV (Value.pointer x1))) 69 (sI (i3))) 70 (sB (((i3 : Int) == 0)))) 71 (sB (false))) 72 (sV undef)) 73 (sV undef)) 74 (sV undef)) 75 (sV undef)) 76 (sB (false))) 77 (sB (false))) 78 (sV undef)) 79 (sV undef)) 80 (sB (false))) 81 (sB (false))) 82 (sV undef)) 83 (sV undef)) 84 (sV undef)) 85 (sB (false))) 86 (sB (false))) 87 (sV undef)) 88 (sV undef)) 89 (sV undef)) 90 (sB (false))) 9 (sB (false))) V0 h2)))) := by kernel_rfl
def F9_j2 (x1 : Option Addr) (x2 : Bool) (x6 : Bool) (hp : HP) (K : Value → HP → Prop) : Prop :=
  (CF Try.prog 38 [(Value.pointer x1), (Value.int .i64 7)] hp fun u_12 h_13 => (tup2V u_12 fun u_14 u_15 => (intV u_14 .i64 fun i_16 => (boolV u_15 fun q_17 => (CF Try.prog 30 [(Value.pointer x1), (Value.int .i64 7), (Value.int .i64 8)] h_13 fun u_41 h_42 => (intV u_41 .i64 fun i_43 => (ite2 ((i_43 : Int) == 0) (CF Try.prog 31 [(Value.pointer x1), (Value.int .i64 5)] h_42 fun u_44 h_45 => (slcV u_44 fun a_46 n_47 c_48 => (∀ b_49 : Nat, h_45 b_49 = .none → (CF Try.prog 32 [(Value.slice a_46 n_47 c_48), (Value.slice (some ⟨b_49, 0, none⟩) 1 1)] (HP.set h_45 b_49 (.cells 3 [(Value.int .i64 3)] 0)) fun u_50 h_51 => (boolV u_50 fun q_52 => (ite2 q_52 (CF Try.prog 34 [(Value.pointer x1), (Value.int .i64 7)] h_51 fun u_53 h_54 => (boolV u_53 fun q_55 => (ite2 q_55 (CF Try.prog 34 [(Value.pointer x1), (Value.int .i64 7)] h_54 fun u_56 h_57 => (boolV u_56 fun q_58 => (ite2 (!q_58) (CF Try.prog 36 [(Value.pointer x1)] h_57 fun u_59 h_60 => (intV u_59 .i64 fun i_61 => (F9_j3 x1 x2 x6 i_16 q_17 ((i_61 : Int) == 0) h_60  K))) (F9_j3 x1 x2 x6 i_16 q_17 false h_57  K)))) (F9_j3 x1 x2 x6 i_16 q_17 false h_54  K)))) (F9_j3 x1 x2 x6 i_16 q_17 false h_51  K))))))) (F9_j3 x1 x2 x6 i_16 q_17 false h_42  K))))))))
theorem F9_r11 (e : Env) (x1 : Option Addr) (x3 : Int) (x4 : Int) (x5 : Bool) (hp : HP) (K : Env → PV → HP → Prop) : RW Try.prog 143 [] (opsAt Try.f9 [1, 1, 1, 1, 0]) (List.range 22) (upd (upd (upd (upd e 5 (sB (x5))) 4 (sI (x4))) 3 (sI (x3))) 1 (sV (Value.pointer x1))) V0 hp K =
    (ite2 ((x3 : Int) == 9) (ite2 ((x4 : Int) == 2) (ite2 x5 (CF Try.prog 31 [(Value.pointer x1), (Value.int .i64 4)] hp fun u1 h2 => (slcV u1 fun a3 n4 c5 => (∀ b6 : Nat, h2 b6 = .none → (CF Try.prog 32 [(Value.slice a3 n4 c5), (Value.slice (some ⟨b6, 0, none⟩) 1 1)] (HP.set h2 b6 (.cells 3 [(Value.int .i64 9)] 0)) fun u7 h8 => (boolV u7 fun q9 => (ite2 q9 (CF Try.prog 33 [(Value.pointer x1)] h8 fun u10 h11 => (slcV u10 fun a12 n13 c14 => (∀ b15 : Nat, h11 b15 = .none → (CF Try.prog 32 [(Value.slice a12 n13 c14), (Value.slice (some ⟨b15, 0, none⟩) 2 2)] (HP.set h11 b15 (.cells 3 [(Value.int .i64 3), (Value.int .i64 7)] 0)) fun u16 h17 => (boolV u16 fun q18 => (K (upd (upd (upd (upd (upd (upd (upd (upd (upd (upd (upd (upd (upd (upd (upd (upd (upd (upd (upd (upd (upd (upd (upd (upd (upd (upd e 5 (sB (x5))) 4 (sI (x4))) 3 (sI (x3))) 1 (sV (Value.pointer x1))) 42 (sI (x3))) 43 (sB (((x3 : Int) == 9)))) 44 (sB (true))) 45 (sI (x4))) 46 (sB (((x4 : Int) == 2)))) 47 (sB (((x4 : Int) == 2)))) 48 (sB (true))) 49 (sB (x5))) 50 (sB (x5))) 51 (sB (true))) 52 (sV (Value.pointer x1))) 53 (sV (Value.slice a3 n4 c5))) 54 (sV (Value.slice (some ⟨b6, 0, none⟩) 1 1))) 55 (sB (q9))) 56 (sB (q9))) 57 (sB (true))) 58 (sV (Value.pointer x1))) 59 (sV (Value.slice a12 n13 c14))) 60 (sV (Value.slice (some ⟨b15, 0, none⟩) 2 2))) 61 (sB (q18))) 62 (sB (q18))) 6 (sB (q18))) V0 h17)))))) (K (upd (upd (upd (upd (upd (upd (upd (upd (upd (upd (upd (upd (upd (upd (upd (upd (upd (upd (upd (upd (upd (upd (upd (upd (upd (upd e 5 (sB (x5))) 4 (sI (x4))) 3 (sI (x3))) 1 (sV (Value.pointer x1))) 42 (sI (x3))) 43 (sB (((x3 : Int) == 9)))) 44 (sB (true))) 45 (sI (x4))) 46 (sB (((x4 : Int) == 2)))) 47 (sB (((x4 : Int) == 2)))) 48 (sB (true))) 49 (sB (x5))) 50 (sB (x5))) 51 (sB (true))) 52 (sV (Value.pointer x1))) 53 (sV (Value.slice a3 n4 c5))) 54 (sV (Value.slice (some ⟨b6, 0, none⟩) 1 1))) 55 (sB (q9))) 56 (sB (q9))) 57 (sB (false))) 58 (sV undef)) 59 (sV undef)) 60 (sV undef)) 61 (sV undef)) 62 (sB (false))) 6 (sB (false))) V0 h8))))))) (K (upd (upd (upd (upd (upd (upd (upd (upd (upd (upd (upd (upd (upd (upd (upd (upd (upd (upd (upd (upd (upd (upd (upd (upd (upd (upd e 5 (sB (x5))) 4 (sI (x4))) 3 (sI (x3))) 1 (sV (Value.pointer x1))) 42 (sI (x3))) 43 (sB (((x3 : Int) == 9)))) 44 (sB (true))) 45 (sI (x4))) 46 (sB (((x4 : Int) == 2)))) 47 (sB (((x4 : Int) == 2)))) 48 (sB (true))) 49 (sB (x5))) 50 (sB (x5))) 51 (sB (false))) 52 (sV undef)) 53 (sV undef)) 54 (sV undef)) 55 (sV undef)) 56 (sB (false))) 57 (sB (false))) 58 (sV undef)) 59 (sV undef)) 60 (sV undef)) 61 (sV undef)) 62 (sB (false))) 6 (sB (false))) V0 hp)) (K (upd (upd (upd (upd (upd (upd (upd (upd (upd (upd (upd (upd (upd (upd (upd (upd (upd (upd (upd (upd (upd (upd (upd (upd (upd (upd e 5 (sB (x5))) 4 (sI (x4))) 3 (sI (x3))) 1 (sV (Value.pointer x1))) 42 (sI (x3))) 43 (sB (((x3 : Int) == 9)))) 44 (sB (true))) 45 (sI (x4))) 46 (sB (((x4 : Int) == 2)))) 47 (sB (((x4 : Int) == 2)))) 48 (sB (false))) 49 (sV undef)) 50 (sB (false))) 51 (sB (false))) 52 (sV undef)) 53 (sV undef)) 54 (sV undef)) 55 (sV undef)) 56 (sB (false))) 57 (sB (false))) 58 (sV undef)) 59 (sV undef)) 60 (sV undef)) 61 (sV undef)) 62 (sB (false))) 6 (sB (false))) V0 hp)) (K (upd (upd (upd (upd (upd (upd (upd (upd (upd (upd (upd (upd (upd (upd (upd (upd (upd (upd (upd (upd (upd (upd (upd (upd (upd (upd e 5 (sB (x5))) 4 (sI (x4))) 3 (sI (x3))) 1 (sV (Value.pointer x1))) 42 (sI (x3))) 43 (sB (((x3 : Int) == 9)))) 44 (sB (false))) 45 (sV undef)) 46 (sV undef)) 47 (sB (false))) 48 (sB (false))) 49 (sV undef)) 50 (sB (false))) 51 (sB (false))) 52 (sV undef)) 53 (sV undef)) 54 (sV undef)) 55 (sV undef)) 56 (sB (false))) 57 (sB (false))) 58 (sV undef)) 59 (sV undef)) 60 (sV undef)) 61 (sV undef)) 62 (sB (false))) 6 (sB (false))) V0 hp)) := by kernel_rfl
def F9_j1 (x1 : Option Addr) (x2 : Bool) (hp : HP) (K : Value → HP → Prop) : Prop :=
  (CF Try.prog 42 [(Value.pointer x1)] hp fun u_4 h_5 => (tup3V u_4 fun u_6 u_7 u_8 => (intV u_6 .i64 fun i_9 => (intV u_7 .i64 fun i_10 => (boolV u_8 fun q_11 => (ite2 ((i_9 : Int) == 9) (ite2 ((i_10 : Int) == 2) (ite2 q_11 (CF Try.prog 31 [(Value.pointer x1), (Value.int .i64 4)] h_5 fun u_62 h_63 => (slcV u_62 fun a_64 n_65 c_66 => (∀ b_67 : Nat, h_63 b_67 = .none → (CF Try.prog 32 [(Value.slice a_64 n_65 c_66), (Value.slice (some ⟨b_67, 0, none⟩) 1 1)] (HP.set h_63 b_67 (.cells 3 [(Value.int .i64 9)] 0)) fun u_68 h_69 => (boolV u_68 fun q_70 => (ite2 q_70 (CF Try.prog 33 [(Value.pointer x1)] h_69 fun u_71 h_72 => (slcV u_71 fun a_73 n_74 c_75 => (∀ b_76 : Nat, h_72 b_76 = .none → (CF Try.prog 32 [(Value.slice a_73 n_74 c_75), (Value.slice (some ⟨b_76, 0, none⟩) 2 2)] (HP.set h_72 b_76 (.cells 3 [(Value.int .i64 3), (Value.int .i64 7)] 0)) fun u_77 h_78 => (boolV u_77 fun q_79 => (F9_j2 x1 x2 q_79 h_78  K)))))) (F9_j2 x1 x2 false h_69  K))))))) (F9_j2 x1 x2 false h_5  K)) (F9_j2 x1 x2 false h_5  K)) (F9_j2 x1 x2 false h_5  K)))))))
theorem F9_r12 (e : Env) (x1 : Option Addr) (hp : HP) (K : Env → PV → HP → Prop) : RW Try.prog 143 [] (opsAt Try.f9 [1, 1, 0]) (List.range 24) (upd e 1 (sV (Value.pointer x1))) V0 hp K =
    (CF Try.prog 30 [(Value.pointer x1), (Value.int .i64 7), (Value.int .i64 5)] hp fun u1 h2 => (intV u1 .i64 fun i3 => (ite2 ((i3 : Int) == 0) (CF Try.prog 30 [(Value.pointer x1), (Value.int .i64 3), (Value.int .i64 5)] h2 fun u4 h5 => (intV u4 .i64 fun i6 => (ite2 ((i6 : Int) == 0) (CF Try.prog 30 [(Value.pointer x1), (Value.int .i64 9), (Value.int .i64 2)] h5 fun u7 h8 => (intV u7 .i64 fun i9 => (ite2 ((i9 : Int) == 0) (CF Try.prog 30 [(Value.pointer x1), (Value.int .i64 1), (Value.int .i64 (-1))] h8 fun u10 h11 => (intV u10 .i64 fun i12 => (ite2 ((i12 : Int) == 1) (CF Try.prog 30 [(Value.pointer x1), (Value.int .i64 1), (Value.int .i64 4611686018427387905)] h11 fun u13 h14 => (intV u13 .i64 fun i15 => (K (upd (upd (upd (upd (upd (upd (upd (upd (upd (upd (upd (upd (upd (upd (upd (upd (upd (upd (upd (upd (upd (upd (upd (upd (upd e 1 (sV (Value.pointer x1))) 13 (sV (Value.pointer x1))) 14 (sI (i3))) 15 (sB (((i3 : Int) == 0)))) 16 (sB (true))) 17 (sV (Value.pointer x1))) 18 (sI (i6))) 19 (sB (((i6 : Int) == 0)))) 20 (sB (((i6 : Int) == 0)))) 21 (sB (true))) 22 (sV (Value.pointer x1))) 23 (sI (i9))) 24 (sB (((i9 : Int) == 0)))) 25 (sB (((i9 : Int) == 0)))) 26 (sB (true))) 27 (sV (Value.pointer x1))) 28 (sI (i12))) 29 (sB (((i12 : Int) == 1)))) 30 (sB (((i12 : Int) == 1)))) 31 (sB (true))) 32 (sV (Value.pointer x1))) 33 (sI (i15))) 34 (sB (((i15 : Int) == 1)))) 35 (sB (((i15 : Int) == 1)))) 2 (sB (((i15 : Int) == 1)))) V0 h14))) (K (upd (upd (upd (upd (upd (upd (upd (upd (upd (upd (upd (upd (upd (upd (upd (upd (upd (upd (upd (upd (upd (upd (upd (upd (upd e 1 (sV (Value.pointer x1))) 13 (sV (Value.pointer x1))) 14 (sI (i3))) 15 (sB (((i3 : Int) == 0)))) 16 (sB (true))) 17 (sV (Value.pointer x1))) 18 (sI (i6))) 19 (sB (((i6 : Int) == 0)))) 20 (sB (((i6 : Int) == 0)))) 21 (sB (true))) 22 (sV (Value.pointer x1))) 23 (sI (i9))) 24 (sB (((i9 : Int) == 0)))) 25 (sB (((i9 : Int) == 0)))) 26 (sB (true))) 27 (sV (Value.pointer x1))) 28 (sI (i12))) 29 (sB (((i12 : Int) == 1)))) 30 (sB (((i12 : Int) == 1)))) 31 (sB (false))) 32 (sV undef)) 33 (sV undef)) 34 (sV undef)) 35 (sB (false))) 2 (sB (false))) V0 h11)))) (K (upd (upd (upd (upd (upd (upd (upd (upd (upd (upd (upd (upd (upd (upd (upd (upd (upd (upd (upd (upd (upd (upd (upd (upd (upd e 1 (sV (Value.pointer x1))) 13 (sV (Value.pointer x1))) 14 (sI (i3))) 15 (sB (((i3 : Int) == 0)))) 16 (sB (true))) 17 (sV (Value.pointer x1))) 18 (sI (i6))) 19 (sB (((i6 : Int) == 0)))) 20 (sB (((i6 : Int) == 0)))) 21 (sB (true))) 22 (sV (Value.pointer x1))) 23 (sI (i9))) 24 (sB (((i9 : Int) == 0)))) 25 (sB (((i9 : Int) == 0)))) 26 (sB (false))) 27 (sV undef)) 28 (sV undef)) 29 (sV undef)) 30 (sB (false))) 31 (sB (false))) 32 (sV undef)) 33 (sV undef)) 34 (sV undef)) 35 (sB (false))) 2 (sB (false))) V0 h8)))) (K (upd (upd (upd (upd (upd (upd (upd (upd (upd (upd (upd (upd (upd (upd (upd (upd (upd (upd (upd (upd (upd (upd (upd (upd (upd e 1 (sV (Value.pointer x1))) 13 (sV (Value.pointer x1))) 14 (sI (i3))) 15 (sB (((i3 : Int) == 0)))) 16 (sB (true))) 17 (sV (Value.pointer x1))) 18 (sI (i6))) 19 (sB (((i6 : Int) == 0)))) 20 (sB (((i6 : Int) == 0)))) 21 (sB (false))) 22 (sV undef)) 23 (sV undef)) 24 (sV undef)) 25 (sB (false))) 26 (sB (false))) 27 (sV undef)) 28 (sV undef)) 29 (sV undef)) 30 (sB (false))) 31 (sB (false))) 32 (sV undef)) 33 (sV undef)) 34 (sV undef)) 35 (sB (false))) 2 (sB (false))) V0 h5)))) (K (upd (upd (upd (upd (upd (upd (upd (upd (upd (upd (upd (upd (upd (upd (upd (upd (upd (upd (upd (upd (upd (upd (upd (upd (upd e 1 (sV (Value.pointer x1))) 13 (sV (Value.pointer x1))) 14 (sI (i3))) 15 (sB (((i3 : Int) == 0)))) 16 (sB (false))) 17 (sV undef)) 18 (sV undef)) 19 (sV undef)) 20 (sB (false))) 21 (sB (false))) 22 (sV undef)) 23 (sV undef)) 24 (sV undef)) 25 (sB (false))) 26 (sB (false))) 27 (sV undef)) 28 (sV undef)) 29 (sV undef)) 30 (sB (false))) 31 (sB (false))) 32 (sV undef)) 33 (sV undef)) 34 (sV undef)) 35 (sB (false))) 2 (sB (false))) V0 h2)))) := by kernel_rfl
def F9 (hp : HP) (K : Value → HP → Prop) : Prop :=
  (CF Try.prog 29 [] hp fun u_1 h_2 => (ptrV u_1 fun p_3 => (CF Try.prog 30 [(Value.pointer p_3), (Value.int .i64 7), (Value.int .i64 5)] h_2 fun u_80 h_81 => (intV u_80 .i64 fun i_82 => (ite2 ((i_82 : Int) == 0) (CF Try.prog 30 [(Value.pointer p_3), (Value.int .i64 3), (Value.int .i64 5)] h_81 fun u_83 h_84 => (intV u_83 .i64 fun i_85 => (ite2 ((i_85 : Int) == 0) (CF Try.prog 30 [(Value.pointer p_3), (Value.int .i64 9), (Value.int .i64 2)] h_84 fun u_86 h_87 => (intV u_86 .i64 fun i_88 => (ite2 ((i_88 : Int) == 0) (CF Try.prog 30 [(Value.pointer p_3), (Value.int .i64 1), (Value.int .i64 (-1))] h_87 fun u_89 h_90 => (intV u_89 .i64 fun i_91 => (ite2 ((i_91 : Int) == 1) (CF Try.prog 30 [(Value.pointer p_3), (Value.int .i64 1), (Value.int .i64 4611686018427387905)] h_90 fun u_92 h_93 => (intV u_92 .i64 fun i_94 => (F9_j1 p_3 ((i_94 : Int) == 1) h_93  K))) (F9_j1 p_3 false h_90  K)))) (F9_j1 p_3 false h_87  K)))) (F9_j1 p_3 false h_84  K)))) (F9_j1 p_3 false h_81  K))))))
noncomputable def F9_code : Code := (.seq (.region 0 (opsAt Try.f9 [0]) false) (.seq (.region 1 (opsAt Try.f9 [1, 0]) false) (.seq (.region 2 (opsAt Try.f9 [1, 1, 0]) false) (.seq (.region 3 (opsAt Try.f9 [1, 1, 1, 0]) false) (.seq (.region 4 (opsAt Try.f9 [1, 1, 1, 1, 0]) false) (.seq (.region 5 (opsAt Try.f9 [1, 1, 1, 1, 1, 0]) false) (.seq (.region 6 (opsAt Try.f9 [1, 1, 1, 1, 1, 1, 0]) false) (.seq (.seq (.region 7 (opsAt Try.f9 [1, 1, 1, 1, 1, 1, 1, 0, 0]) false) (.block 0 (.loop (.seq (.seq (.region 8 (opsAt Try.f9 [1, 1, 1, 1, 1, 1, 1, 0, 1, 0, 0, 0, 0]) false) (.cond (.tmp 92) .skip (.exit 0))) (.seq (.block 1 (.region 10 (opsAt Try.f9 [1, 1, 1, 1, 1, 1, 1, 0, 1, 0, 0, 1, 0, 0]) false)) (.region 9 (opsAt Try.f9 [1, 1, 1, 1, 1, 1, 1, 0, 1, 0, 0, 1, 1]) false)))))) (.seq (.region 11 (opsAt Try.f9 [1, 1, 1, 1, 1, 1, 1, 1, 0]) false) (.seq (.region 12 (opsAt Try.f9 [1, 1, 1, 1, 1, 1, 1, 1, 1, 0]) false) .ret))))))))))
theorem F9_body : Try.f9.body = some F9_code := by kernel_rfl
theorem F9_ok (hp : HP) (K : Value → HP → Prop) (h : F9  hp K) : CF Try.prog 9 [] hp K := by
 refine .inl ⟨by kernel_rfl, AC.intro (N := 143) Try.func9 F9_body rfl (Nat.le_of_ble_eq_true rfl) ?_⟩
 unfold F9 at h
 unfold F9_code
 refine AWP.seq' ?_
 refine AWP.rgn (F9_r0 E0  hp _) ?_ (Rn) (Sn) (Sn)
 refine AWP.seq' ?_
 refine AWP.rgn (F9_r1 E0  hp _) ?_ (Rn) (Sn) (Sn)
 refine CF_mono h (fun u_1 h_2 h => ?_)
 refine ptrV_mono h (fun p_3 h => ?_)
 refine AWP.seq (fun env pv hp => ∃ (x1 : Option Addr) (x2 : Bool), Sub (upd (upd E0 2 (sB (x2))) 1 (sV (Value.pointer x1))) env ∧ Sub V0 pv ∧ (F9_j1 x1 x2 hp  K)) ?_ ?_
 ·refine AWP.rgn (F9_r12 E0 p_3 h_2 _) ?_ (Rv 1 _ (Rn)) (Sc rfl (Sn)) (Sn)
  refine CF_mono h (fun u_80 h_81 h => ?_)
  refine intV_mono h (fun i_82 h => ?_)
  refine ite2_mono h (fun h => ?_) (fun h => ?_)
  ·refine CF_mono h (fun u_83 h_84 h => ?_)
   refine intV_mono h (fun i_85 h => ?_)
   refine ite2_mono h (fun h => ?_) (fun h => ?_)
   ·refine CF_mono h (fun u_86 h_87 h => ?_)
    refine intV_mono h (fun i_88 h => ?_)
    refine ite2_mono h (fun h => ?_) (fun h => ?_)
    ·refine CF_mono h (fun u_89 h_90 h => ?_)
     refine intV_mono h (fun i_91 h => ?_)
     refine ite2_mono h (fun h => ?_) (fun h => ?_)
     ·refine CF_mono h (fun u_92 h_93 h => ?_)
      refine intV_mono h (fun i_94 h => ?_)
      exact ⟨p_3, ((i_94 : Int) == 1), (Sc rfl (Sc rfl (Sn))), (Sn), h⟩
     ·exact ⟨p_3, false, (Sc rfl (Sc rfl (Sn))), (Sn), h⟩
    ·exact ⟨p_3, false, (Sc rfl (Sc rfl (Sn))), (Sn), h⟩
   ·exact ⟨p_3, false, (Sc rfl (Sc rfl (Sn))), (Sn), h⟩
  ·exact ⟨p_3, false, (Sc rfl (Sc rfl (Sn))), (Sn), h⟩
 ·rintro env pv hp ⟨x1, x2, he, hv, h⟩
  refine AWP.sub (env' := (upd (upd E0 2 (sB (x2))) 1 (sV (Value.pointer x1)))) (pv' := V0) ?_ (Rv 1 _ (Rv 2 _ (Rn))) he hv (HSub.refl _)
  clear he hv
  unfold F9_j1 at h
  refine AWP.seq' ?_
  refine AWP.rgn (F9_r2 (upd E0 2 (sB (x2))) x1 hp _) ?_ (Rv 1 _ (Rv 2 _ (Rn))) (Sc rfl (Sc rfl (Sn))) (Sn)
  refine CF_mono h (fun u_4 h_5 h => ?_)
  refine tup3V_mono h (fun u_6 u_7 u_8 h => ?_)
  refine intV_mono h (fun i_9 h => ?_)
  refine intV_mono h (fun i_10 h => ?_)
  refine boolV_mono h (fun q_11 h => ?_)
  refine AWP.seq (fun env pv hp => ∃ (x1 : Option Addr) (x2 : Bool) (x6 : Bool), Sub (upd (upd (upd E0 6 (sB (x6))) 2 (sB (x2))) 1 (sV (Value.pointer x1))) env ∧ Sub V0 pv ∧ (F9_j2 x1 x2 x6 hp  K)) ?_ ?_
  ·refine AWP.rgn (F9_r11 (upd E0 2 (sB (x2))) x1 i_9 i_10 q_11 h_5 _) ?_ (Rv 1 _ (Rv 3 _ (Rv 4 _ (Rv 5 _ (Rv 2 _ (Rn)))))) (Sc rfl (Sc rfl (Sc rfl (Sc rfl (Sc rfl (Sn)))))) (Sn)
   refine ite2_mono h (fun h => ?_) (fun h => ?_)
   ·refine ite2_mono h (fun h => ?_) (fun h => ?_)
    ·refine ite2_mono h (fun h => ?_) (fun h => ?_)
     ·refine CF_mono h (fun u_62 h_63 h => ?_)
      refine slcV_mono h (fun a_64 n_65 c_66 h => ?_)
      refine fun b_67 hb_b_67 => ?_
      replace h := h b_67 hb_b_67
      refine CF_mono h (fun u_68 h_69 h => ?_)
      refine boolV_mono h (fun q_70 h => ?_)
      refine ite2_mono h (fun h => ?_) (fun h => ?_)
      ·refine CF_mono h (fun u_71 h_72 h => ?_)
       refine slcV_mono h (fun a_73 n_74 c_75 h => ?_)
       refine fun b_76 hb_b_76 => ?_
       replace h := h b_76 hb_b_76
       refine CF_mono h (fun u_77 h_78 h => ?_)
       refine boolV_mono h (fun q_79 h => ?_)
       exact ⟨x1, x2, q_79, (Sc rfl (Sc rfl (Sc rfl (Sn)))), (Sn), h⟩
      ·exact ⟨x1, x2, false, (Sc rfl (Sc rfl (Sc rfl (Sn)))), (Sn), h⟩
     ·exact ⟨x1, x2, false, (Sc rfl (Sc rfl (Sc rfl (Sn)))), (Sn), h⟩
    ·exact ⟨x1, x2, false, (Sc rfl (Sc rfl (Sc rfl (Sn)))), (Sn), h⟩
   ·exact ⟨x1, x2, false, (Sc rfl (Sc rfl (Sc rfl (Sn)))), (Sn), h⟩
  ·rintro env pv hp ⟨x1, x2, x6, he, hv, h⟩
   refine AWP.sub (env' := (upd (upd (upd E0 6 (sB (x6))) 2 (sB (x2))) 1 (sV (Value.pointer x1)))) (pv' := V0) ?_ (Rv 1 _ (Rv 2 _ (Rv 6 _ (Rn)))) he hv (HSub.refl _)
   clear he hv
   unfold F9_j2 at h
   refine AWP.seq' ?_
   refine AWP.rgn (F9_r3 (upd (upd E0 6 (sB (x6))) 2 (sB (x2))) x1 hp _) ?_ (Rv 1 _ (Rv 2 _ (Rv 6 _ (Rn)))) (Sc rfl (Sc rfl (Sc rfl (Sn)))) (Sn)
   refine CF_mono h (fun u_12 h_13 h => ?_)
   refine tup2V_mono h (fun u_14 u_15 h => ?_)
   refine intV_mono h (fun i_16 h => ?_)
   refine boolV_mono h (fun q_17 h => ?_)
   refine AWP.seq (fun env pv hp => ∃ (x1 : Option Addr) (x2 : Bool) (x6 : Bool) (x7 : Int) (x8 : Bool) (x9 : Bool), Sub (upd (upd (upd (upd (upd (upd E0 9 (sB (x9))) 8 (sB (x8))) 7 (sI (x7))) 6 (sB (x6))) 2 (sB (x2))) 1 (sV (Value.pointer x1))) env ∧ Sub V0 pv ∧ (F9_j3 x1 x2 x6 x7 x8 x9 hp  K)) ?_ ?_
   ·refine AWP.rgn (F9_r10 (upd (upd (upd (upd E0 8 (sB (q_17))) 7 (sI (i_16))) 6 (sB (x6))) 2 (sB (x2))) x1 h_13 _) ?_ (Rv 1 _ (Rv 2 _ (Rv 6 _ (Rv 7 _ (Rv 8 _ (Rn)))))) (Sc rfl (Sc rfl (Sc rfl (Sc rfl (Sc rfl (Sn)))))) (Sn)
    refine CF_mono h (fun u_41 h_42 h => ?_)
    refine intV_mono h (fun i_43 h => ?_)
    refine ite2_mono h (fun h => ?_) (fun h => ?_)
    ·refine CF_mono h (fun u_44 h_45 h => ?_)
     refine slcV_mono h (fun a_46 n_47 c_48 h => ?_)
     refine fun b_49 hb_b_49 => ?_
     replace h := h b_49 hb_b_49
     refine CF_mono h (fun u_50 h_51 h => ?_)
     refine boolV_mono h (fun q_52 h => ?_)
     refine ite2_mono h (fun h => ?_) (fun h => ?_)
     ·refine CF_mono h (fun u_53 h_54 h => ?_)
      refine boolV_mono h (fun q_55 h => ?_)
      refine ite2_mono h (fun h => ?_) (fun h => ?_)
      ·refine CF_mono h (fun u_56 h_57 h => ?_)
       refine boolV_mono h (fun q_58 h => ?_)
       refine ite2_mono h (fun h => ?_) (fun h => ?_)
       ·refine CF_mono h (fun u_59 h_60 h => ?_)
        refine intV_mono h (fun i_61 h => ?_)
        exact ⟨x1, x2, x6, i_16, q_17, ((i_61 : Int) == 0), (Sc rfl (Sc rfl (Sc rfl (Sc rfl (Sc rfl (Sc rfl (Sn))))))), (Sn), h⟩
       ·exact ⟨x1, x2, x6, i_16, q_17, false, (Sc rfl (Sc rfl (Sc rfl (Sc rfl (Sc rfl (Sc rfl (Sn))))))), (Sn), h⟩
      ·exact ⟨x1, x2, x6, i_16, q_17, false, (Sc rfl (Sc rfl (Sc rfl (Sc rfl (Sc rfl (Sc rfl (Sn))))))), (Sn), h⟩
     ·exact ⟨x1, x2, x6, i_16, q_17, false, (Sc rfl (Sc rfl (Sc rfl (Sc rfl (Sc rfl (Sc rfl (Sn))))))), (Sn), h⟩
    ·exact ⟨x1, x2, x6, i_16, q_17, false, (Sc rfl (Sc rfl (Sc rfl (Sc rfl (Sc rfl (Sc rfl (Sn))))))), (Sn), h⟩
   ·rintro env pv hp ⟨x1, x2, x6, x7, x8, x9, he, hv, h⟩
    refine AWP.sub (env' := (upd (upd (upd (upd (upd (upd E0 9 (sB (x9))) 8 (sB (x8))) 7 (sI (x7))) 6 (sB (x6))) 2 (sB (x2))) 1 (sV (Value.pointer x1)))) (pv' := V0) ?_ (Rv 1 _ (Rv 2 _ (Rv 6 _ (Rv 7 _ (Rv 8 _ (Rv 9 _ (Rn))))))) he hv (HSub.refl _)
    clear he hv
    unfold F9_j3 at h
    refine AWP.seq (fun env pv hp => ∃ (x1 : Option Addr) (x2 : Bool) (x6 : Bool) (x7 : Int) (x8 : Bool) (x9 : Bool), Sub (upd (upd (upd (upd (upd (upd E0 9 (sB (x9))) 8 (sB (x8))) 7 (sI (x7))) 6 (sB (x6))) 2 (sB (x2))) 1 (sV (Value.pointer x1))) env ∧ Sub V0 pv ∧ (F9_j4 x1 x2 x6 x7 x8 x9 hp  K)) ?_ ?_
    ·refine AWP.seq (fun env pv hp => ∃ (x1 : Option Addr) (x2 : Bool) (x6 : Bool) (x7 : Int) (x8 : Bool) (x9 : Bool) (x10 : Int), Sub (upd (upd (upd (upd (upd (upd (upd E0 10 (sI (x10))) 9 (sB (x9))) 8 (sB (x8))) 7 (sI (x7))) 6 (sB (x6))) 2 (sB (x2))) 1 (sV (Value.pointer x1))) env ∧ Sub V0 pv ∧ (F9_j5 x1 x2 x6 x7 x8 x9 x10 hp  K)) ?_ ?_
     ·refine AWP.rgn (F9_r9 (upd (upd (upd (upd (upd (upd E0 9 (sB (x9))) 8 (sB (x8))) 7 (sI (x7))) 6 (sB (x6))) 2 (sB (x2))) 1 (sV (Value.pointer x1)))  hp _) ?_ (Rv 1 _ (Rv 2 _ (Rv 6 _ (Rv 7 _ (Rv 8 _ (Rv 9 _ (Rn))))))) (Sc rfl (Sc rfl (Sc rfl (Sc rfl (Sc rfl (Sc rfl (Sn))))))) (Sn)
      exact ⟨x1, x2, x6, x7, x8, x9, 0, (Sc rfl (Sc rfl (Sc rfl (Sc rfl (Sc rfl (Sc rfl (Sc rfl (Sn)))))))), (Sn), h⟩
     ·rintro env pv hp ⟨x1, x2, x6, x7, x8, x9, x10, he, hv, h⟩
      refine AWP.sub (env' := (upd (upd (upd (upd (upd (upd (upd E0 10 (sI (x10))) 9 (sB (x9))) 8 (sB (x8))) 7 (sI (x7))) 6 (sB (x6))) 2 (sB (x2))) 1 (sV (Value.pointer x1)))) (pv' := V0) ?_ (Rv 1 _ (Rv 2 _ (Rv 6 _ (Rv 7 _ (Rv 8 _ (Rv 9 _ (Rv 10 _ (Rn)))))))) he hv (HSub.refl _)
      clear he hv
      unfold F9_j5 at h
      refine AWP.block ?_
      refine AWP.loop (σ := Int) (fun I s hp => F9_l6 x1 x2 x6 x7 x8 x9  K I s hp) (fun s => (upd (upd (upd (upd (upd (upd (upd E0 10 (sI (s))) 9 (sB (x9))) 8 (sB (x8))) 7 (sI (x7))) 6 (sB (x6))) 2 (sB (x2))) 1 (sV (Value.pointer x1)))) (fun s => V0) x10 h (fun s => (Rv 1 _ (Rv 2 _ (Rv 6 _ (Rv 7 _ (Rv 8 _ (Rv 9 _ (Rv 10 _ (Rn))))))))) (Sc rfl (Sc rfl (Sc rfl (Sc rfl (Sc rfl (Sc rfl (Sc rfl (Sn)))))))) (Sn) ?_
      intro I6 s hp h
      obtain ⟨x10, hs⟩ : ∃ x, x = s := ⟨s, rfl⟩
      subst hs
      replace h : F9_l6 x1 x2 x6 x7 x8 x9  K I6 x10 hp := h
      unfold F9_l6 at h
      refine AWP.seq' ?_
      refine AWP.seq' ?_
      refine AWP.rgn (F9_r6 (upd (upd (upd (upd (upd (upd E0 9 (sB (x9))) 8 (sB (x8))) 7 (sI (x7))) 6 (sB (x6))) 2 (sB (x2))) 1 (sV (Value.pointer x1))) x10 hp _) ?_ (Rv 10 _ (Rv 1 _ (Rv 2 _ (Rv 6 _ (Rv 7 _ (Rv 8 _ (Rv 9 _ (Rn)))))))) (Sc rfl (Sc rfl (Sc rfl (Sc rfl (Sc rfl (Sc rfl (Sc rfl (Sn)))))))) (Sn)
      refine AWP.cond (t := (decide ((x10 : Int) < 40))) rfl (fun e => ?_) (fun e => ?_)
      ·replace h := ite2_t h e
       refine AWP.skip ?_
       refine AWP.seq' ?_
       refine AWP.block ?_
       refine AWP.rgn (F9_r7 (upd (upd (upd (upd (upd E0 9 (sB (x9))) 8 (sB (x8))) 7 (sI (x7))) 6 (sB (x6))) 2 (sB (x2))) x1 x10 hp _) ?_ (Rv 1 _ (Rv 10 _ (Rv 2 _ (Rv 6 _ (Rv 7 _ (Rv 8 _ (Rv 9 _ (Rn)))))))) (Sc rfl (Sc rfl (Sc rfl (Sc rfl (Sc rfl (Sc rfl (Sc rfl (Sn)))))))) (Sn)
       refine ⟨h.1, ?_⟩
       replace h := h.2
       refine CF_mono h (fun u_38 h_39 h => ?_)
       refine intV_mono h (fun i_40 h => ?_)
       refine AWP.rgn (F9_r8 (upd (upd (upd (upd (upd (upd E0 9 (sB (x9))) 8 (sB (x8))) 7 (sI (x7))) 6 (sB (x6))) 2 (sB (x2))) 1 (sV (Value.pointer x1))) x10 h_39 _) ?_ (Rv 10 _ (Rv 1 _ (Rv 2 _ (Rv 6 _ (Rv 7 _ (Rv 8 _ (Rv 9 _ (Rn)))))))) (Sc rfl (Sc rfl (Sc rfl (Sc rfl (Sc rfl (Sc rfl (Sc rfl (Sn)))))))) (Sn)
       exact ⟨(IntKind.wrap .i64 (x10 + 1)), (Sc rfl (Sc rfl (Sc rfl (Sc rfl (Sc rfl (Sc rfl (Sc rfl (Sn)))))))), (Sn), h⟩
      ·replace h := ite2_f h e
       refine AWP.exit ?_
       exact ⟨x1, x2, x6, x7, x8, x9, (Sc rfl (Sc rfl (Sc rfl (Sc rfl (Sc rfl (Sc rfl (Sn))))))), (Sn), h⟩
    ·rintro env pv hp ⟨x1, x2, x6, x7, x8, x9, he, hv, h⟩
     refine AWP.sub (env' := (upd (upd (upd (upd (upd (upd E0 9 (sB (x9))) 8 (sB (x8))) 7 (sI (x7))) 6 (sB (x6))) 2 (sB (x2))) 1 (sV (Value.pointer x1)))) (pv' := V0) ?_ (Rv 1 _ (Rv 2 _ (Rv 6 _ (Rv 7 _ (Rv 8 _ (Rv 9 _ (Rn))))))) he hv (HSub.refl _)
     clear he hv
     unfold F9_j4 at h
     refine AWP.seq' ?_
     refine AWP.rgn (F9_r4 (upd (upd (upd (upd (upd E0 9 (sB (x9))) 8 (sB (x8))) 7 (sI (x7))) 6 (sB (x6))) 2 (sB (x2))) x1 hp _) ?_ (Rv 1 _ (Rv 2 _ (Rv 6 _ (Rv 7 _ (Rv 8 _ (Rv 9 _ (Rn))))))) (Sc rfl (Sc rfl (Sc rfl (Sc rfl (Sc rfl (Sc rfl (Sn))))))) (Sn)
     refine CF_mono h (fun u_18 h_19 h => ?_)
     refine slcV_mono h (fun a_20 n_21 c_22 h => ?_)
     refine AWP.seq' ?_
     refine AWP.rgn (F9_r5 E0 x2 x6 x7 x8 x9 a_20 n_21 c_22 h_19 _) ?_ (Rv 2 _ (Rv 6 _ (Rv 7 _ (Rv 8 _ (Rv 9 _ (Rv 11 _ (Rn))))))) (Sc rfl (Sc rfl (Sc rfl (Sc rfl (Sc rfl (Sc rfl (Sn))))))) (Sn)
     refine ite2_mono h (fun h => ?_) (fun h => ?_)
     ·refine ite2_mono h (fun h => ?_) (fun h => ?_)
      ·refine ite2_mono h (fun h => ?_) (fun h => ?_)
       ·refine ite2_mono h (fun h => ?_) (fun h => ?_)
        ·refine ite2_mono h (fun h => ?_) (fun h => ?_)
         ·refine ite2_mono h (fun h => ?_) (fun h => ?_)
          ·refine ⟨h.1, h.2.1, ?_⟩
           replace h := h.2.2
           refine ptrN_mono h (fun b_23 o_24 h => ?_)
           refine ldV_mono h (fun v_25 h => ?_)
           refine intV_mono h (fun i_26 h => ?_)
           refine ite2_mono h (fun h => ?_) (fun h => ?_)
           ·refine ⟨h.1, h.2.1, ?_⟩
            replace h := h.2.2
            refine ptrN_mono h (fun b_27 o_28 h => ?_)
            refine ldV_mono h (fun v_29 h => ?_)
            refine intV_mono h (fun i_30 h => ?_)
            refine ite2_mono h (fun h => ?_) (fun h => ?_)
            ·refine ⟨h.1, h.2.1, ?_⟩
             replace h := h.2.2
             refine ptrN_mono h (fun b_31 o_32 h => ?_)
             refine ldV_mono h (fun v_33 h => ?_)
             refine intV_mono h (fun i_34 h => ?_)
             refine ite2_mono h (fun h => ?_) (fun h => ?_)
             ·refine CF_mono h (fun u_35 h_36 h => ?_)
              refine boolV_mono h (fun q_37 h => ?_)
              refine AWP.ret ?_
              exact h
             ·refine AWP.ret ?_
              exact h
            ·refine AWP.ret ?_
             exact h
           ·refine AWP.ret ?_
            exact h
          ·refine AWP.ret ?_
           exact h
         ·refine AWP.ret ?_
          exact h
        ·refine AWP.ret ?_
         exact h
       ·refine AWP.ret ?_
        exact h
      ·refine AWP.ret ?_
       exact h
     ·refine AWP.ret ?_
      exact h
end Go.Proofs

set_option linter.unusedVariables false
set_option maxRecDepth 20000
namespace Go.Proofs
open Go Go.HL
open Go.Exp (Th tlt swo_tlt Ord setW dropW insW)

/-- The forty things of the example. -/
def kw : Nat → List Th
  | 0 => []
  | i + 1 => setW (i : Int) (40 - ((i % 7 : Nat) : Int)) (kw i)
theorem kw_len : ∀ i, (kw i).length ≤ i
  | 0 => Nat.le_refl _
  | i + 1 => by
    have h := kw_len i
    unfold kw setW
    rw [(Exp.insW_perm _ (dropW (i : Int) (kw i))).length_eq, List.length_cons]
    have : (dropW (i : Int) (kw i)).length ≤ (kw i).length := List.length_filter_le _ _
    omega
def tk : List Th := (kw 40).takeWhile fun t => decide (t.2 ≤ 4611686018427387904)
theorem tk_len : tk.length = 40 := by decide +kernel
theorem tk_0 : (tk.map (·.1))[0]? = some 6 := by decide +kernel
theorem tk_1 : (tk.map (·.1))[1]? = some 13 := by decide +kernel
theorem tk_39 : (tk.map (·.1))[39]? = some 35 := by decide +kernel

theorem one_at {hp : HP} {b o i : Nat} {x : Int} (h : hp.cellN b (o + i * 1) 1 = some (i1 x)) : hp.cell b (o + i * 1) = some (.int .i64 x) := by
  have := HP.cell_cellN (j := 0) h (v := .int .i64 x) rfl; simpa using this

section
variable {hp0 : HP} {K : Value → HP → Prop}

theorem C9 (h : K (.bool true) hp0) : CF Try.prog 9 [] hp0 K := by
  refine CF.drop (F9_ok hp0 _ ?_)
  unfold F9
  have pp : ∀ (p : Nat) (c : Option Addr → Prop), ptrV (ptr p 0) c = c (some ⟨p, 0, none⟩) := fun _ _ => rfl
  refine N29 fun q l1 hp1 hQ1 s1 f1 => ?_
  obtain ⟨g1, d1⟩ := f1 hp0 (HSub.refl _)
  rw [pp]
  refine N30 s1 hQ1 (by decide) fun v2 l2 hp2 w2 _ hg2 hQ2 s2 f2 => ?_
  obtain ⟨rfl, rfl⟩ := hg2 (by unfold badDue; omega)
  obtain ⟨g2, d2⟩ := f2 hp0 g1 d1
  rw [intV_int]
  show ite2 true _ _
  rw [ite2_true]
  refine N30 s2 hQ2 (by decide) fun v3 l3 hp3 w3 _ hg3 hQ3 s3 f3 => ?_
  obtain ⟨rfl, rfl⟩ := hg3 (by unfold badDue; omega)
  obtain ⟨g3, d3⟩ := f3 hp0 g2 d2
  rw [intV_int]
  show ite2 true _ _
  rw [ite2_true]
  refine N30 s3 hQ3 (by decide) fun v4 l4 hp4 w4 _ hg4 hQ4 s4 f4 => ?_
  obtain ⟨rfl, rfl⟩ := hg4 (by unfold badDue; omega)
  obtain ⟨g4, d4⟩ := f4 hp0 g3 d3
  rw [intV_int]
  show ite2 true _ _
  rw [ite2_true]
  have hw : setW 9 2 (setW 3 5 (setW 7 5 [])) = [(9, 2), (3, 5), (7, 5)] := by decide
  rw [hw] at hQ4
  refine N30 s4 hQ4 (by simp) fun v5 l5 hp5 w5 hb5 _ hQ5 s5 f5 => ?_
  obtain ⟨rfl, rfl⟩ := hb5 (by unfold badDue; omega)
  obtain ⟨g5, d5⟩ := f5 hp0 g4 d4
  rw [intV_int]
  show ite2 true _ _
  rw [ite2_true]
  refine N30 s5 hQ5 (by simp) fun v6 l6 hp6 w6 hb6 _ hQ6 s6 f6 => ?_
  obtain ⟨rfl, rfl⟩ := hb6 (by unfold badDue; omega)
  obtain ⟨g6, d6⟩ := f6 hp0 g5 d5
  rw [intV_int]
  show F9_j1 (some ⟨q, 0, none⟩) true hp6 _
  unfold F9_j1
  refine C42 (hQ6.sub s6) ?_
  simp only [tup3V_mk, List.head?_cons, Option.map_some, Option.getD_some, Option.isSome_some, intV_int, boolV_bool]
  show ite2 true (ite2 true (ite2 true _ _) _) _
  rw [ite2_true, ite2_true, ite2_true]
  refine N31 s6 hQ6 (by simp) fun l7 hp7 s c hQ7 s7 hrow7 hfr7 f7 => ?_
  obtain ⟨g7, d7, _⟩ := f7 hp0 g6 d6
  have ht : ([(9, 2), (3, 5), (7, 5)] : List Th).takeWhile (fun t => decide (t.2 ≤ 4)) = [(9, 2)] := by decide
  have hd : ([(9, 2), (3, 5), (7, 5)] : List Th).dropWhile (fun t => decide (t.2 ≤ 4)) = [(3, 5), (7, 5)] := by decide
  rw [ht] at hrow7 ⊢
  rw [hd] at hQ7
  rw [slcV_slice]
  intro b8 hb8
  have s8 := HSub.set_fresh hp7 (.cells 3 [(Value.int .i64 9)] 0) hb8
  refine C32 (xs := [9]) (ys := [9]) ((hrow7.sub s8).shows) (.inr ⟨b8, 0, rfl, by rw [HP.cellN_of (HP.set_eq ..)]; rfl⟩) rfl rfl (by decide) ?_
  rw [boolV_bool]
  show ite2 true _ _
  rw [ite2_true]
  have s78 := s7.trans s8
  have g8 := g7.trans s8
  refine C33 (hQ7.sub s78) (by decide) fun hp9 s9 c9 k9 hrow9 _ => ?_
  rw [slcV_slice]
  intro b10 hb10
  have s10 := HSub.set_fresh hp9 (.cells 3 [(Value.int .i64 3), (Value.int .i64 7)] 0) hb10
  refine C32 (xs := [3, 7]) (ys := [3, 7]) ((hrow9.sub s10).shows) (.inr ⟨b10, 0, rfl, by rw [HP.cellN_of (HP.set_eq ..)]; rfl⟩) rfl rfl (by decide) ?_
  rw [boolV_bool]
  have sl := s78.trans (k9.trans s10)
  have g10 := g8.trans (k9.trans s10)
  generalize hp9.set b10 (.cells 3 [(Value.int .i64 3), (Value.int .i64 7)] 0) = hp10 at sl g10
  show F9_j2 (some ⟨q, 0, none⟩) true true hp10 _
  unfold F9_j2
  refine C38 (hQ7.sub sl) ?_
  have hg : getL (7 : Int) ([(3, 5), (7, 5)] : List Th) = some 5 := by decide
  rw [hg]
  simp only [tup2V_mk, Option.getD_some, Option.isSome_some, intV_int, boolV_bool]
  refine N30 sl hQ7 (by simp) fun v11 l11 hp11 w11 _ hg11 hQ11 s11 f11 => ?_
  obtain ⟨rfl, rfl⟩ := hg11 (by unfold badDue; omega)
  obtain ⟨g11, d11⟩ := f11 hp0 g10 d7
  have hw2 : setW 7 8 [(3, 5), (7, 5)] = [(3, 5), (7, 8)] := by decide
  rw [hw2] at hQ11
  rw [intV_int]
  show ite2 true _ _
  rw [ite2_true]
  refine N31 s11 hQ11 (by simp) fun l12 hp12 s' c' hQ12 s12 hrow12 hfr12 f12 => ?_
  obtain ⟨g12, d12, _⟩ := f12 hp0 g11 d11
  have ht2 : ([(3, 5), (7, 8)] : List Th).takeWhile (fun t => decide (t.2 ≤ 5)) = [(3, 5)] := by decide
  have hd2 : ([(3, 5), (7, 8)] : List Th).dropWhile (fun t => decide (t.2 ≤ 5)) = [(7, 8)] := by decide
  rw [ht2] at hrow12 ⊢
  rw [hd2] at hQ12
  rw [slcV_slice]
  intro b13 hb13
  have s13 := HSub.set_fresh hp12 (.cells 3 [(Value.int .i64 3)] 0) hb13
  refine C32 (xs := [3]) (ys := [3]) ((hrow12.sub s13).shows) (.inr ⟨b13, 0, rfl, by rw [HP.cellN_of (HP.set_eq ..)]; rfl⟩) rfl rfl (by decide) ?_
  rw [boolV_bool]
  show ite2 true _ _
  rw [ite2_true]
  refine N34 (s12.trans s13) hQ12 (by simp) fun l14 hp14 hQ14 s14 f14 => ?_
  obtain ⟨g14, d14⟩ := f14 hp0 (g12.trans s13) d12
  have hg2 : getL (7 : Int) ([(7, 8)] : List Th) = some 8 := by decide
  have hdr : dropW 7 [(7, 8)] = [] := by decide
  rw [hdr] at hQ14
  rw [hg2, boolV_bool]
  show ite2 true _ _
  rw [ite2_true]
  refine N34 s14 hQ14 (by simp) fun l15 hp15 hQ15 s15 f15 => ?_
  obtain ⟨g15, d15⟩ := f15 hp0 g14 d14
  have hg3 : getL (7 : Int) ([] : List Th) = none := by decide
  have hdr2 : dropW 7 [] = [] := by decide
  rw [hdr2] at hQ15
  rw [hg3, boolV_bool]
  show ite2 true _ _
  rw [ite2_true]
  refine C36 (hQ15.sub s15) ?_
  rw [intV_int]
  show F9_j3 (some ⟨q, 0, none⟩) true true 5 true true hp15 _
  unfold F9_j3 F9_j5
  refine LoopP.by (J := fun k (x : Int) hp => ∃ (l : HP) (i : Nat), x = i ∧ i + k = 40 ∧ QW l q (kw i) ∧ HSub l hp ∧ HSub hp0 hp ∧ Disj l hp0) ?_ (n := 40) ⟨l15, 0, rfl, rfl, hQ15, s15, g15, d15⟩
  rintro I k x hp ⟨l, i, rfl, hik, hQ, sl', g, dj⟩ hI
  unfold F9_l6
  by_cases hi : i < 40
  · rw [decide_eq_true (by omega : (i : Int) < 40), ite2_true]
    refine ⟨by omega, ?_⟩
    have e1 : Int.tmod (i : Int) 7 = ((i % 7 : Nat) : Int) := rfl
    have hm : i % 7 < 7 := Nat.mod_lt _ (by omega)
    have e2 : IntKind.wrap .i64 (40 - ((i % 7 : Nat) : Int)) = 40 - ((i % 7 : Nat) : Int) := w64 (by omega) (by omega)
    rw [e1, e2]
    have hkl := kw_len i
    refine N30 sl' hQ (by omega) fun v16 l16 hp16 w16 _ hg16 hQ16 s16 f16 => ?_
    obtain ⟨rfl, rfl⟩ := hg16 (by unfold badDue; omega)
    obtain ⟨g16, d16⟩ := f16 hp0 g dj
    have w1 : IntKind.wrap .i64 ((i : Int) + 1) = ((i + 1 : Nat) : Int) := wi (by omega) (by omega)
    rw [intV_int, w1]
    exact hI (k - 1) _ _ (by omega) ⟨l16, i + 1, rfl, by omega, hQ16, s16, g16, d16⟩
  · rw [decide_eq_false (by omega : ¬ (i : Int) < 40), ite2_false]
    have hi40 : i = 40 := by omega
    subst hi40
    unfold F9_j4
    have hkl := kw_len 40
    refine N31 sl' hQ (by omega) fun l17 hp17 s17 c17 hQ17 sl17 hrow17 hfr17 f17 => ?_
    obtain ⟨g17, d17, _⟩ := f17 hp0 g dj
    change Row hp17 s17 tk.length c17 3 1 (tk.flatMap idv) at hrow17
    change slcV (.slice s17 tk.length c17) _
    rw [idv_i1] at hrow17
    have hml : (tk.map (·.1)).length = tk.length := by simp
    have rd : ∀ (j : Nat) (x : Int), j < 40 → (tk.map (·.1))[j]? = some x → ∃ b o, s17 = some ⟨b, o, none⟩ ∧ hp17.cell b (o + j * 1) = some (.int .i64 x) := fun j x hj hx => by
      obtain ⟨b, o, e, hc⟩ := hrow17.shows.get i1_len hml (by rw [tk_len]; exact hj)
      have : (tk.map (·.1))[j]'(by rw [hml, tk_len]; exact hj) = x := by
        rw [List.getElem?_eq_getElem (by rw [hml, tk_len]; exact hj)] at hx; exact Option.some.inj hx
      rw [this] at hc
      exact ⟨b, o, e, one_at hc⟩
    obtain ⟨b, o, e0, r0⟩ := rd 0 6 (by omega) tk_0
    obtain ⟨b', o', e1, r1⟩ := rd 1 13 (by omega) tk_1
    obtain ⟨b'', o'', e39, r39⟩ := rd 39 35 (by omega) tk_39
    rw [e0] at e1 e39
    cases e1; cases e39
    rw [slcV_slice, tk_len, e0]
    show ite2 true (ite2 true (ite2 true (ite2 true (ite2 true (ite2 true _ _) _) _) _) _) _
    simp only [ite2_true, ptrN_some]
    have t0 : Int.toNat 0 = 0 := rfl
    have t1 : Int.toNat 1 = 1 := rfl
    have t39 : Int.toNat 39 = 39 := rfl
    rw [t0, r0, ldV_some, intV_int]
    refine ⟨by omega, by omega, ?_⟩
    show ite2 true _ _
    rw [ite2_true, t1, r1, ldV_some, intV_int]
    refine ⟨by omega, by omega, ?_⟩
    show ite2 true _ _
    rw [ite2_true, t39, r39, ldV_some, intV_int]
    refine ⟨by omega, by omega, ?_⟩
    show ite2 true _ _
    rw [ite2_true]
    refine C28 fun hp18 h18 => ?_
    rw [boolV_bool]
    exact ⟨hp0, g17.trans h18, h⟩
end
end Go.Proofs

