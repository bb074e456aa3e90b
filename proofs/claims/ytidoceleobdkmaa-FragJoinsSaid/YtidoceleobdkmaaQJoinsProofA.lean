/- Parts of the proof of JoinsProof: the logic of what is known of memory, functions' contracts. -/
import Derived.Test.YtidoceleobdkmaaHlAbb
import Derived.Test.YtidoceleobdkmaaHlAbb
import Derived.Test.YtidoceleobdkmaaProg
import Derived.Sort.Lot0
import Derived.Sort.LotA
import Derived.Test.YtidoceleobdkmaaHlSort
set_option linter.unusedVariables false
set_option maxRecDepth 20000
namespace Go.Proofs
open Go Go.HL
-- 22 interpreter/interpreterlaw16.wakes
section
variable (e : Env) (x1 : Option Addr) (x2 : Int) (x4 : Bool) (x5 : Int) (x7 : Bool) (x8 : Int) (x10 : Bool) (x11 : Int) (k9 : List Value) (hp : HP) (K : Env → PV → HP → Prop)
abbrev R22 (p : List Nat) (n : Nat) := RW Try.prog 79 [3, 6, 9, 65, 70] (opsAt Try.f22 p) (List.range n)
theorem F22_r0 : R22 [0] 1 e V0 hp K =
    (K (upd e 0 (sB false)) V0 hp) := by kernel_rfl
theorem F22_r1 : R22 [1, 0] 6 e V0 hp K =
    (CF Try.prog 25 [(.int .i64 4), (.int .i64 3)] hp fun u1 h2 => (tup2V u1 fun u3 u4 => (ptrV u3 fun p5 => (intV u4 .i64 fun i6 => (K (upd (upd (upd (upd (upd (upd e 13 (sV (.tuple ⟨[(.pointer p5), (.int .i64 i6)]⟩))) 12 (sV (.tuple ⟨[(.pointer p5), (.int .i64 i6)]⟩))) 14 (sP p5)) 15 (sI i6)) 1 (sP p5)) 2 (sI i6)) V0 h2))))) := by kernel_rfl
theorem F22_r2 : R22 [1, 1, 0, 1, 0, 0] 1 e V0 hp K =
    (K (upd e 0 (sB false)) V0 hp) := by kernel_rfl
theorem F22_r3 : R22 [1, 1, 1, 0] 11 (upd e 1 (sP x1)) V0 hp K =
    (CF Try.prog 72 [(.int .i64 8), .bool false, (.string (⟨#[97, 98]⟩ : ByteArray))] hp fun u1 h2 => (aggV u1 fun l3 => (CF Try.prog 26 [(.pointer x1), (.agg ⟨l3⟩), (.int .i64 5)] h2 fun u4 h5 => (tup3V u4 fun u6 u7 u8 => (aggV u6 fun l9 => (boolV u7 fun q10 => (intV u8 .i64 fun i11 => (if List.length l9 = 4 then (if List.all l9 one = true then (if 0 + List.length l9 ≤ List.length [(Value.string ⟨#[]⟩), .string ⟨#[]⟩, .string ⟨#[]⟩, .int .i64 0] then (K (upd (upd (upd (upd (upd (upd (upd (upd (upd (upd (upd e 1 (sP x1)) 23 (sP x1)) 24 (sA l3)) 25 (sV (.tuple ⟨[(.agg ⟨l9⟩), (.bool q10), (.int .i64 i11)]⟩))) 22 (sV (.tuple ⟨[(.agg ⟨l9⟩), (.bool q10), (.int .i64 i11)]⟩))) 26 (sA l9)) 27 (sB q10)) 28 (sI i11)) 3 (sR 3 0)) 4 (sB q10)) 5 (sI i11)) (upd (upd V0 3 (36, [.string ⟨#[]⟩, .string ⟨#[]⟩, .string ⟨#[]⟩, .int .i64 0])) 3 (36, (splice [.string ⟨#[]⟩, .string ⟨#[]⟩, .string ⟨#[]⟩, .int .i64 0] 0 l9))) h5) else False) else False) else False)))))))) := by kernel_rfl
theorem F22_r4 : R22 [1, 1, 1, 1, 0] 11 (upd e 1 (sP x1)) V0 hp K =
    (CF Try.prog 72 [(.int .i64 8), .bool false, (.string (⟨#[97, 98]⟩ : ByteArray))] hp fun u1 h2 => (aggV u1 fun l3 => (CF Try.prog 26 [(.pointer x1), (.agg ⟨l3⟩), (.int .i64 9)] h2 fun u4 h5 => (tup3V u4 fun u6 u7 u8 => (aggV u6 fun l9 => (boolV u7 fun q10 => (intV u8 .i64 fun i11 => (if List.length l9 = 4 then (if List.all l9 one = true then (if 0 + List.length l9 ≤ List.length [(Value.string ⟨#[]⟩), .string ⟨#[]⟩, .string ⟨#[]⟩, .int .i64 0] then (K (upd (upd (upd (upd (upd (upd (upd (upd (upd (upd (upd e 1 (sP x1)) 30 (sP x1)) 31 (sA l3)) 32 (sV (.tuple ⟨[(.agg ⟨l9⟩), (.bool q10), (.int .i64 i11)]⟩))) 29 (sV (.tuple ⟨[(.agg ⟨l9⟩), (.bool q10), (.int .i64 i11)]⟩))) 33 (sA l9)) 34 (sB q10)) 35 (sI i11)) 6 (sR 6 0)) 7 (sB q10)) 8 (sI i11)) (upd (upd V0 6 (36, [.string ⟨#[]⟩, .string ⟨#[]⟩, .string ⟨#[]⟩, .int .i64 0])) 6 (36, (splice [.string ⟨#[]⟩, .string ⟨#[]⟩, .string ⟨#[]⟩, .int .i64 0] 0 l9))) h5) else False) else False) else False)))))))) := by kernel_rfl
theorem F22_r5 : R22 [1, 1, 1, 1, 1, 0] 11 (upd e 1 (sP x1)) V0 hp K =
    (CF Try.prog 72 [.int .i64 0, (.bool true), (.string (⟨#[49, 50, 51, 52, 53, 54, 55, 56]⟩ : ByteArray))] hp fun u1 h2 => (aggV u1 fun l3 => (CF Try.prog 26 [(.pointer x1), (.agg ⟨l3⟩), (.int .i64 9)] h2 fun u4 h5 => (tup3V u4 fun u6 u7 u8 => (aggV u6 fun l9 => (boolV u7 fun q10 => (intV u8 .i64 fun i11 => (if List.length l9 = 4 then (if List.all l9 one = true then (if 0 + List.length l9 ≤ List.length [(Value.string ⟨#[]⟩), .string ⟨#[]⟩, .string ⟨#[]⟩, .int .i64 0] then (K (upd (upd (upd (upd (upd (upd (upd (upd (upd (upd (upd e 1 (sP x1)) 37 (sP x1)) 38 (sA l3)) 39 (sV (.tuple ⟨[(.agg ⟨l9⟩), (.bool q10), (.int .i64 i11)]⟩))) 36 (sV (.tuple ⟨[(.agg ⟨l9⟩), (.bool q10), (.int .i64 i11)]⟩))) 40 (sA l9)) 41 (sB q10)) 42 (sI i11)) 9 (sR 9 0)) 10 (sB q10)) 11 (sI i11)) (upd (upd V0 9 (36, [.string ⟨#[]⟩, .string ⟨#[]⟩, .string ⟨#[]⟩, .int .i64 0])) 9 (36, (splice [.string ⟨#[]⟩, .string ⟨#[]⟩, .string ⟨#[]⟩, .int .i64 0] 0 l9))) h5) else False) else False) else False)))))))) := by kernel_rfl
theorem F22_r6 : R22 [1, 1, 1, 1, 1, 1, 0] 37 (upd (upd (upd (upd (upd (upd (upd (upd e 11 (sI x11)) 10 (sB x10)) 9 (sR 9 0)) 8 (sI x8)) 7 (sB x7)) 5 (sI x5)) 4 (sB x4)) 1 (sP x1)) (upd V0 9 (36, k9)) hp K =
    (ite2 (!x4) (ite2 (x5 == 0) (ite2 (!x7) (ite2 (x8 == 0) (ite2 x10 (ite2 (x11 == 0) (ldV (k9)[2]? fun v1 => (strV v1 fun s2 => (ite2 ((ByteArray.toList s2) == (ByteArray.toList (⟨#[49, 50, 51, 52, 53, 54, 55, 56, 97, 98]⟩ : ByteArray))) (ldV (k9)[3]? fun v3 => (intV v3 .i64 fun i4 => (ite2 (i4 == 2) (CF Try.prog 27 [(.pointer x1)] hp fun u5 h6 => (intV u5 .i64 fun i7 => (K (upd (upd (upd (upd (upd (upd (upd (upd (upd (upd (upd (upd (upd (upd (upd (upd (upd (upd (upd (upd (upd (upd (upd (upd (upd (upd (upd (upd (upd (upd (upd (upd (upd (upd (upd (upd (upd (upd (upd (upd (upd (upd (upd (upd (upd e 11 (sI x11)) 10 (sB x10)) 9 (sR 9 0)) 8 (sI x8)) 7 (sB x7)) 5 (sI x5)) 4 (sB x4)) 1 (sP x1)) 43 (sB x4)) 44 (sB ((!x4)))) 45 (sB true)) 46 (sI x5)) 47 (sB ((x5 == 0)))) 48 (sB ((x5 == 0)))) 49 (sB true)) 50 (sB x7)) 51 (sB ((!x7)))) 52 (sB ((!x7)))) 53 (sB true)) 54 (sI x8)) 55 (sB ((x8 == 0)))) 56 (sB ((x8 == 0)))) 57 (sB true)) 58 (sB x10)) 59 (sB x10)) 60 (sB true)) 61 (sI x11)) 62 (sB ((x11 == 0)))) 63 (sB ((x11 == 0)))) 64 (sB true)) 65 (sR 9 2)) 66 (sV (.string s2))) 67 (sB (((ByteArray.toList s2) == (ByteArray.toList (⟨#[49, 50, 51, 52, 53, 54, 55, 56, 97, 98]⟩ : ByteArray)))))) 68 (sB (((ByteArray.toList s2) == (ByteArray.toList (⟨#[49, 50, 51, 52, 53, 54, 55, 56, 97, 98]⟩ : ByteArray)))))) 69 (sB true)) 70 (sR 9 3)) 71 (sI i4)) 72 (sB ((i4 == 2)))) 73 (sB ((i4 == 2)))) 74 (sB true)) 75 (sP x1)) 76 (sI i7)) 77 (sB ((i7 == 0)))) 78 (sB ((i7 == 0)))) 0 (sB ((i7 == 0)))) (upd V0 9 (36, k9)) h6))) (K (upd (upd (upd (upd (upd (upd (upd (upd (upd (upd (upd (upd (upd (upd (upd (upd (upd (upd (upd (upd (upd (upd (upd (upd (upd (upd (upd (upd (upd (upd (upd (upd (upd (upd (upd (upd (upd (upd (upd (upd (upd (upd (upd (upd (upd e 11 (sI x11)) 10 (sB x10)) 9 (sR 9 0)) 8 (sI x8)) 7 (sB x7)) 5 (sI x5)) 4 (sB x4)) 1 (sP x1)) 43 (sB x4)) 44 (sB ((!x4)))) 45 (sB true)) 46 (sI x5)) 47 (sB ((x5 == 0)))) 48 (sB ((x5 == 0)))) 49 (sB true)) 50 (sB x7)) 51 (sB ((!x7)))) 52 (sB ((!x7)))) 53 (sB true)) 54 (sI x8)) 55 (sB ((x8 == 0)))) 56 (sB ((x8 == 0)))) 57 (sB true)) 58 (sB x10)) 59 (sB x10)) 60 (sB true)) 61 (sI x11)) 62 (sB ((x11 == 0)))) 63 (sB ((x11 == 0)))) 64 (sB true)) 65 (sR 9 2)) 66 (sV (.string s2))) 67 (sB (((ByteArray.toList s2) == (ByteArray.toList (⟨#[49, 50, 51, 52, 53, 54, 55, 56, 97, 98]⟩ : ByteArray)))))) 68 (sB (((ByteArray.toList s2) == (ByteArray.toList (⟨#[49, 50, 51, 52, 53, 54, 55, 56, 97, 98]⟩ : ByteArray)))))) 69 (sB true)) 70 (sR 9 3)) 71 (sI i4)) 72 (sB ((i4 == 2)))) 73 (sB ((i4 == 2)))) 74 (sB false)) 75 sU) 76 sU) 77 sU) 78 (sB false)) 0 (sB false)) (upd V0 9 (36, k9)) hp)))) (K (upd (upd (upd (upd (upd (upd (upd (upd (upd (upd (upd (upd (upd (upd (upd (upd (upd (upd (upd (upd (upd (upd (upd (upd (upd (upd (upd (upd (upd (upd (upd (upd (upd (upd (upd (upd (upd (upd (upd (upd (upd (upd (upd (upd (upd e 11 (sI x11)) 10 (sB x10)) 9 (sR 9 0)) 8 (sI x8)) 7 (sB x7)) 5 (sI x5)) 4 (sB x4)) 1 (sP x1)) 43 (sB x4)) 44 (sB ((!x4)))) 45 (sB true)) 46 (sI x5)) 47 (sB ((x5 == 0)))) 48 (sB ((x5 == 0)))) 49 (sB true)) 50 (sB x7)) 51 (sB ((!x7)))) 52 (sB ((!x7)))) 53 (sB true)) 54 (sI x8)) 55 (sB ((x8 == 0)))) 56 (sB ((x8 == 0)))) 57 (sB true)) 58 (sB x10)) 59 (sB x10)) 60 (sB true)) 61 (sI x11)) 62 (sB ((x11 == 0)))) 63 (sB ((x11 == 0)))) 64 (sB true)) 65 (sR 9 2)) 66 (sV (.string s2))) 67 (sB (((ByteArray.toList s2) == (ByteArray.toList (⟨#[49, 50, 51, 52, 53, 54, 55, 56, 97, 98]⟩ : ByteArray)))))) 68 (sB (((ByteArray.toList s2) == (ByteArray.toList (⟨#[49, 50, 51, 52, 53, 54, 55, 56, 97, 98]⟩ : ByteArray)))))) 69 (sB false)) 70 sU) 71 sU) 72 sU) 73 (sB false)) 74 (sB false)) 75 sU) 76 sU) 77 sU) 78 (sB false)) 0 (sB false)) (upd V0 9 (36, k9)) hp)))) (K (upd (upd (upd (upd (upd (upd (upd (upd (upd (upd (upd (upd (upd (upd (upd (upd (upd (upd (upd (upd (upd (upd (upd (upd (upd (upd (upd (upd (upd (upd (upd (upd (upd (upd (upd (upd (upd (upd (upd (upd (upd (upd (upd (upd (upd e 11 (sI x11)) 10 (sB x10)) 9 (sR 9 0)) 8 (sI x8)) 7 (sB x7)) 5 (sI x5)) 4 (sB x4)) 1 (sP x1)) 43 (sB x4)) 44 (sB ((!x4)))) 45 (sB true)) 46 (sI x5)) 47 (sB ((x5 == 0)))) 48 (sB ((x5 == 0)))) 49 (sB true)) 50 (sB x7)) 51 (sB ((!x7)))) 52 (sB ((!x7)))) 53 (sB true)) 54 (sI x8)) 55 (sB ((x8 == 0)))) 56 (sB ((x8 == 0)))) 57 (sB true)) 58 (sB x10)) 59 (sB x10)) 60 (sB true)) 61 (sI x11)) 62 (sB ((x11 == 0)))) 63 (sB ((x11 == 0)))) 64 (sB false)) 65 sU) 66 sU) 67 sU) 68 (sB false)) 69 (sB false)) 70 sU) 71 sU) 72 sU) 73 (sB false)) 74 (sB false)) 75 sU) 76 sU) 77 sU) 78 (sB false)) 0 (sB false)) (upd V0 9 (36, k9)) hp)) (K (upd (upd (upd (upd (upd (upd (upd (upd (upd (upd (upd (upd (upd (upd (upd (upd (upd (upd (upd (upd (upd (upd (upd (upd (upd (upd (upd (upd (upd (upd (upd (upd (upd (upd (upd (upd (upd (upd (upd (upd (upd (upd (upd (upd (upd e 11 (sI x11)) 10 (sB x10)) 9 (sR 9 0)) 8 (sI x8)) 7 (sB x7)) 5 (sI x5)) 4 (sB x4)) 1 (sP x1)) 43 (sB x4)) 44 (sB ((!x4)))) 45 (sB true)) 46 (sI x5)) 47 (sB ((x5 == 0)))) 48 (sB ((x5 == 0)))) 49 (sB true)) 50 (sB x7)) 51 (sB ((!x7)))) 52 (sB ((!x7)))) 53 (sB true)) 54 (sI x8)) 55 (sB ((x8 == 0)))) 56 (sB ((x8 == 0)))) 57 (sB true)) 58 (sB x10)) 59 (sB x10)) 60 (sB false)) 61 sU) 62 sU) 63 (sB false)) 64 (sB false)) 65 sU) 66 sU) 67 sU) 68 (sB false)) 69 (sB false)) 70 sU) 71 sU) 72 sU) 73 (sB false)) 74 (sB false)) 75 sU) 76 sU) 77 sU) 78 (sB false)) 0 (sB false)) (upd V0 9 (36, k9)) hp)) (K (upd (upd (upd (upd (upd (upd (upd (upd (upd (upd (upd (upd (upd (upd (upd (upd (upd (upd (upd (upd (upd (upd (upd (upd (upd (upd (upd (upd (upd (upd (upd (upd (upd (upd (upd (upd (upd (upd (upd (upd (upd (upd (upd (upd (upd e 11 (sI x11)) 10 (sB x10)) 9 (sR 9 0)) 8 (sI x8)) 7 (sB x7)) 5 (sI x5)) 4 (sB x4)) 1 (sP x1)) 43 (sB x4)) 44 (sB ((!x4)))) 45 (sB true)) 46 (sI x5)) 47 (sB ((x5 == 0)))) 48 (sB ((x5 == 0)))) 49 (sB true)) 50 (sB x7)) 51 (sB ((!x7)))) 52 (sB ((!x7)))) 53 (sB true)) 54 (sI x8)) 55 (sB ((x8 == 0)))) 56 (sB ((x8 == 0)))) 57 (sB false)) 58 sU) 59 (sB false)) 60 (sB false)) 61 sU) 62 sU) 63 (sB false)) 64 (sB false)) 65 sU) 66 sU) 67 sU) 68 (sB false)) 69 (sB false)) 70 sU) 71 sU) 72 sU) 73 (sB false)) 74 (sB false)) 75 sU) 76 sU) 77 sU) 78 (sB false)) 0 (sB false)) (upd V0 9 (36, k9)) hp)) (K (upd (upd (upd (upd (upd (upd (upd (upd (upd (upd (upd (upd (upd (upd (upd (upd (upd (upd (upd (upd (upd (upd (upd (upd (upd (upd (upd (upd (upd (upd (upd (upd (upd (upd (upd (upd (upd (upd (upd (upd (upd (upd (upd (upd (upd e 11 (sI x11)) 10 (sB x10)) 9 (sR 9 0)) 8 (sI x8)) 7 (sB x7)) 5 (sI x5)) 4 (sB x4)) 1 (sP x1)) 43 (sB x4)) 44 (sB ((!x4)))) 45 (sB true)) 46 (sI x5)) 47 (sB ((x5 == 0)))) 48 (sB ((x5 == 0)))) 49 (sB true)) 50 (sB x7)) 51 (sB ((!x7)))) 52 (sB ((!x7)))) 53 (sB false)) 54 sU) 55 sU) 56 (sB false)) 57 (sB false)) 58 sU) 59 (sB false)) 60 (sB false)) 61 sU) 62 sU) 63 (sB false)) 64 (sB false)) 65 sU) 66 sU) 67 sU) 68 (sB false)) 69 (sB false)) 70 sU) 71 sU) 72 sU) 73 (sB false)) 74 (sB false)) 75 sU) 76 sU) 77 sU) 78 (sB false)) 0 (sB false)) (upd V0 9 (36, k9)) hp)) (K (upd (upd (upd (upd (upd (upd (upd (upd (upd (upd (upd (upd (upd (upd (upd (upd (upd (upd (upd (upd (upd (upd (upd (upd (upd (upd (upd (upd (upd (upd (upd (upd (upd (upd (upd (upd (upd (upd (upd (upd (upd (upd (upd (upd (upd e 11 (sI x11)) 10 (sB x10)) 9 (sR 9 0)) 8 (sI x8)) 7 (sB x7)) 5 (sI x5)) 4 (sB x4)) 1 (sP x1)) 43 (sB x4)) 44 (sB ((!x4)))) 45 (sB true)) 46 (sI x5)) 47 (sB ((x5 == 0)))) 48 (sB ((x5 == 0)))) 49 (sB false)) 50 sU) 51 sU) 52 (sB false)) 53 (sB false)) 54 sU) 55 sU) 56 (sB false)) 57 (sB false)) 58 sU) 59 (sB false)) 60 (sB false)) 61 sU) 62 sU) 63 (sB false)) 64 (sB false)) 65 sU) 66 sU) 67 sU) 68 (sB false)) 69 (sB false)) 70 sU) 71 sU) 72 sU) 73 (sB false)) 74 (sB false)) 75 sU) 76 sU) 77 sU) 78 (sB false)) 0 (sB false)) (upd V0 9 (36, k9)) hp)) (K (upd (upd (upd (upd (upd (upd (upd (upd (upd (upd (upd (upd (upd (upd (upd (upd (upd (upd (upd (upd (upd (upd (upd (upd (upd (upd (upd (upd (upd (upd (upd (upd (upd (upd (upd (upd (upd (upd (upd (upd (upd (upd (upd (upd (upd e 11 (sI x11)) 10 (sB x10)) 9 (sR 9 0)) 8 (sI x8)) 7 (sB x7)) 5 (sI x5)) 4 (sB x4)) 1 (sP x1)) 43 (sB x4)) 44 (sB ((!x4)))) 45 (sB false)) 46 sU) 47 sU) 48 (sB false)) 49 (sB false)) 50 sU) 51 sU) 52 (sB false)) 53 (sB false)) 54 sU) 55 sU) 56 (sB false)) 57 (sB false)) 58 sU) 59 (sB false)) 60 (sB false)) 61 sU) 62 sU) 63 (sB false)) 64 (sB false)) 65 sU) 66 sU) 67 sU) 68 (sB false)) 69 (sB false)) 70 sU) 71 sU) 72 sU) 73 (sB false)) 74 (sB false)) 75 sU) 76 sU) 77 sU) 78 (sB false)) 0 (sB false)) (upd V0 9 (36, k9)) hp)) := by kernel_rfl
def F22_j1 (x1 : Option Addr) (x21 : Bool) (hp : HP) (K : Value → HP → Prop) : Prop :=
  (ite2 x21 (K (.bool false) hp) (CF Try.prog 72 [(.int .i64 8), .bool false, (.string (⟨#[97, 98]⟩ : ByteArray))] hp fun u_7 h_8 => (aggV u_7 fun l_9 => (CF Try.prog 26 [(.pointer x1), (.agg ⟨l_9⟩), (.int .i64 5)] h_8 fun u_10 h_11 => (tup3V u_10 fun u_12 u_13 u_14 => (aggV u_12 fun l_15 => (boolV u_13 fun q_16 => (intV u_14 .i64 fun i_17 => (if List.length l_15 = 4 then (if List.all l_15 one = true then (if 0 + List.length l_15 ≤ List.length [(Value.string ⟨#[]⟩), .string ⟨#[]⟩, .string ⟨#[]⟩, .int .i64 0] then (CF Try.prog 72 [(.int .i64 8), .bool false, (.string (⟨#[97, 98]⟩ : ByteArray))] h_11 fun u_18 h_19 => (aggV u_18 fun l_20 => (CF Try.prog 26 [(.pointer x1), (.agg ⟨l_20⟩), (.int .i64 9)] h_19 fun u_21 h_22 => (tup3V u_21 fun u_23 u_24 u_25 => (aggV u_23 fun l_26 => (boolV u_24 fun q_27 => (intV u_25 .i64 fun i_28 => (if List.length l_26 = 4 then (if List.all l_26 one = true then (if 0 + List.length l_26 ≤ List.length [(Value.string ⟨#[]⟩), .string ⟨#[]⟩, .string ⟨#[]⟩, .int .i64 0] then (CF Try.prog 72 [.int .i64 0, (.bool true), (.string (⟨#[49, 50, 51, 52, 53, 54, 55, 56]⟩ : ByteArray))] h_22 fun u_29 h_30 => (aggV u_29 fun l_31 => (CF Try.prog 26 [(.pointer x1), (.agg ⟨l_31⟩), (.int .i64 9)] h_30 fun u_32 h_33 => (tup3V u_32 fun u_34 u_35 u_36 => (aggV u_34 fun l_37 => (boolV u_35 fun q_38 => (intV u_36 .i64 fun i_39 => (if List.length l_37 = 4 then (if List.all l_37 one = true then (if 0 + List.length l_37 ≤ List.length [(Value.string ⟨#[]⟩), .string ⟨#[]⟩, .string ⟨#[]⟩, .int .i64 0] then (ite2 (!q_16) (ite2 (i_17 == 0) (ite2 (!q_27) (ite2 (i_28 == 0) (ite2 q_38 (ite2 (i_39 == 0) (ldV ((splice [.string ⟨#[]⟩, .string ⟨#[]⟩, .string ⟨#[]⟩, .int .i64 0] 0 l_37))[2]? fun v_40 => (strV v_40 fun s_41 => (ite2 ((ByteArray.toList s_41) == (ByteArray.toList (⟨#[49, 50, 51, 52, 53, 54, 55, 56, 97, 98]⟩ : ByteArray))) (ldV ((splice [.string ⟨#[]⟩, .string ⟨#[]⟩, .string ⟨#[]⟩, .int .i64 0] 0 l_37))[3]? fun v_42 => (intV v_42 .i64 fun i_43 => (ite2 (i_43 == 2) (CF Try.prog 27 [(.pointer x1)] h_33 fun u_44 h_45 => (intV u_44 .i64 fun i_46 => (K (.bool (i_46 == 0)) h_45))) (K (.bool false) h_33)))) (K (.bool false) h_33)))) (K (.bool false) h_33)) (K (.bool false) h_33)) (K (.bool false) h_33)) (K (.bool false) h_33)) (K (.bool false) h_33)) (K (.bool false) h_33)) else False) else False) else False)))))))) else False) else False) else False)))))))) else False) else False) else False)))))))))
theorem F22_r7 : R22 [1, 1, 0, 0] 6 (upd (upd e 2 (sI x2)) 1 (sP x1)) V0 hp K =
    (ite2 (x2 != 0) (K (upd (upd (upd (upd (upd (upd (upd (upd e 2 (sI x2)) 1 (sP x1)) 16 (sI x2)) 17 (sB ((x2 != 0)))) 18 (sB true)) 19 sU) 20 sU) 21 (sB true)) V0 hp) (K (upd (upd (upd (upd (upd (upd (upd (upd e 2 (sI x2)) 1 (sP x1)) 16 (sI x2)) 17 (sB ((x2 != 0)))) 18 (sB false)) 19 (sP x1)) 20 (sB ((Option.isNone x1)))) 21 (sB ((Option.isNone x1)))) V0 hp)) := by kernel_rfl
def F22 (hp : HP) (K : Value → HP → Prop) : Prop :=
  (CF Try.prog 25 [(.int .i64 4), (.int .i64 3)] hp fun u_1 h_2 => (tup2V u_1 fun u_3 u_4 => (ptrV u_3 fun p_5 => (intV u_4 .i64 fun i_6 => (ite2 (i_6 != 0) (F22_j1 p_5 true h_2  K) (F22_j1 p_5 (Option.isNone p_5) h_2  K))))))
noncomputable def F22_code : Code := (.seq (.region 0 (opsAt Try.f22 [0]) false) (.seq (.region 1 (opsAt Try.f22 [1, 0]) false) (.seq (.seq (.region 2 (opsAt Try.f22 [1, 1, 0, 0]) false) (.cond (.tmp 21) (.seq (.region 3 (opsAt Try.f22 [1, 1, 0, 1, 0, 0]) false) .ret) .skip)) (.seq (.region 4 (opsAt Try.f22 [1, 1, 1, 0]) false) (.seq (.region 5 (opsAt Try.f22 [1, 1, 1, 1, 0]) false) (.seq (.region 6 (opsAt Try.f22 [1, 1, 1, 1, 1, 0]) false) (.seq (.region 7 (opsAt Try.f22 [1, 1, 1, 1, 1, 1, 0]) false) .ret)))))))
theorem F22_body : Try.f22.body = some F22_code := by kernel_rfl
theorem F22_ok (hp : HP) (K : Value → HP → Prop) (h : F22  hp K) : CF Try.prog 22 [] hp K := by
 refine .inl ⟨by kernel_rfl, AC.intro (N := 79) Try.func22 F22_body rfl (Nat.le_of_ble_eq_true rfl) ?_⟩
 unfold F22 at h
 unfold F22_code
 refine AWP.seq' ?_
 refine AWP.rgn (F22_r0 E0  hp _) ?_ Rn Sn Sn
 refine AWP.seq' ?_
 refine AWP.rgn (F22_r1 E0  hp _) ?_ Rn Sn Sn
 refine mC h fun u_1 h_2 h => mT h fun u_3 u_4 h => mP h fun p_5 h => mI h fun i_6 h => ?_
 refine AWP.seq' ?_
 refine AWP.seq (fun env pv hp => ∃ (x1 : Option Addr) (x21 : Bool), Sub (upd (upd E0 21 (sB x21)) 1 (sP x1)) env ∧ Sub V0 pv ∧ (F22_j1 x1 x21 hp  K)) ?_ ?_
 ·refine AWP.rgn (F22_r7 E0 p_5 i_6 h_2 _) ?_ (Ru 1 (Ru 2 Rn)) (Sc rfl (Sc rfl Sn)) Sn
  refine mt h (fun h => ?_) (fun h => ?_)
  ·exact ⟨p_5, true, (Sc rfl (Sc rfl Sn)), Sn, h⟩
  ·exact ⟨p_5, (Option.isNone p_5), (Sc rfl (Sc rfl Sn)), Sn, h⟩
 ·rintro env pv hp ⟨x1, x21, he, hv, h⟩
  refine AWP.sub (env' := (upd (upd E0 21 (sB x21)) 1 (sP x1))) (pv' := V0) ?_ (Ru 1 (Ru 21 Rn)) he hv (HSub.refl _)
  clear he hv
  unfold F22_j1 at h
  refine AWP.cond (t := x21) rfl (fun e => ?_) (fun e => ?_)
  ·replace h := ite2_t h e
   refine AWP.seq' ?_
   refine AWP.rgn (F22_r2 E0  hp _) ?_ Rn Sn Sn
   refine AWP.ret ?_
   exact h
  ·replace h := ite2_f h e
   refine AWP.skip ?_
   refine AWP.seq' ?_
   refine AWP.rgn (F22_r3 E0 x1 hp _) ?_ (Ru 1 Rn) (Sc rfl Sn) Sn
   refine mC h fun u_7 h_8 h => mA h fun l_9 h => mC h fun u_10 h_11 h => mU h fun u_12 u_13 u_14 h => mA h fun l_15 h => mB h fun q_16 h => mI h fun i_17 h => mf h fun h => mf h fun h => mf h fun h => ?_
   refine AWP.seq' ?_
   refine AWP.rgn (F22_r4 (upd (upd E0 5 (sI i_17)) 4 (sB q_16)) x1 h_11 _) ?_ (Ru 1 (Ru 4 (Ru 5 Rn))) (Sc rfl (Sc rfl (Sc rfl Sn))) Sn
   refine mC h fun u_18 h_19 h => mA h fun l_20 h => mC h fun u_21 h_22 h => mU h fun u_23 u_24 u_25 h => mA h fun l_26 h => mB h fun q_27 h => mI h fun i_28 h => mf h fun h => mf h fun h => mf h fun h => ?_
   refine AWP.seq' ?_
   refine AWP.rgn (F22_r5 (upd (upd (upd (upd E0 8 (sI i_28)) 7 (sB q_27)) 5 (sI i_17)) 4 (sB q_16)) x1 h_22 _) ?_ (Ru 1 (Ru 4 (Ru 5 (Ru 7 (Ru 8 Rn))))) (Sc rfl (Sc rfl (Sc rfl (Sc rfl (Sc rfl Sn))))) Sn
   refine mC h fun u_29 h_30 h => mA h fun l_31 h => mC h fun u_32 h_33 h => mU h fun u_34 u_35 u_36 h => mA h fun l_37 h => mB h fun q_38 h => mI h fun i_39 h => mf h fun h => mf h fun h => mf h fun h => ?_
   refine AWP.seq' ?_
   refine AWP.rgn (F22_r6 E0 x1 q_16 i_17 q_27 i_28 q_38 i_39 (splice [.string ⟨#[]⟩, .string ⟨#[]⟩, .string ⟨#[]⟩, .int .i64 0] 0 l_37) h_33 _) ?_ (Ru 1 (Ru 4 (Ru 5 (Ru 7 (Ru 8 (RefOk.p 9 9 0 (Ru 10 (Ru 11 Rn)) (fun e => by cases e))))))) (Sc rfl (Sc rfl (Sc rfl (Sc rfl (Sc rfl (Sc rfl (Sc rfl (Sc rfl Sn)))))))) (Sc rfl Sn)
   refine mt h (fun h => ?_) (fun h => ?_)
   ·refine mt h (fun h => ?_) (fun h => ?_)
    ·refine mt h (fun h => ?_) (fun h => ?_)
     ·refine mt h (fun h => ?_) (fun h => ?_)
      ·refine mt h (fun h => ?_) (fun h => ?_)
       ·refine mt h (fun h => ?_) (fun h => ?_)
        ·refine mV h fun v_40 h => ms h fun s_41 h => ?_
         refine mt h (fun h => ?_) (fun h => ?_)
         ·refine mV h fun v_42 h => mI h fun i_43 h => ?_
          refine mt h (fun h => ?_) (fun h => ?_)
          ·refine mC h fun u_44 h_45 h => mI h fun i_46 h => ?_
           refine AWP.ret ?_
           exact h
          ·refine AWP.ret ?_
           exact h
         ·refine AWP.ret ?_
          exact h
        ·refine AWP.ret ?_
         exact h
       ·refine AWP.ret ?_
        exact h
      ·refine AWP.ret ?_
       exact h
     ·refine AWP.ret ?_
      exact h
    ·refine AWP.ret ?_
     exact h
   ·refine AWP.ret ?_
    exact h
end
-- 72 interpreter/interpreterlaw16.piece
section
variable (e : Env) (x0 : Int) (x1 : Bool) (x2 : ByteArray) (k6 : List Value) (hp : HP) (K : Env → PV → HP → Prop)
abbrev R72 (p : List Nat) (n : Nat) := RW Try.prog 11 [6] (opsAt Try.f72 p) (List.range n)
theorem F72_r0 : R72 [0] 1 e V0 hp K =
    (K (upd e 6 (sR 6 0)) (upd V0 6 (29, [.string ⟨#[]⟩, .string ⟨#[]⟩, .int .i64 0, .bool false, .string ⟨#[]⟩, .string ⟨#[]⟩])) hp) := by kernel_rfl
theorem F72_r1 : R72 [1, 0] 5 (upd (upd (upd (upd e 6 (sR 6 0)) 2 (sV (.string x2))) 1 (sB x1)) 0 (sI x0)) (upd V0 6 (29, k6)) hp K =
    (if List.length [(Value.string (⟨#[107]⟩ : ByteArray)), (.string (⟨#[115]⟩ : ByteArray)), (.int .i64 x0), (.bool x1), (.string x2), .string ⟨#[]⟩] = 6 then (if List.all [(Value.string (⟨#[107]⟩ : ByteArray)), (.string (⟨#[115]⟩ : ByteArray)), (.int .i64 x0), (.bool x1), (.string x2), .string ⟨#[]⟩] one = true then (if 0 + List.length [(Value.string (⟨#[107]⟩ : ByteArray)), (.string (⟨#[115]⟩ : ByteArray)), (.int .i64 x0), (.bool x1), (.string x2), .string ⟨#[]⟩] ≤ List.length k6 then (K (upd (upd (upd (upd (upd (upd (upd (upd e 6 (sR 6 0)) 2 (sV (.string x2))) 1 (sB x1)) 0 (sI x0)) 7 (sI x0)) 8 (sB x1)) 9 (sV (.string x2))) 10 (sV (.agg ⟨[(.string (⟨#[107]⟩ : ByteArray)), (.string (⟨#[115]⟩ : ByteArray)), (.int .i64 x0), (.bool x1), (.string x2), .string ⟨#[]⟩]⟩))) (upd (upd V0 6 (29, k6)) 6 (29, (splice k6 0 [(.string (⟨#[107]⟩ : ByteArray)), (.string (⟨#[115]⟩ : ByteArray)), (.int .i64 x0), (.bool x1), (.string x2), .string ⟨#[]⟩]))) hp) else False) else False) else False) := by kernel_rfl
def F72 (x0 : Int) (x1 : Bool) (x2 : ByteArray) (hp : HP) (K : Value → HP → Prop) : Prop :=
  (if List.length [(Value.string (⟨#[107]⟩ : ByteArray)), (.string (⟨#[115]⟩ : ByteArray)), (.int .i64 x0), (.bool x1), (.string x2), .string ⟨#[]⟩] = 6 then (if List.all [(Value.string (⟨#[107]⟩ : ByteArray)), (.string (⟨#[115]⟩ : ByteArray)), (.int .i64 x0), (.bool x1), (.string x2), .string ⟨#[]⟩] one = true then (if 0 + List.length [(Value.string (⟨#[107]⟩ : ByteArray)), (.string (⟨#[115]⟩ : ByteArray)), (.int .i64 x0), (.bool x1), (.string x2), .string ⟨#[]⟩] ≤ List.length [(Value.string ⟨#[]⟩), .string ⟨#[]⟩, .int .i64 0, .bool false, .string ⟨#[]⟩, .string ⟨#[]⟩] then (ldL (cellsN (splice [.string ⟨#[]⟩, .string ⟨#[]⟩, .int .i64 0, .bool false, .string ⟨#[]⟩, .string ⟨#[]⟩] 0 [(.string (⟨#[107]⟩ : ByteArray)), (.string (⟨#[115]⟩ : ByteArray)), (.int .i64 x0), (.bool x1), (.string x2), .string ⟨#[]⟩]) 0 6) fun l_1 => (K (.agg ⟨l_1⟩) hp)) else False) else False) else False)
noncomputable def F72_code : Code := (.seq (.region 0 (opsAt Try.f72 [0]) false) (.seq (.region 1 (opsAt Try.f72 [1, 0]) false) .ret))
theorem F72_body : Try.f72.body = some F72_code := by kernel_rfl
theorem F72_ok (x0 : Int) (x1 : Bool) (x2 : ByteArray) (hp : HP) (K : Value → HP → Prop) (h : F72 x0 x1 x2 hp K) : CF Try.prog 72 [(.int .i64 x0), (.bool x1), (.string x2)] hp K := by
 refine .inl ⟨by kernel_rfl, AC.intro (N := 11) Try.func72 F72_body rfl (Nat.le_of_ble_eq_true rfl) ?_⟩
 unfold F72 at h
 unfold F72_code
 refine AWP.seq' ?_
 refine AWP.rgn (F72_r0 (upd (upd (upd E0 2 (sV (.string x2))) 1 (sB x1)) 0 (sI x0))  hp _) ?_ (Ru 0 (Ru 1 (Ru 2 Rn))) (Sc rfl (Sc rfl (Sc rfl Sn))) Sn
 refine AWP.seq' ?_
 refine AWP.rgn (F72_r1 E0 x0 x1 x2 [.string ⟨#[]⟩, .string ⟨#[]⟩, .int .i64 0, .bool false, .string ⟨#[]⟩, .string ⟨#[]⟩] hp _) ?_ (Ru 0 (Ru 1 (Ru 2 (RefOk.p 6 6 0 Rn (fun e => by cases e))))) (Sc rfl (Sc rfl (Sc rfl (Sc rfl Sn)))) (Sc rfl Sn)
 refine mf h fun h => mf h fun h => mf h fun h => ?_
 refine AWP.ret ?_
 exact h
end
-- 24 interpreter/interpreterlaw16.turn
section
variable (e : Env) (x0 x1 x5 : Int) (hp : HP) (K : Env → PV → HP → Prop)
abbrev R24 (p : List Nat) (n : Nat) := RW Try.prog 15 [] (opsAt Try.f24 p) (List.range n)
theorem F24_r0 : R24 [0] 1 e V0 hp K =
    (K (upd e 4 (sI 0)) V0 hp) := by kernel_rfl
theorem F24_r1 : R24 [1, 0] 4 (upd (upd e 1 (sI x1)) 0 (sI x0)) V0 hp K =
    (((x1 : Int) ≠ 0) ∧ (K (upd (upd (upd (upd (upd (upd e 1 (sI x1)) 0 (sI x0)) 6 (sI x0)) 7 (sI x1)) 8 (sI ((Int.tmod x0 x1)))) 5 (sI ((Int.tmod x0 x1)))) V0 hp)) := by kernel_rfl
theorem F24_r2 : R24 [1, 1, 1, 0] 2 (upd e 5 (sI x5)) V0 hp K =
    (K (upd (upd (upd e 5 (sI x5)) 14 (sI x5)) 4 (sI x5)) V0 hp) := by kernel_rfl
def F24_j1 (x5 : Int) (hp : HP) (K : Value → HP → Prop) : Prop :=
  (K (.int .i64 x5) hp)
theorem F24_r3 : R24 [1, 1, 0, 0] 2 (upd e 5 (sI x5)) V0 hp K =
    (K (upd (upd (upd e 5 (sI x5)) 9 (sI x5)) 10 (sB (decide (x5 < 0)))) V0 hp) := by kernel_rfl
theorem F24_r4 : R24 [1, 1, 0, 1, 0] 4 (upd (upd e 5 (sI x5)) 1 (sI x1)) V0 hp K =
    (K (upd (upd (upd (upd (upd (upd e 5 (sI x5)) 1 (sI x1)) 11 (sI x5)) 12 (sI x1)) 13 (sI ((wr (x5 + x1))))) 5 (sI ((wr (x5 + x1))))) V0 hp) := by kernel_rfl
def F24 (x0 : Int) (x1 : Int) (hp : HP) (K : Value → HP → Prop) : Prop :=
  (((x1 : Int) ≠ 0) ∧ (ite2 (decide (((Int.tmod x0 x1) : Int) < 0)) (F24_j1 (IntKind.wrap .i64 ((Int.tmod x0 x1) + x1)) hp  K) (F24_j1 (Int.tmod x0 x1) hp  K)))
noncomputable def F24_code : Code := (.seq (.region 0 (opsAt Try.f24 [0]) false) (.seq (.region 1 (opsAt Try.f24 [1, 0]) false) (.seq (.seq (.region 2 (opsAt Try.f24 [1, 1, 0, 0]) false) (.cond (.tmp 10) (.region 3 (opsAt Try.f24 [1, 1, 0, 1, 0]) false) .skip)) (.seq (.region 4 (opsAt Try.f24 [1, 1, 1, 0]) false) .ret))))
theorem F24_body : Try.f24.body = some F24_code := by kernel_rfl
theorem F24_ok (x0 : Int) (x1 : Int) (hp : HP) (K : Value → HP → Prop) (h : F24 x0 x1 hp K) : CF Try.prog 24 [(.int .i64 x0), (.int .i64 x1)] hp K := by
 refine .inl ⟨by kernel_rfl, AC.intro (N := 15) Try.func24 F24_body rfl (Nat.le_of_ble_eq_true rfl) ?_⟩
 unfold F24 at h
 unfold F24_code
 refine AWP.seq' ?_
 refine AWP.rgn (F24_r0 (upd (upd E0 1 (sI x1)) 0 (sI x0))  hp _) ?_ (Ru 0 (Ru 1 Rn)) (Sc rfl (Sc rfl Sn)) Sn
 refine AWP.seq' ?_
 refine AWP.rgn (F24_r1 E0 x0 x1 hp _) ?_ (Ru 0 (Ru 1 Rn)) (Sc rfl (Sc rfl Sn)) Sn
 refine ⟨h.1, ?_⟩
 replace h := h.2
 refine AWP.seq (fun env pv hp => ∃ (x5 : Int), Sub (upd E0 5 (sI x5)) env ∧ Sub V0 pv ∧ (F24_j1 x5 hp  K)) ?_ ?_
 ·refine AWP.seq' ?_
  refine AWP.rgn (F24_r3 (upd E0 1 (sI x1)) (Int.tmod x0 x1) hp _) ?_ (Ru 5 (Ru 1 Rn)) (Sc rfl (Sc rfl Sn)) Sn
  refine AWP.cond (t := (decide (((Int.tmod x0 x1) : Int) < 0))) rfl (fun e => ?_) (fun e => ?_)
  ·replace h := ite2_t h e
   refine AWP.rgn (F24_r4 E0 x1 (Int.tmod x0 x1) hp _) ?_ (Ru 1 (Ru 5 Rn)) (Sc rfl (Sc rfl Sn)) Sn
   exact ⟨(wr ((Int.tmod x0 x1) + x1)), (Sc rfl Sn), Sn, h⟩
  ·replace h := ite2_f h e
   refine AWP.skip ?_
   exact ⟨(Int.tmod x0 x1), (Sc rfl Sn), Sn, h⟩
 ·rintro env pv hp ⟨x5, he, hv, h⟩
  refine AWP.sub (env' := (upd E0 5 (sI x5))) (pv' := V0) ?_ (Ru 5 Rn) he hv (HSub.refl _)
  clear he hv
  unfold F24_j1 at h
  refine AWP.seq' ?_
  refine AWP.rgn (F24_r2 E0 x5 hp _) ?_ (Ru 5 Rn) (Sc rfl Sn) Sn
  refine AWP.ret ?_
  exact h
end
-- 60 (*interpreter/frag.Store).Keys
section
variable (e : Env) (x0 : Option Addr) (hp : HP) (K : Env → PV → HP → Prop)
abbrev R60 (p : List Nat) (n : Nat) := RW Try.prog 7 [] (opsAt Try.f60 p) (List.range n)
theorem F60_r0 : R60 [0] 1 e V0 hp K =
    (K (upd e 2 (sS none 0 0)) V0 hp) := by kernel_rfl
theorem F60_r1 : R60 [1, 0, 0] 2 (upd e 0 (sP x0)) V0 hp K =
    (CF Try.prog 75 [(.pointer x0)] hp fun u1 h2 => (boolV u1 fun q3 => (K (upd (upd (upd e 0 (sP x0)) 3 (sP x0)) 4 (sB q3)) V0 h2))) := by kernel_rfl
theorem F60_r2 : R60 [1, 0, 1, 0, 0] 1 e V0 hp K =
    (K (upd e 2 (sS none 0 0)) V0 hp) := by kernel_rfl
theorem F60_r3 : R60 [1, 1, 0] 3 (upd e 0 (sP x0)) V0 hp K =
    (CF Try.prog 107 [(.pointer x0), (.func (.func 108) ⟨[]⟩ ⟨[]⟩)] hp fun u1 h2 => (slcV u1 fun a3 n4 c5 => (K (upd (upd (upd (upd e 0 (sP x0)) 5 (sP x0)) 6 (sS a3 n4 c5)) 2 (sS a3 n4 c5)) V0 h2))) := by kernel_rfl
def F60 (x0 : Option Addr) (hp : HP) (K : Value → HP → Prop) : Prop :=
  (CF Try.prog 75 [(.pointer x0)] hp fun u_1 h_2 => (boolV u_1 fun q_3 => (ite2 q_3 (K (.slice none 0 0) h_2) (CF Try.prog 107 [(.pointer x0), (.func (.func 108) ⟨[]⟩ ⟨[]⟩)] h_2 fun u_4 h_5 => (slcV u_4 fun a_6 n_7 c_8 => (K (.slice a_6 n_7 c_8) h_5))))))
noncomputable def F60_code : Code := (.seq (.region 0 (opsAt Try.f60 [0]) false) (.seq (.seq (.region 1 (opsAt Try.f60 [1, 0, 0]) false) (.cond (.tmp 4) (.seq (.region 2 (opsAt Try.f60 [1, 0, 1, 0, 0]) false) .ret) .skip)) (.seq (.region 3 (opsAt Try.f60 [1, 1, 0]) false) .ret)))
theorem F60_body : Try.f60.body = some F60_code := by kernel_rfl
theorem F60_ok (x0 : Option Addr) (hp : HP) (K : Value → HP → Prop) (h : F60 x0 hp K) : CF Try.prog 60 [(.pointer x0)] hp K := by
 refine .inl ⟨by kernel_rfl, AC.intro (N := 7) Try.func60 F60_body rfl (Nat.le_of_ble_eq_true rfl) ?_⟩
 unfold F60 at h
 unfold F60_code
 refine AWP.seq' ?_
 refine AWP.rgn (F60_r0 (upd E0 0 (sP x0))  hp _) ?_ (Ru 0 Rn) (Sc rfl Sn) Sn
 refine AWP.seq' ?_
 refine AWP.seq' ?_
 refine AWP.rgn (F60_r1 E0 x0 hp _) ?_ (Ru 0 Rn) (Sc rfl Sn) Sn
 refine mC h fun u_1 h_2 h => mB h fun q_3 h => ?_
 refine AWP.cond (t := q_3) rfl (fun e => ?_) (fun e => ?_)
 ·replace h := ite2_t h e
  refine AWP.seq' ?_
  refine AWP.rgn (F60_r2 E0  h_2 _) ?_ Rn Sn Sn
  refine AWP.ret ?_
  exact h
 ·replace h := ite2_f h e
  refine AWP.skip ?_
  refine AWP.seq' ?_
  refine AWP.rgn (F60_r3 E0 x0 h_2 _) ?_ (Ru 0 Rn) (Sc rfl Sn) Sn
  refine mC h fun u_4 h_5 h => mS h fun a_6 n_7 c_8 h => ?_
  refine AWP.ret ?_
  exact h
end
end Go.Proofs

set_option linter.unusedVariables false
set_option maxRecDepth 20000
namespace Go.Proofs
open Go Go.HL
-- 107 (*interpreter/frag.Store).keys
section
variable (e : Env) (x0 : Option Addr) (x1 : Value) (x2 x3 x5a : Option Addr) (x5n x5c : Nat) (x6 : ByteArray) (x11 : Value) (hp : HP) (K : Env → PV → HP → Prop)
abbrev R107 (p : List Nat) (n : Nat) := RW Try.prog 24 [] (opsAt Try.f107 p) (List.range n)
theorem F107_r0 : R107 [0] 3 (upd (upd e 1 (sV x1)) 0 (sP x0)) V0 hp K =
    (∀ b1 : Nat, hp b1 = .none → (∀ b2 : Nat, (HP.set hp b1 (.cells 31 [(.pointer x0)] 0)) b2 = .none → (K (upd (upd (upd (upd (upd e 1 (sV x1)) 0 (sP x0)) 2 (sQ b1 0)) 3 (sQ b2 0)) 4 (sS none 0 0)) V0 (HP.set (HP.set hp b1 (.cells 31 [(.pointer x0)] 0)) b2 (.cells 169 (Array.toList (Value.cells x1)) 0))))) := by kernel_rfl
theorem F107_r1 : R107 [1, 0] 1 e V0 hp K =
    (K (upd e 5 (sS none 0 0)) V0 hp) := by kernel_rfl
theorem F107_r2 : R107 [1, 1, 1, 0] 3 (upd (upd (upd e 5 (sS x5a x5n x5c)) 3 (sP x3)) 2 (sP x2)) V0 hp K =
    (CF Try.prog 137 [(.slice x5a x5n x5c), (.func (.func 138) ⟨[]⟩ ⟨[(.pointer x3), (.pointer x2)]⟩)] hp fun u1 h2 => (K (upd (upd (upd (upd (upd (upd e 5 (sS x5a x5n x5c)) 3 (sP x3)) 2 (sP x2)) 20 (sS x5a x5n x5c)) 21 (sV (.func (.func 138) ⟨[]⟩ ⟨[(.pointer x3), (.pointer x2)]⟩))) 22 (sV u1)) V0 h2)) := by kernel_rfl
theorem F107_r3 : R107 [1, 1, 1, 1, 0] 2 (upd e 5 (sS x5a x5n x5c)) V0 hp K =
    (K (upd (upd (upd e 5 (sS x5a x5n x5c)) 23 (sS x5a x5n x5c)) 4 (sS x5a x5n x5c)) V0 hp) := by kernel_rfl
def F107_j1 (x2 : Option Addr) (x3 : Option Addr) (x5a : Option Addr) (x5n : Nat) (x5c : Nat) (hp : HP) (K : Value → HP → Prop) : Prop :=
  (CF Try.prog 137 [(.slice x5a x5n x5c), (.func (.func 138) ⟨[]⟩ ⟨[(.pointer x3), (.pointer x2)]⟩)] hp fun u_3 h_4 => (K (.slice x5a x5n x5c) h_4))
theorem F107_r4 : R107 [1, 1, 0, 1, 0, 0, 0] 2 (upd e 11 (sV x11)) V0 hp K =
    (opS Try.prog (Instr.next x11 false 0) hp fun u1 h2 => (tupI u1 0 fun v3 => (boolV v3 fun q4 => (K (upd (upd (upd e 11 (sV x11)) 12 (sV u1)) 13 (sB q4)) V0 h2)))) := by kernel_rfl
theorem F107_r5 : R107 [1, 1, 0, 1, 0, 0, 1, 1, 0, 0] 3 (upd e 11 (sV x11)) V0 hp K =
    (rdS Try.prog (Instr.entry x11) hp fun u1 => (tupI u1 0 fun v2 => (strV v2 fun s3 => (K (upd (upd (upd (upd e 11 (sV x11)) 14 (sV u1)) 15 (sV (.string s3))) 6 (sV (.string s3))) V0 hp)))) := by kernel_rfl
theorem F107_r6 : R107 [1, 1, 0, 1, 0, 0, 1, 1, 0, 1] 5 (upd (upd e 6 (sV (.string x6))) 5 (sS x5a x5n x5c)) V0 hp K =
    (∀ b1 : Nat, hp b1 = .none → (opS Try.prog (Builtin.append_ #[96, 96] 96 ⟨[(.slice x5a x5n x5c), (.slice (some ⟨b1, 0, none⟩) 1 1)]⟩) (HP.set hp b1 (.cells 9 [(.string x6)] 0)) fun u2 h3 => (slcV u2 fun a4 n5 c6 => (K (upd (upd (upd (upd (upd (upd (upd e 6 (sV (.string x6))) 5 (sS x5a x5n x5c)) 16 (sS x5a x5n x5c)) 17 (sV (.string x6))) 18 (sV (.slice (some ⟨b1, 0, none⟩) 1 1))) 19 (sS a4 n5 c6)) 5 (sS a4 n5 c6)) V0 h3)))) := by kernel_rfl
def F107_l3 (x2 : Option Addr) (x3 : Option Addr) (x11 : Value) (K : Value → HP → Prop) (I3 : ((Option Addr) × Nat × Nat) → HP → Prop) (x5a : Option Addr) (x5n : Nat) (x5c : Nat) (hp : HP) : Prop :=
  (opS Try.prog (Instr.next x11 false 0) hp fun u_5 h_6 => (tupI u_5 0 fun v_7 => (boolV v_7 fun q_8 => (ite2 q_8 (rdS Try.prog (Instr.entry x11) h_6 fun u_9 => (tupI u_9 0 fun v_10 => (strV v_10 fun s_11 => (∀ b_12 : Nat, h_6 b_12 = .none → (opS Try.prog (Builtin.append_ #[96, 96] 96 ⟨[(.slice x5a x5n x5c), (.slice (some ⟨b_12, 0, none⟩) 1 1)]⟩) (HP.set h_6 b_12 (.cells 9 [(.string s_11)] 0)) fun u_13 h_14 => (slcV u_13 fun a_15 n_16 c_17 => (I3 (a_15, n_16, c_17) h_14))))))) (F107_j1 x2 x3 x5a x5n x5c h_6  K)))))
def F107_j2 (x2 : Option Addr) (x3 : Option Addr) (x5a : Option Addr) (x5n : Nat) (x5c : Nat) (x11 : Value) (hp : HP) (K : Value → HP → Prop) : Prop :=
  (LoopP (σ := (Option Addr) × Nat × Nat) (fun I s hp => F107_l3 x2 x3 x11  K I s.1 s.2.1 s.2.2 hp) (x5a, x5n, x5c) hp)
theorem F107_r7 : R107 [1, 1, 0, 0] 5 (upd e 2 (sP x2)) V0 hp K =
    (ptrN x2 fun b1 o2 => (ldV (HP.cell hp b1 o2) fun v3 => (ptrV v3 fun p4 => (ptrN p4 fun b5 o6 => (ldV (HP.cell hp b5 (o6 + 4)) fun v7 => (mapV v7 fun m8 => (opS Try.prog (Instr.range 128 (.map m8)) hp fun u9 h10 => (K (upd (upd (upd (upd (upd (upd e 2 (sP x2)) 7 (sP p4)) 8 (sQ b5 o6)) 9 (sQ b5 (o6 + 4))) 10 (sV (.map m8))) 11 (sV u9)) V0 h10)))))))) := by kernel_rfl
def F107 (x0 : Option Addr) (x1 : Value) (hp : HP) (K : Value → HP → Prop) : Prop :=
  (∀ b_1 : Nat, hp b_1 = .none → (∀ b_2 : Nat, (HP.set hp b_1 (.cells 31 [(.pointer x0)] 0)) b_2 = .none → (ptrN (some ⟨b_1, 0, none⟩) fun b_18 o_19 => (ldV (HP.cell (HP.set (HP.set hp b_1 (.cells 31 [(.pointer x0)] 0)) b_2 (.cells 169 (Array.toList (Value.cells x1)) 0)) b_18 o_19) fun v_20 => (ptrV v_20 fun p_21 => (ptrN p_21 fun b_22 o_23 => (ldV (HP.cell (HP.set (HP.set hp b_1 (.cells 31 [(.pointer x0)] 0)) b_2 (.cells 169 (Array.toList (Value.cells x1)) 0)) b_22 (o_23 + 4)) fun v_24 => (mapV v_24 fun m_25 => (opS Try.prog (Instr.range 128 (.map m_25)) (HP.set (HP.set hp b_1 (.cells 31 [(.pointer x0)] 0)) b_2 (.cells 169 (Array.toList (Value.cells x1)) 0)) fun u_26 h_27 => (F107_j2 (some ⟨b_1, 0, none⟩) (some ⟨b_2, 0, none⟩) none 0 0 u_26 h_27  K))))))))))
noncomputable def F107_code : Code := (.seq (.region 0 (opsAt Try.f107 [0]) false) (.seq (.region 1 (opsAt Try.f107 [1, 0]) false) (.seq (.seq (.region 2 (opsAt Try.f107 [1, 1, 0, 0]) false) (.block 0 (.loop (.seq (.region 3 (opsAt Try.f107 [1, 1, 0, 1, 0, 0, 0]) false) (.seq (.cond (.tmp 13) .skip (.exit 0)) (.block 1 (.seq (.region 4 (opsAt Try.f107 [1, 1, 0, 1, 0, 0, 1, 1, 0, 0]) false) (.region 5 (opsAt Try.f107 [1, 1, 0, 1, 0, 0, 1, 1, 0, 1]) false)))))))) (.seq (.region 6 (opsAt Try.f107 [1, 1, 1, 0]) false) (.seq (.region 7 (opsAt Try.f107 [1, 1, 1, 1, 0]) false) .ret)))))
theorem F107_body : Try.f107.body = some F107_code := by kernel_rfl
theorem F107_ok (x0 : Option Addr) (x1 : Value) (hp : HP) (K : Value → HP → Prop) (h : F107 x0 x1 hp K) : CF Try.prog 107 [(.pointer x0), x1] hp K := by
 refine .inl ⟨by kernel_rfl, AC.intro (N := 24) Try.func107 F107_body rfl (Nat.le_of_ble_eq_true rfl) ?_⟩
 unfold F107 at h
 unfold F107_code
 refine AWP.seq' ?_
 refine AWP.rgn (F107_r0 E0 x0 x1 hp _) ?_ (Ru 0 (Ru 1 Rn)) (Sc rfl (Sc rfl Sn)) Sn
 refine fun b_1 hb_b_1 => ?_
 replace h := h b_1 hb_b_1
 refine fun b_2 hb_b_2 => ?_
 replace h := h b_2 hb_b_2
 refine AWP.seq' ?_
 refine AWP.rgn (F107_r1 (upd (upd E0 3 (sV (.pointer (some ⟨b_2, 0, none⟩)))) 2 (sV (.pointer (some ⟨b_1, 0, none⟩))))  (HP.set (HP.set hp b_1 (.cells 31 [(.pointer x0)] 0)) b_2 (.cells 169 (Array.toList (Value.cells x1)) 0)) _) ?_ (Ru 2 (Ru 3 Rn)) (Sc rfl (Sc rfl Sn)) Sn
 refine AWP.seq (fun env pv hp => ∃ (x2 : Option Addr) (x3 : Option Addr) (x5a : Option Addr) (x5n : Nat) (x5c : Nat), Sub (upd (upd (upd E0 5 (sS x5a x5n x5c)) 3 (sP x3)) 2 (sP x2)) env ∧ Sub V0 pv ∧ (F107_j1 x2 x3 x5a x5n x5c hp  K)) ?_ ?_
 ·refine AWP.seq (fun env pv hp => ∃ (x2 : Option Addr) (x3 : Option Addr) (x5a : Option Addr) (x5n : Nat) (x5c : Nat) (x11 : Value), Sub (upd (upd (upd (upd E0 11 (sV x11)) 5 (sS x5a x5n x5c)) 3 (sP x3)) 2 (sP x2)) env ∧ Sub V0 pv ∧ (F107_j2 x2 x3 x5a x5n x5c x11 hp  K)) ?_ ?_
  ·refine AWP.rgn (F107_r7 (upd (upd E0 5 (sS none 0 0)) 3 (sV (.pointer (some ⟨b_2, 0, none⟩)))) (some ⟨b_1, 0, none⟩) (HP.set (HP.set hp b_1 (.cells 31 [(.pointer x0)] 0)) b_2 (.cells 169 (Array.toList (Value.cells x1)) 0)) _) ?_ (Ru 2 (Ru 3 (Ru 5 Rn))) (Sc rfl (Sc rfl (Sc rfl Sn))) Sn
   refine mN h fun b_18 o_19 h => mV h fun v_20 h => mP h fun p_21 h => mN h fun b_22 o_23 h => mV h fun v_24 h => mM h fun m_25 h => mO h fun u_26 h_27 h => ?_
   exact ⟨(some ⟨b_1, 0, none⟩), (some ⟨b_2, 0, none⟩), none, 0, 0, u_26, (Sc rfl (Sc rfl (Sc rfl (Sc rfl Sn)))), Sn, h⟩
  ·rintro env pv hp ⟨x2, x3, x5a, x5n, x5c, x11, he, hv, h⟩
   refine AWP.sub (env' := (upd (upd (upd (upd E0 11 (sV x11)) 5 (sS x5a x5n x5c)) 3 (sP x3)) 2 (sP x2))) (pv' := V0) ?_ (Ru 2 (Ru 3 (Ru 5 (Ru 11 Rn)))) he hv (HSub.refl _)
   clear he hv
   unfold F107_j2 at h
   refine AWP.block ?_
   refine AWP.loop (σ := (Option Addr) × Nat × Nat) (fun I s hp => F107_l3 x2 x3 x11  K I s.1 s.2.1 s.2.2 hp) (fun s => (upd (upd (upd (upd E0 11 (sV x11)) 5 (sV (.slice s.1 s.2.1 s.2.2))) 3 (sP x3)) 2 (sP x2))) (fun s => V0) (x5a, x5n, x5c) h (fun s => (Ru 2 (Ru 3 (Ru 5 (Ru 11 Rn))))) (Sc rfl (Sc rfl (Sc rfl (Sc rfl Sn)))) Sn ?_
   intro I3 s hp h
   obtain ⟨x5a, x5n, x5c⟩ := s
   replace h : F107_l3 x2 x3 x11  K I3 x5a x5n x5c hp := h
   unfold F107_l3 at h
   refine AWP.seq' ?_
   refine AWP.rgn (F107_r4 (upd (upd (upd E0 5 (sS x5a x5n x5c)) 3 (sP x3)) 2 (sP x2)) x11 hp _) ?_ (Ru 11 (Ru 2 (Ru 3 (Ru 5 Rn)))) (Sc rfl (Sc rfl (Sc rfl (Sc rfl Sn)))) Sn
   refine mO h fun u_5 h_6 h => tupI_mono h fun v_7 h => mB h fun q_8 h => ?_
   refine AWP.seq' ?_
   refine AWP.cond (t := q_8) rfl (fun e => ?_) (fun e => ?_)
   ·replace h := ite2_t h e
    refine AWP.skip ?_
    refine AWP.block ?_
    refine AWP.seq' ?_
    refine AWP.rgn (F107_r5 (upd (upd (upd E0 5 (sS x5a x5n x5c)) 3 (sP x3)) 2 (sP x2)) x11 h_6 _) ?_ (Ru 11 (Ru 2 (Ru 3 (Ru 5 Rn)))) (Sc rfl (Sc rfl (Sc rfl (Sc rfl Sn)))) Sn
    refine mR h fun u_9 h => tupI_mono h fun v_10 h => ms h fun s_11 h => ?_
    refine AWP.rgn (F107_r6 (upd (upd (upd E0 11 (sV x11)) 3 (sP x3)) 2 (sP x2)) x5a x5n x5c s_11 h_6 _) ?_ (Ru 5 (Ru 6 (Ru 2 (Ru 3 (Ru 11 Rn))))) (Sc rfl (Sc rfl (Sc rfl (Sc rfl (Sc rfl Sn))))) Sn
    refine fun b_12 hb_b_12 => ?_
    replace h := h b_12 hb_b_12
    refine mO h fun u_13 h_14 h => mS h fun a_15 n_16 c_17 h => ?_
    exact ⟨(a_15, n_16, c_17), (Sc rfl (Sc rfl (Sc rfl (Sc rfl Sn)))), Sn, h⟩
   ·replace h := ite2_f h e
    refine AWP.exit ?_
    exact ⟨x2, x3, x5a, x5n, x5c, (Sc rfl (Sc rfl (Sc rfl Sn))), Sn, h⟩
 ·rintro env pv hp ⟨x2, x3, x5a, x5n, x5c, he, hv, h⟩
  refine AWP.sub (env' := (upd (upd (upd E0 5 (sS x5a x5n x5c)) 3 (sP x3)) 2 (sP x2))) (pv' := V0) ?_ (Ru 2 (Ru 3 (Ru 5 Rn))) he hv (HSub.refl _)
  clear he hv
  unfold F107_j1 at h
  refine AWP.seq' ?_
  refine AWP.rgn (F107_r2 E0 x2 x3 x5a x5n x5c hp _) ?_ (Ru 2 (Ru 3 (Ru 5 Rn))) (Sc rfl (Sc rfl (Sc rfl Sn))) Sn
  refine mC h fun u_3 h_4 h => ?_
  refine AWP.seq' ?_
  refine AWP.rgn (F107_r3 E0 x5a x5n x5c h_4 _) ?_ (Ru 5 Rn) (Sc rfl Sn) Sn
  refine AWP.ret ?_
  exact h
end
end Go.Proofs

set_option linter.unusedVariables false
namespace Go.HL
open Go

/-- Two neighbouring parts change places. -/
def rotf {α : Type} (g : Nat → α) (a m b : Nat) : Nat → α := fun k => if a ≤ k ∧ k < a + (b - m) then g (k + (m - a)) else if a + (b - m) ≤ k ∧ k < b then g (k - (b - m)) else g k
/-- Two parts of the same length change places. -/
def swf {α : Type} (g : Nat → α) (a b n : Nat) : Nat → α := fun k => if a ≤ k ∧ k < a + n then g (k + b - a) else if b ≤ k ∧ k < b + n then g (k + a - b) else g k

theorem rot_left {α : Type} {g : Nat → α} {i j m : Nat} (hi : i ≤ m) (hji : j < i) (hj : 0 < j) : rotf (swf g (m - i) m j) (m - (i - j)) m (m + j) = rotf g (m - i) m (m + j) := by
  funext k
  unfold rotf swf
  repeat' split
  all_goals first
    | (exfalso; omega)
    | (congr 1 <;> omega)
theorem rot_right {α : Type} {g : Nat → α} {i j m : Nat} (hi : i ≤ m) (hij : i < j) (hi0 : 0 < i) : rotf (swf g (m - i) (m + j - i) i) (m - i) m (m + (j - i)) = rotf g (m - i) m (m + j) := by
  funext k
  unfold rotf swf
  repeat' split
  all_goals first
    | (exfalso; omega)
    | (congr 1 <;> omega)
theorem rot_same {α : Type} {g : Nat → α} {i m : Nat} (hi : i ≤ m) : swf g (m - i) m i = rotf g (m - i) m (m + i) := by
  funext k
  unfold rotf swf
  repeat' split
  all_goals first
    | (exfalso; omega)
    | (congr 1 <;> omega)
theorem rot_id {α : Type} {g : Nat → α} {a m b : Nat} (h : a = m ∨ m = b) (hab : a ≤ m) (hmb : m ≤ b) : rotf g a m b = g := by
  funext k
  unfold rotf
  repeat' split
  all_goals first
    | (exfalso; omega)
    | rfl
    | (congr 1 <;> omega)

section
variable {α : Type} [Inhabited α]
def gA (d : Array α) : Nat → α := fun k => d[k]!

theorem swp_f {d : Array α} {i j : Nat} (hi : i < d.size) (hj : j < d.size) (k : Nat) : (Sort.swp d i j)[k]! = if k = j then d[i]! else if k = i then d[j]! else d[k]! := Sort.swp_get d hi hj k

/-- One more of the swaps of two parts. -/
theorem swf_step {d d' : Array α} {a b i : Nat} (h : gA d' = swf (gA d) a b i) (hs : b + i < d'.size) (hab : a + i < b) : gA (Sort.swp d' (a + i) (b + i)) = swf (gA d) a b (i + 1) := by
  funext k
  have h1 : ∀ x, d'[x]! = swf (gA d) a b i x := fun x => congrFun h x
  unfold gA
  rw [swp_f (by omega) hs, h1, h1, h1]
  unfold swf gA
  repeat' split
  all_goals first
    | (exfalso; omega)
    | rfl
    | (congr 1 <;> omega)
    | (subst_vars; congr 1 <;> omega)

variable {lt : α → α → Bool}

theorem le_of_sorted (hS : Sort.SWO lt) {a b : Nat} {d : Array α} (h : Sort.SortedIn lt a b d) {i j : Nat} (hi : a ≤ i) (hij : i ≤ j) (hj : j < b) : lt d[j]! d[i]! = false := by
  rcases Nat.lt_or_eq_of_le hij with h1 | h1
  · exact h i j hi h1 hj
  · rw [h1]; exact hS.irrefl _

/-- What is sorted stays so where nothing changes. -/
theorem sorted_off {a b lo hi : Nat} {d d' : Array α} (h : Sort.SortedIn lt lo hi d) (hp : Sort.PermIn a b d d') (ho : hi ≤ a ∨ b ≤ lo) : Sort.SortedIn lt lo hi d' := by
  intro i j h1 h2 h3
  rw [hp.2.1 i (by omega), hp.2.1 j (by omega)]
  exact h i j h1 h2 h3

/-- A bound between two parts holds behind what is done in each. -/
theorem across {a m b : Nat} {d d' : Array α} (hb : b ≤ d.size) (h : ∀ x y, a ≤ x → x < m → m ≤ y → y < b → lt d[y]! d[x]! = false) (h1 : Sort.PermIn a m d d') (hmb : m ≤ b) : ∀ x y, a ≤ x → x < m → m ≤ y → y < b → lt d'[y]! d'[x]! = false := by
  intro x y hx hxm hy hyb
  rw [h1.2.1 y (by omega)]
  exact Sort.permIn_all d d' a m (fun z => lt d[y]! z = false) (by omega) h1 (fun i hi him => h i y hi him hy hyb) x hx hxm
theorem across' {a m b : Nat} {d d' : Array α} (hb : b ≤ d.size) (h : ∀ x y, a ≤ x → x < m → m ≤ y → y < b → lt d[y]! d[x]! = false) (h1 : Sort.PermIn m b d d') (ham : a ≤ m) : ∀ x y, a ≤ x → x < m → m ≤ y → y < b → lt d'[y]! d'[x]! = false := by
  intro x y hx hxm hy hyb
  rw [h1.2.1 x (by omega)]
  exact Sort.permIn_all d d' m b (fun z => lt z d[x]! = false) (by omega) h1 (fun i hi him => h x i hx hxm hi him) y hy hyb

theorem sorted_join {a m b : Nat} {d : Array α} (h1 : Sort.SortedIn lt a m d) (h2 : Sort.SortedIn lt m b d) (h : ∀ x y, a ≤ x → x < m → m ≤ y → y < b → lt d[y]! d[x]! = false) : Sort.SortedIn lt a b d := by
  intro i j hi hij hj
  rcases Nat.lt_or_ge j m with hjm | hjm
  · exact h1 i j hi hij hjm
  · rcases Nat.lt_or_ge i m with him | him
    · exact h i j hi him hjm hj
    · exact h2 i j him hij hj

/-- What a search between two bounds found. -/
def Found (p : Nat → Bool) (lo hi s : Nat) : Prop := lo ≤ s ∧ s ≤ hi ∧ (s = lo ∨ p (s - 1) = true) ∧ (s = hi ∨ p s = false)

section
variable {a m b s : Nat} {d d1 : Array α}

/-- Behind the rotation: the left half, the right half, and that the one is not above the other. -/
theorem sym_parts (hS : Sort.SWO lt) (ham : a < m) (hmb : m < b) (h1 : Sort.SortedIn lt a m d) (h2 : Sort.SortedIn lt m b d) {mid lo hi e : Nat} (hmid : mid = (a + b) / 2)
    (hlo : lo = if m > mid then mid + m - b else a) (hhi : hi = if m > mid then mid else m) (hf : Found (fun c => !lt d[mid + m - 1 - c]! d[c]!) lo hi s) (he : e = mid + m - s)
    (hr : gA d1 = rotf (gA d) s m e) :
    Sort.SortedIn lt a s d1 ∧ Sort.SortedIn lt s mid d1 ∧ Sort.SortedIn lt mid e d1 ∧ Sort.SortedIn lt e b d1 ∧ ∀ x y, a ≤ x → x < mid → mid ≤ y → y < b → lt d1[y]! d1[x]! = false := by
  obtain ⟨f1, f2, f3, f4⟩ := hf
  have g : ∀ k, d1[k]! = rotf (gA d) s m e k := fun k => congrFun hr k
  have hb1 : a ≤ s ∧ s ≤ m ∧ s ≤ mid ∧ m ≤ e ∧ mid ≤ e ∧ e ≤ b ∧ e - m = mid - s ∧ m - s = e - mid := by
    split at hlo <;> split at hhi <;> omega
  obtain ⟨b1, b2, b3, b4, b5, b6, b7, b8⟩ := hb1
  have gl : ∀ k, k < s → d1[k]! = d[k]! := fun k hk => by
    rw [g]; unfold rotf; rw [if_neg (by omega), if_neg (by omega)]; rfl
  have gm : ∀ k, s ≤ k → k < mid → d1[k]! = d[k + (m - s)]! := fun k h1 h2 => by
    rw [g]; unfold rotf; rw [if_pos (by omega)]; rfl
  have gn : ∀ k, mid ≤ k → k < e → d1[k]! = d[k - (e - m)]! := fun k h1 h2 => by
    rw [g]; unfold rotf; rw [if_neg (by omega), if_pos (by omega)]; rfl
  have gr : ∀ k, e ≤ k → d1[k]! = d[k]! := fun k hk => by
    rw [g]; unfold rotf; rw [if_neg (by omega), if_neg (by omega)]; rfl
  refine ⟨?_, ?_, ?_, ?_, ?_⟩
  · intro i j hi hij hj
    rw [gl i (by omega), gl j (by omega)]; exact h1 i j hi hij (by omega)
  · intro i j hi hij hj
    rw [gm i hi (by omega), gm j (by omega) hj]; exact h2 _ _ (by omega) (by omega) (by omega)
  · intro i j hi hij hj
    rw [gn i hi (by omega), gn j (by omega) hj]; exact h1 _ _ (by omega) (by omega) (by omega)
  · intro i j hi hij hj
    rw [gr i hi, gr j (by omega)]; exact h2 i j (by omega) hij hj
  · intro x y hx hxm hy hyb
    rcases Nat.lt_or_ge x s with hxs | hxs
    · rw [gl x hxs]
      rcases Nat.lt_or_ge y e with hye | hye
      · rw [gn y hy hye]
        exact le_of_sorted hS h1 hx (by omega) (by omega)
      · rw [gr y hye]
        rcases f3 with f3 | f3
        · exfalso
          split at hlo <;> omega
        · have e1 : mid + m - 1 - (s - 1) = e := by omega
          simp only [Bool.not_eq_true', e1] at f3
          have k1 : lt d[y]! d[e]! = false := le_of_sorted hS h2 b4 hye hyb
          have k2 : lt d[s - 1]! d[x]! = false := le_of_sorted hS h1 hx (by omega) (by omega)
          exact hS.ntrans _ _ _ (hS.ntrans _ _ _ k1 f3) k2
    · rw [gm x hxs hxm]
      rcases Nat.lt_or_ge y e with hye | hye
      · rw [gn y hy hye]
        rcases f4 with f4 | f4
        · exfalso
          split at hhi <;> omega
        · have e1 : mid + m - 1 - s = e - 1 := by omega
          simp only [Bool.not_eq_false', e1] at f4
          have f5 := hS.asymmA f4
          have k1 : lt d[y - (e - m)]! d[s]! = false := le_of_sorted hS h1 b1 (by omega) (by omega)
          have k2 : lt d[e - 1]! d[x + (m - s)]! = false := le_of_sorted hS h2 (by omega) (by omega) (by omega)
          exact hS.ntrans _ _ _ (hS.ntrans _ _ _ k1 f5) k2
      · rw [gr y hye]
        exact le_of_sorted hS h2 (by omega) (by omega) hyb

/-- Both halves are put in order. -/
theorem sym_done {mid e : Nat} (hb : b ≤ d1.size) (has : a ≤ s) (hsm : s ≤ mid) (hme : mid ≤ e) (heb : e ≤ b) {d2 d3 : Array α}
    (p1 : Sort.SortedIn lt a s d1) (p2 : Sort.SortedIn lt s mid d1) (p3 : Sort.SortedIn lt mid e d1) (p4 : Sort.SortedIn lt e b d1) (p5 : ∀ x y, a ≤ x → x < mid → mid ≤ y → y < b → lt d1[y]! d1[x]! = false)
    (q1 : Sort.PermIn a mid d1 d2) (q2 : Sort.SortedIn lt a s d1 → Sort.SortedIn lt s mid d1 → Sort.SortedIn lt a mid d2)
    (q3 : Sort.PermIn mid b d2 d3) (q4 : Sort.SortedIn lt mid e d2 → Sort.SortedIn lt e b d2 → Sort.SortedIn lt mid b d3) : Sort.SortedIn lt a b d3 := by
  have k1 := q2 p1 p2
  have k2 := sorted_off p3 q1 (.inr (Nat.le_refl _))
  have k3 := sorted_off p4 q1 (.inr hme)
  have k4 := q4 k2 k3
  have k5 := sorted_off k1 q3 (.inl (Nat.le_refl _))
  have hsz : d2.size = d1.size := q1.1
  have k6 := across hb p5 q1 (by omega)
  have k7 := across' (by omega) k6 q3 (by omega)
  exact sorted_join k5 k4 k7
end

/-- One thing is moved up past others. -/
def upf {α : Type} (g : Nat → α) (a k : Nat) : Nat → α := fun x => if a ≤ x ∧ x < k then g (x + 1) else if x = k then g a else g x
theorem upf_step {d d' : Array α} {a k : Nat} (hak : a ≤ k) (h : gA d' = upf (gA d) a k) (hs : k + 1 < d'.size) : gA (Sort.swp d' k (k + 1)) = upf (gA d) a (k + 1) := by
  funext x
  have h1 : ∀ x, d'[x]! = upf (gA d) a k x := fun x => congrFun h x
  unfold gA
  rw [swp_f (by omega) hs, h1, h1, h1]
  unfold upf gA
  repeat' split
  all_goals first
    | (exfalso; omega)
    | rfl
    | (congr 1 <;> omega)
    | (subst_vars; congr 1 <;> omega)
/-- One thing is moved down past others. -/
def dnf {α : Type} (g : Nat → α) (k m : Nat) : Nat → α := fun x => if k < x ∧ x ≤ m then g (x - 1) else if x = k then g m else g x
theorem dnf_step {d d' : Array α} {m k : Nat} (hk : k + 1 ≤ m) (h : gA d' = dnf (gA d) (k + 1) m) (hs : k + 1 < d'.size) : gA (Sort.swp d' (k + 1) k) = dnf (gA d) k m := by
  funext x
  have h1 : ∀ x, d'[x]! = dnf (gA d) (k + 1) m x := fun x => congrFun h x
  unfold gA
  rw [swp_f hs (by omega), h1, h1, h1]
  unfold dnf gA
  repeat' split
  all_goals first
    | (exfalso; omega)
    | rfl
    | (congr 1 <;> omega)
    | (subst_vars; congr 1 <;> omega)

theorem up_sorted (hS : Sort.SWO lt) {a b i : Nat} {d d' : Array α} (hab : a + 1 ≤ b) (h2 : Sort.SortedIn lt (a + 1) b d) (hf : Found (fun h => lt d[h]! d[a]!) (a + 1) b i) (h : gA d' = upf (gA d) a (i - 1)) : Sort.SortedIn lt a b d' := by
  obtain ⟨f1, f2, f3, f4⟩ := hf
  have g : ∀ x, d'[x]! = upf (gA d) a (i - 1) x := fun x => congrFun h x
  -- below i they are less, from i on not
  have lo : ∀ x, a + 1 ≤ x → x < i → lt d[a]! d[x]! = false := fun x h1 h3 => by
    rcases f3 with f3 | f3
    · omega
    · exact hS.ntrans _ _ _ (hS.asymmA f3) (le_of_sorted hS h2 h1 (by omega) (by omega))
  have hi : ∀ x, i ≤ x → x < b → lt d[x]! d[a]! = false := fun x h1 h3 => by
    rcases f4 with f4 | f4
    · omega
    · exact hS.ntrans _ _ _ (le_of_sorted hS h2 f1 h1 h3) f4
  intro x y hx hxy hy
  rw [g, g]
  unfold upf gA
  repeat' split
  all_goals first
    | (exfalso; omega)
    | exact h2 _ _ (by omega) (by omega) (by omega)
    | exact lo _ (by omega) (by omega)
    | exact hi _ (by omega) (by omega)

theorem dn_sorted (hS : Sort.SWO lt) {a m i : Nat} {d d' : Array α} (ham : a ≤ m) (h1 : Sort.SortedIn lt a m d) (hf : Found (fun h => !lt d[m]! d[h]!) a m i) (h : gA d' = dnf (gA d) i m) : Sort.SortedIn lt a (m + 1) d' := by
  obtain ⟨f1, f2, f3, f4⟩ := hf
  have g : ∀ x, d'[x]! = dnf (gA d) i m x := fun x => congrFun h x
  have lo : ∀ x, a ≤ x → x < i → lt d[m]! d[x]! = false := fun x hx h3 => by
    rcases f3 with f3 | f3
    · omega
    · simp only [Bool.not_eq_true'] at f3
      exact hS.ntrans _ _ _ f3 (le_of_sorted hS h1 hx (by omega) (by omega))
  have hi : ∀ x, i ≤ x → x < m → lt d[x]! d[m]! = false := fun x hx h3 => by
    rcases f4 with f4 | f4
    · omega
    · simp only [Bool.not_eq_false'] at f4
      exact hS.ntrans _ _ _ (le_of_sorted hS h1 f1 hx h3) (hS.asymmA f4)
  intro x y hx hxy hy
  rw [g, g]
  unfold dnf gA
  repeat' split
  all_goals first
    | (exfalso; omega)
    | exact h1 _ _ (by omega) (by omega) (by omega)
    | exact lo _ (by omega) (by omega)
    | exact hi _ (by omega) (by omega)

/-! The blocks. -/
/-- In each block of w, counted from 0, between lo and hi, it is in order. -/
def Lev (lt : α → α → Bool) (w lo hi : Nat) (d : Array α) : Prop := ∀ i j, lo ≤ i → i < j → j < hi → i / w = j / w → lt d[j]! d[i]! = false
theorem Lev.nil {w lo : Nat} {d : Array α} : Lev lt w lo lo d := fun i j h1 h2 h3 _ => by omega
theorem Lev.up {w lo lo' hi : Nat} {d : Array α} (h : Lev lt w lo hi d) (hl : lo ≤ lo') : Lev lt w lo' hi d := fun i j h1 h2 h3 h4 => h i j (by omega) h2 h3 h4
theorem Lev.off {w lo hi a b : Nat} {d d' : Array α} (h : Lev lt w lo hi d) (hp : Sort.PermIn a b d d') (ho : hi ≤ a ∨ b ≤ lo) : Lev lt w lo hi d' := fun i j h1 h2 h3 h4 => by
  rw [hp.2.1 i (by omega), hp.2.1 j (by omega)]; exact h i j h1 h2 h3 h4
/-- A part that is in order is put behind. -/
theorem Lev.add {w t b : Nat} {d : Array α} (hw : 0 < w) (h : Lev lt w 0 (w * t) d) (hs : Sort.SortedIn lt (w * t) b d) : Lev lt w 0 b d := by
  intro i j h1 h2 h3 h4
  rcases Nat.lt_or_ge i (w * t) with hi | hi
  · rcases Nat.lt_or_ge j (w * t) with hj | hj
    · exact h i j h1 h2 hj h4
    · have k1 : i / w < t := Nat.div_lt_of_lt_mul hi
      have k2 : t ≤ j / w := (Nat.le_div_iff_mul_le hw).2 (by rw [Nat.mul_comm]; exact hj)
      omega
  · exact hs i j hi h2 h3
theorem Lev.part {w t lo hi n : Nat} {d : Array α} (hw : 0 < w) (h : Lev lt w lo n d) (hlo : lo ≤ w * t) (hhi : hi ≤ w * (t + 1)) (hn : hi ≤ n) : Sort.SortedIn lt (w * t) hi d := by
  intro i j h1 h2 h3
  refine h i j (by omega) h2 (by omega) ?_
  have e : ∀ x, w * t ≤ x → x < w * (t + 1) → x / w = t := fun x hx hx' => Nat.div_eq_of_lt_le (by rw [Nat.mul_comm]; exact hx) (by rw [Nat.mul_comm]; exact hx')
  rw [e i h1 (by omega), e j (by omega) (by omega)]
theorem Lev.all {w n : Nat} {d : Array α} (h : Lev lt w 0 n d) (hn : n ≤ w) : Sort.SortedIn lt 0 n d := fun i j h1 h2 h3 => h i j h1 h2 h3 (by rw [Nat.div_eq_of_lt (by omega), Nat.div_eq_of_lt (by omega)])
end
end Go.HL

set_option linter.unusedVariables false
set_option maxRecDepth 20000
namespace Go.Proofs
open Go Go.HL
-- 170 slices.symMergeCmpFunc[interpreter/frag.Piece]
section
variable (e : Env) (x0a : Option Addr) (x0n x0c : Nat) (x1 x2 x3 : Int) (x4 : Value) (x10 x11 x12 x13 x14 x15 x16 x17 x18 x19 x20 x21 x22 x23 x24 : Int) (hp : HP) (K : Env → PV → HP → Prop)
abbrev R170 (p : List Nat) (n : Nat) := RW Try.prog 220 [] (opsAt Try.f170 p) (List.range n)
theorem F170_r0 : R170 [1, 1, 0] 7 (upd (upd e 3 (sI x3)) 1 (sI x1)) V0 hp K =
    ((0 ≤ (1 : Int)) ∧ (K (upd (upd (upd (upd (upd (upd (upd (upd (upd e 3 (sI x3)) 1 (sI x1)) 129 (sI x1)) 130 (sI x3)) 131 (sI ((wr (x1 + x3))))) 132 (sV (.int .u64 (IntKind.wrap .u64 ((wr (x1 + x3))))))) 133 (sV (.int .u64 (Int.fdiv (IntKind.wrap .u64 ((wr (x1 + x3)))) (2 ^ (min (Int.toNat 1) (IntKind.bits .u64))))))) 134 (sI ((wr ((Int.fdiv (IntKind.wrap .u64 ((wr (x1 + x3)))) (2 ^ (min (Int.toNat 1) (IntKind.bits .u64))))))))) 18 (sI ((wr ((Int.fdiv (IntKind.wrap .u64 ((wr (x1 + x3)))) (2 ^ (min (Int.toNat 1) (IntKind.bits .u64))))))))) V0 hp)) := by kernel_rfl
theorem F170_r1 : R170 [1, 1, 1, 0] 4 (upd (upd e 18 (sI x18)) 2 (sI x2)) V0 hp K =
    (K (upd (upd (upd (upd (upd (upd e 18 (sI x18)) 2 (sI x2)) 135 (sI x18)) 136 (sI x2)) 137 (sI ((wr (x18 + x2))))) 19 (sI ((wr (x18 + x2))))) V0 hp) := by kernel_rfl
theorem F170_r2 : R170 [1, 1, 1, 1, 0] 2 e V0 hp K =
    (K (upd (upd e 20 (sI 0)) 21 (sI 0)) V0 hp) := by kernel_rfl
theorem F170_r3 : R170 [1, 1, 1, 1, 1, 1, 1, 1, 0] 4 (upd (upd e 20 (sI x20)) 19 (sI x19)) V0 hp K =
    (K (upd (upd (upd (upd (upd (upd e 20 (sI x20)) 19 (sI x19)) 175 (sI x19)) 176 (sI x20)) 177 (sI ((wr (x19 - x20))))) 24 (sI ((wr (x19 - x20))))) V0 hp) := by kernel_rfl
theorem F170_r4 : R170 [1, 1, 1, 1, 1, 1, 1, 1, 1, 1, 1, 1, 0] 6 (upd (upd (upd (upd (upd e 24 (sI x24)) 18 (sI x18)) 4 (sV x4)) 3 (sI x3)) 0 (sS x0a x0n x0c)) V0 hp K =
    (CF Try.prog 170 [(.slice x0a x0n x0c), (.int .i64 x18), (.int .i64 x24), (.int .i64 x3), x4] hp fun u1 h2 => (K (upd (upd (upd (upd (upd (upd (upd (upd (upd (upd (upd e 24 (sI x24)) 18 (sI x18)) 4 (sV x4)) 3 (sI x3)) 0 (sS x0a x0n x0c)) 214 (sS x0a x0n x0c)) 215 (sI x18)) 216 (sI x24)) 217 (sI x3)) 218 (sV x4)) 219 (sV u1)) V0 h2)) := by kernel_rfl
def F170_j8 (x0a : Option Addr) (x0n : Nat) (x0c : Nat) (x3 : Int) (x4 : Value) (x18 : Int) (x24 : Int) (x213 : Bool) (hp : HP) (K : Value → HP → Prop) : Prop :=
  (ite2 x213 (CF Try.prog 170 [(.slice x0a x0n x0c), (.int .i64 x18), (.int .i64 x24), (.int .i64 x3), x4] hp fun u_1 h_2 => (K (.tuple ⟨[]⟩) h_2)) (K (.tuple ⟨[]⟩) hp))
theorem F170_r5 : R170 [1, 1, 1, 1, 1, 1, 1, 1, 1, 1, 1, 0] 8 (upd (upd (upd e 24 (sI x24)) 18 (sI x18)) 3 (sI x3)) V0 hp K =
    (ite2 (decide (x18 < x24)) (K (upd (upd (upd (upd (upd (upd (upd (upd (upd (upd (upd e 24 (sI x24)) 18 (sI x18)) 3 (sI x3)) 206 (sI x18)) 207 (sI x24)) 208 (sB (decide (x18 < x24)))) 209 (sB true)) 210 (sI x24)) 211 (sI x3)) 212 (sB (decide (x24 < x3)))) 213 (sB (decide (x24 < x3)))) V0 hp) (K (upd (upd (upd (upd (upd (upd (upd (upd (upd (upd (upd e 24 (sI x24)) 18 (sI x18)) 3 (sI x3)) 206 (sI x18)) 207 (sI x24)) 208 (sB (decide (x18 < x24)))) 209 (sB false)) 210 sU) 211 sU) 212 sU) 213 (sB false)) V0 hp)) := by kernel_rfl
def F170_j7 (x0a : Option Addr) (x0n : Nat) (x0c : Nat) (x3 : Int) (x4 : Value) (x18 : Int) (x24 : Int) (hp : HP) (K : Value → HP → Prop) : Prop :=
  (ite2 (decide (x18 < x24)) (F170_j8 x0a x0n x0c x3 x4 x18 x24 (decide (x24 < x3)) hp  K) (F170_j8 x0a x0n x0c x3 x4 x18 x24 false hp  K))
theorem F170_r6 : R170 [1, 1, 1, 1, 1, 1, 1, 1, 1, 1, 0, 1, 0] 6 (upd (upd (upd (upd (upd e 20 (sI x20)) 18 (sI x18)) 4 (sV x4)) 1 (sI x1)) 0 (sS x0a x0n x0c)) V0 hp K =
    (CF Try.prog 170 [(.slice x0a x0n x0c), (.int .i64 x1), (.int .i64 x20), (.int .i64 x18), x4] hp fun u1 h2 => (K (upd (upd (upd (upd (upd (upd (upd (upd (upd (upd (upd e 20 (sI x20)) 18 (sI x18)) 4 (sV x4)) 1 (sI x1)) 0 (sS x0a x0n x0c)) 200 (sS x0a x0n x0c)) 201 (sI x1)) 202 (sI x20)) 203 (sI x18)) 204 (sV x4)) 205 (sV u1)) V0 h2)) := by kernel_rfl
def F170_j9 (x0a : Option Addr) (x0n : Nat) (x0c : Nat) (x1 : Int) (x3 : Int) (x4 : Value) (x18 : Int) (x20 : Int) (x24 : Int) (x199 : Bool) (hp : HP) (K : Value → HP → Prop) : Prop :=
  (ite2 x199 (CF Try.prog 170 [(.slice x0a x0n x0c), (.int .i64 x1), (.int .i64 x20), (.int .i64 x18), x4] hp fun u_3 h_4 => (F170_j7 x0a x0n x0c x3 x4 x18 x24 h_4  K)) (F170_j7 x0a x0n x0c x3 x4 x18 x24 hp  K))
theorem F170_r7 : R170 [1, 1, 1, 1, 1, 1, 1, 1, 1, 1, 0, 0] 8 (upd (upd (upd e 20 (sI x20)) 18 (sI x18)) 1 (sI x1)) V0 hp K =
    (ite2 (decide (x1 < x20)) (K (upd (upd (upd (upd (upd (upd (upd (upd (upd (upd (upd e 20 (sI x20)) 18 (sI x18)) 1 (sI x1)) 192 (sI x1)) 193 (sI x20)) 194 (sB (decide (x1 < x20)))) 195 (sB true)) 196 (sI x20)) 197 (sI x18)) 198 (sB (decide (x20 < x18)))) 199 (sB (decide (x20 < x18)))) V0 hp) (K (upd (upd (upd (upd (upd (upd (upd (upd (upd (upd (upd e 20 (sI x20)) 18 (sI x18)) 1 (sI x1)) 192 (sI x1)) 193 (sI x20)) 194 (sB (decide (x1 < x20)))) 195 (sB false)) 196 sU) 197 sU) 198 sU) 199 (sB false)) V0 hp)) := by kernel_rfl
def F170_j6 (x0a : Option Addr) (x0n : Nat) (x0c : Nat) (x1 : Int) (x3 : Int) (x4 : Value) (x18 : Int) (x20 : Int) (x24 : Int) (hp : HP) (K : Value → HP → Prop) : Prop :=
  (ite2 (decide (x1 < x20)) (F170_j9 x0a x0n x0c x1 x3 x4 x18 x20 x24 (decide (x20 < x18)) hp  K) (F170_j9 x0a x0n x0c x1 x3 x4 x18 x20 x24 false hp  K))
theorem F170_r8 : R170 [1, 1, 1, 1, 1, 1, 1, 1, 1, 0, 1, 0] 6 (upd (upd (upd (upd (upd e 24 (sI x24)) 20 (sI x20)) 4 (sV x4)) 2 (sI x2)) 0 (sS x0a x0n x0c)) V0 hp K =
    (CF Try.prog 188 [(.slice x0a x0n x0c), (.int .i64 x20), (.int .i64 x2), (.int .i64 x24), x4] hp fun u1 h2 => (K (upd (upd (upd (upd (upd (upd (upd (upd (upd (upd (upd e 24 (sI x24)) 20 (sI x20)) 4 (sV x4)) 2 (sI x2)) 0 (sS x0a x0n x0c)) 186 (sS x0a x0n x0c)) 187 (sI x20)) 188 (sI x2)) 189 (sI x24)) 190 (sV x4)) 191 (sV u1)) V0 h2)) := by kernel_rfl
def F170_j10 (x0a : Option Addr) (x0n : Nat) (x0c : Nat) (x1 : Int) (x2 : Int) (x3 : Int) (x4 : Value) (x18 : Int) (x20 : Int) (x24 : Int) (x185 : Bool) (hp : HP) (K : Value → HP → Prop) : Prop :=
  (ite2 x185 (CF Try.prog 188 [(.slice x0a x0n x0c), (.int .i64 x20), (.int .i64 x2), (.int .i64 x24), x4] hp fun u_5 h_6 => (F170_j6 x0a x0n x0c x1 x3 x4 x18 x20 x24 h_6  K)) (F170_j6 x0a x0n x0c x1 x3 x4 x18 x20 x24 hp  K))
theorem F170_r9 : R170 [1, 1, 1, 1, 1, 1, 1, 1, 1, 0, 0] 8 (upd (upd (upd e 24 (sI x24)) 20 (sI x20)) 2 (sI x2)) V0 hp K =
    (ite2 (decide (x20 < x2)) (K (upd (upd (upd (upd (upd (upd (upd (upd (upd (upd (upd e 24 (sI x24)) 20 (sI x20)) 2 (sI x2)) 178 (sI x20)) 179 (sI x2)) 180 (sB (decide (x20 < x2)))) 181 (sB true)) 182 (sI x2)) 183 (sI x24)) 184 (sB (decide (x2 < x24)))) 185 (sB (decide (x2 < x24)))) V0 hp) (K (upd (upd (upd (upd (upd (upd (upd (upd (upd (upd (upd e 24 (sI x24)) 20 (sI x20)) 2 (sI x2)) 178 (sI x20)) 179 (sI x2)) 180 (sB (decide (x20 < x2)))) 181 (sB false)) 182 sU) 183 sU) 184 sU) 185 (sB false)) V0 hp)) := by kernel_rfl
def F170_j5 (x0a : Option Addr) (x0n : Nat) (x0c : Nat) (x1 : Int) (x2 : Int) (x3 : Int) (x4 : Value) (x18 : Int) (x19 : Int) (x20 : Int) (hp : HP) (K : Value → HP → Prop) : Prop :=
  (ite2 (decide (x20 < x2)) (F170_j10 x0a x0n x0c x1 x2 x3 x4 x18 x20 (IntKind.wrap .i64 (x19 - x20)) (decide (x2 < (IntKind.wrap .i64 (x19 - x20)))) hp  K) (F170_j10 x0a x0n x0c x1 x2 x3 x4 x18 x20 (IntKind.wrap .i64 (x19 - x20)) false hp  K))
theorem F170_r10 : R170 [1, 1, 1, 1, 1, 1, 1, 0, 0, 0, 0, 0] 3 (upd (upd e 21 (sI x21)) 20 (sI x20)) V0 hp K =
    (K (upd (upd (upd (upd (upd e 21 (sI x21)) 20 (sI x20)) 149 (sI x20)) 150 (sI x21)) 151 (sB (decide (x20 < x21)))) V0 hp) := by kernel_rfl
theorem F170_r11 : R170 [1, 1, 1, 1, 1, 1, 1, 0, 0, 0, 1, 0, 0] 7 (upd (upd e 21 (sI x21)) 20 (sI x20)) V0 hp K =
    ((0 ≤ (1 : Int)) ∧ (K (upd (upd (upd (upd (upd (upd (upd (upd (upd e 21 (sI x21)) 20 (sI x20)) 152 (sI x20)) 153 (sI x21)) 154 (sI ((wr (x20 + x21))))) 155 (sV (.int .u64 (IntKind.wrap .u64 ((wr (x20 + x21))))))) 156 (sV (.int .u64 (Int.fdiv (IntKind.wrap .u64 ((wr (x20 + x21)))) (2 ^ (min (Int.toNat 1) (IntKind.bits .u64))))))) 157 (sI ((wr ((Int.fdiv (IntKind.wrap .u64 ((wr (x20 + x21)))) (2 ^ (min (Int.toNat 1) (IntKind.bits .u64))))))))) 23 (sI ((wr ((Int.fdiv (IntKind.wrap .u64 ((wr (x20 + x21)))) (2 ^ (min (Int.toNat 1) (IntKind.bits .u64))))))))) V0 hp)) := by kernel_rfl
theorem F170_r12 : R170 [1, 1, 1, 1, 1, 1, 1, 0, 0, 0, 1, 0, 1, 0] 14 (upd (upd (upd (upd e 23 (sI x23)) 22 (sI x22)) 4 (sV x4)) 0 (sS x0a x0n x0c)) V0 hp K =
    ((0 ≤ ((wr (x22 - x23)) : Int)) ∧ (((wr (x22 - x23)) : Int) < x0n) ∧ (ptrN x0a fun b1 o2 => (ldL (HP.cellN hp b1 (o2 + Int.toNat (wr (x22 - x23)) * 6) 6) fun l3 => ((0 ≤ x23) ∧ (x23 < x0n) ∧ (ptrN x0a fun b4 o5 => (ldL (HP.cellN hp b4 (o5 + Int.toNat x23 * 6) 6) fun l6 => (fnV x4 fun f7 ga8 gb9 => (CF Try.prog f7 (ga8 ++ [(Value.agg ⟨l3⟩), (.agg ⟨l6⟩)] ++ gb9) hp fun u10 h11 => (intV u10 .i64 fun i12 => (K (upd (upd (upd (upd (upd (upd (upd (upd (upd (upd (upd (upd (upd (upd (upd (upd (upd (upd e 23 (sI x23)) 22 (sI x22)) 4 (sV x4)) 0 (sS x0a x0n x0c)) 158 (sV x4)) 159 (sS x0a x0n x0c)) 160 (sI x22)) 161 (sI x23)) 162 (sI ((wr (x22 - x23))))) 163 (sV (ptr b1 (o2 + Int.toNat (wr (x22 - x23)) * 6)))) 164 (sA l3)) 165 (sS x0a x0n x0c)) 166 (sI x23)) 167 (sQ b4 (o5 + Int.toNat x23 * 6))) 168 (sA l6)) 169 (sI i12)) 170 (sB (decide (i12 < 0)))) 171 (sB ((!(decide (i12 < 0)))))) V0 h11)))))))))) := by kernel_rfl
theorem F170_r13 : R170 [1, 1, 1, 1, 1, 1, 1, 0, 0, 0, 1, 0, 1, 1, 0] 3 (upd e 23 (sI x23)) V0 hp K =
    (K (upd (upd (upd (upd e 23 (sI x23)) 172 (sI x23)) 173 (sI ((wr (x23 + 1))))) 20 (sI ((wr (x23 + 1))))) V0 hp) := by kernel_rfl
theorem F170_r14 : R170 [1, 1, 1, 1, 1, 1, 1, 0, 0, 0, 1, 0, 1, 1, 1] 2 (upd e 23 (sI x23)) V0 hp K =
    (K (upd (upd (upd e 23 (sI x23)) 174 (sI x23)) 21 (sI x23)) V0 hp) := by kernel_rfl
def F170_l11 (x0a : Option Addr) (x0n : Nat) (x0c : Nat) (x1 : Int) (x2 : Int) (x3 : Int) (x4 : Value) (x18 : Int) (x19 : Int) (x22 : Int) (K : Value → HP → Prop) (I11 : (Int × Int) → HP → Prop) (x20 : Int) (x21 : Int) (hp : HP) : Prop :=
  (ite2 (decide (x20 < x21)) ((0 ≤ (1 : Int)) ∧ ((0 ≤ ((IntKind.wrap .i64 (x22 - (IntKind.wrap .i64 ((Int.fdiv (IntKind.wrap .u64 ((IntKind.wrap .i64 (x20 + x21)))) (2 ^ (min (Int.toNat 1) (IntKind.bits .u64)))))))) : Int)) ∧ (((IntKind.wrap .i64 (x22 - (IntKind.wrap .i64 ((Int.fdiv (IntKind.wrap .u64 ((IntKind.wrap .i64 (x20 + x21)))) (2 ^ (min (Int.toNat 1) (IntKind.bits .u64)))))))) : Int) < x0n) ∧ (ptrN x0a fun b_7 o_8 => (ldL (HP.cellN hp b_7 (o_8 + Int.toNat (IntKind.wrap .i64 (x22 - (IntKind.wrap .i64 ((Int.fdiv (IntKind.wrap .u64 ((IntKind.wrap .i64 (x20 + x21)))) (2 ^ (min (Int.toNat 1) (IntKind.bits .u64)))))))) * 6) 6) fun l_9 => ((0 ≤ ((IntKind.wrap .i64 ((Int.fdiv (IntKind.wrap .u64 ((IntKind.wrap .i64 (x20 + x21)))) (2 ^ (min (Int.toNat 1) (IntKind.bits .u64)))))) : Int)) ∧ (((IntKind.wrap .i64 ((Int.fdiv (IntKind.wrap .u64 ((IntKind.wrap .i64 (x20 + x21)))) (2 ^ (min (Int.toNat 1) (IntKind.bits .u64)))))) : Int) < x0n) ∧ (ptrN x0a fun b_10 o_11 => (ldL (HP.cellN hp b_10 (o_11 + Int.toNat (IntKind.wrap .i64 ((Int.fdiv (IntKind.wrap .u64 ((IntKind.wrap .i64 (x20 + x21)))) (2 ^ (min (Int.toNat 1) (IntKind.bits .u64)))))) * 6) 6) fun l_12 => (fnV x4 fun f_13 ga_14 gb_15 => (CF Try.prog f_13 (ga_14 ++ [(Value.agg ⟨l_9⟩), (.agg ⟨l_12⟩)] ++ gb_15) hp fun u_16 h_17 => (intV u_16 .i64 fun i_18 => (ite2 (!(decide (i_18 < 0))) (I11 ((IntKind.wrap .i64 ((IntKind.wrap .i64 ((Int.fdiv (IntKind.wrap .u64 ((IntKind.wrap .i64 (x20 + x21)))) (2 ^ (min (Int.toNat 1) (IntKind.bits .u64)))))) + 1)), x21) h_17) (I11 (x20, (IntKind.wrap .i64 ((Int.fdiv (IntKind.wrap .u64 ((IntKind.wrap .i64 (x20 + x21)))) (2 ^ (min (Int.toNat 1) (IntKind.bits .u64))))))) h_17)))))))))))) (F170_j5 x0a x0n x0c x1 x2 x3 x4 x18 x19 x20 hp  K))
def F170_j4 (x0a : Option Addr) (x0n : Nat) (x0c : Nat) (x1 : Int) (x2 : Int) (x3 : Int) (x4 : Value) (x18 : Int) (x19 : Int) (x20 : Int) (x21 : Int) (x22 : Int) (hp : HP) (K : Value → HP → Prop) : Prop :=
  (LoopP (σ := Int × Int) (fun I s hp => F170_l11 x0a x0n x0c x1 x2 x3 x4 x18 x19 x22  K I s.1 s.2 hp) (x20, x21) hp)
theorem F170_r15 : R170 [1, 1, 1, 1, 1, 1, 0] 3 (upd e 19 (sI x19)) V0 hp K =
    (K (upd (upd (upd (upd e 19 (sI x19)) 147 (sI x19)) 148 (sI ((wr (x19 - 1))))) 22 (sI ((wr (x19 - 1))))) V0 hp) := by kernel_rfl
def F170_j3 (x0a : Option Addr) (x0n : Nat) (x0c : Nat) (x1 : Int) (x2 : Int) (x3 : Int) (x4 : Value) (x18 : Int) (x19 : Int) (x20 : Int) (x21 : Int) (hp : HP) (K : Value → HP → Prop) : Prop :=
  (F170_j4 x0a x0n x0c x1 x2 x3 x4 x18 x19 x20 x21 (IntKind.wrap .i64 (x19 - 1)) hp  K)
theorem F170_r16 : R170 [1, 1, 1, 1, 1, 0, 0] 3 (upd (upd e 18 (sI x18)) 2 (sI x2)) V0 hp K =
    (K (upd (upd (upd (upd (upd e 18 (sI x18)) 2 (sI x2)) 138 (sI x2)) 139 (sI x18)) 140 (sB (decide (x2 > x18)))) V0 hp) := by kernel_rfl
theorem F170_r17 : R170 [1, 1, 1, 1, 1, 0, 1, 0, 0] 4 (upd (upd e 19 (sI x19)) 3 (sI x3)) V0 hp K =
    (K (upd (upd (upd (upd (upd (upd e 19 (sI x19)) 3 (sI x3)) 141 (sI x19)) 142 (sI x3)) 143 (sI ((wr (x19 - x3))))) 20 (sI ((wr (x19 - x3))))) V0 hp) := by kernel_rfl
theorem F170_r18 : R170 [1, 1, 1, 1, 1, 0, 1, 0, 1] 2 (upd e 18 (sI x18)) V0 hp K =
    (K (upd (upd (upd e 18 (sI x18)) 144 (sI x18)) 21 (sI x18)) V0 hp) := by kernel_rfl
theorem F170_r19 : R170 [1, 1, 1, 1, 1, 0, 1, 1, 0] 2 (upd e 1 (sI x1)) V0 hp K =
    (K (upd (upd (upd e 1 (sI x1)) 145 (sI x1)) 20 (sI x1)) V0 hp) := by kernel_rfl
theorem F170_r20 : R170 [1, 1, 1, 1, 1, 0, 1, 1, 1] 2 (upd e 2 (sI x2)) V0 hp K =
    (K (upd (upd (upd e 2 (sI x2)) 146 (sI x2)) 21 (sI x2)) V0 hp) := by kernel_rfl
def F170_j2 (x0a : Option Addr) (x0n : Nat) (x0c : Nat) (x1 : Int) (x2 : Int) (x3 : Int) (x4 : Value) (hp : HP) (K : Value → HP → Prop) : Prop :=
  ((0 ≤ (1 : Int)) ∧ (ite2 (decide (x2 > (IntKind.wrap .i64 ((Int.fdiv (IntKind.wrap .u64 ((IntKind.wrap .i64 (x1 + x3)))) (2 ^ (min (Int.toNat 1) (IntKind.bits .u64)))))))) (F170_j3 x0a x0n x0c x1 x2 x3 x4 (IntKind.wrap .i64 ((Int.fdiv (IntKind.wrap .u64 ((IntKind.wrap .i64 (x1 + x3)))) (2 ^ (min (Int.toNat 1) (IntKind.bits .u64)))))) (IntKind.wrap .i64 ((IntKind.wrap .i64 ((Int.fdiv (IntKind.wrap .u64 ((IntKind.wrap .i64 (x1 + x3)))) (2 ^ (min (Int.toNat 1) (IntKind.bits .u64)))))) + x2)) (IntKind.wrap .i64 ((IntKind.wrap .i64 ((IntKind.wrap .i64 ((Int.fdiv (IntKind.wrap .u64 ((IntKind.wrap .i64 (x1 + x3)))) (2 ^ (min (Int.toNat 1) (IntKind.bits .u64)))))) + x2)) - x3)) (IntKind.wrap .i64 ((Int.fdiv (IntKind.wrap .u64 ((IntKind.wrap .i64 (x1 + x3)))) (2 ^ (min (Int.toNat 1) (IntKind.bits .u64)))))) hp  K) (F170_j3 x0a x0n x0c x1 x2 x3 x4 (IntKind.wrap .i64 ((Int.fdiv (IntKind.wrap .u64 ((IntKind.wrap .i64 (x1 + x3)))) (2 ^ (min (Int.toNat 1) (IntKind.bits .u64)))))) (IntKind.wrap .i64 ((IntKind.wrap .i64 ((Int.fdiv (IntKind.wrap .u64 ((IntKind.wrap .i64 (x1 + x3)))) (2 ^ (min (Int.toNat 1) (IntKind.bits .u64)))))) + x2)) x1 x2 hp  K)))
theorem F170_r21 : R170 [1, 0, 0] 4 (upd (upd e 3 (sI x3)) 2 (sI x2)) V0 hp K =
    (K (upd (upd (upd (upd (upd (upd e 3 (sI x3)) 2 (sI x2)) 77 (sI x3)) 78 (sI x2)) 79 (sI ((wr (x3 - x2))))) 80 (sB ((((wr (x3 - x2)) : Int) == 1)))) V0 hp) := by kernel_rfl
theorem F170_r22 : R170 [1, 0, 1, 0, 0] 2 (upd e 1 (sI x1)) V0 hp K =
    (K (upd (upd (upd e 1 (sI x1)) 81 (sI x1)) 14 (sI x1)) V0 hp) := by kernel_rfl
theorem F170_r23 : R170 [1, 0, 1, 0, 1, 1, 1, 0, 1, 0, 0, 0, 0] 3 (upd (upd e 17 (sI x17)) 14 (sI x14)) V0 hp K =
    (K (upd (upd (upd (upd (upd e 17 (sI x17)) 14 (sI x14)) 108 (sI x17)) 109 (sI x14)) 110 (sB (decide (x17 > x14)))) V0 hp) := by kernel_rfl
theorem F170_r24 : R170 [1, 0, 1, 0, 1, 1, 1, 0, 1, 0, 0, 1, 0, 0] 18 (upd (upd e 17 (sI x17)) 0 (sS x0a x0n x0c)) V0 hp K =
    ((0 ≤ ((wr (x17 - 1)) : Int)) ∧ (((wr (x17 - 1)) : Int) < x0n) ∧ (ptrN x0a fun b1 o2 => (ldL (HP.cellN hp b1 (o2 + Int.toNat (wr (x17 - 1)) * 6) 6) fun l3 => ((0 ≤ x17) ∧ (x17 < x0n) ∧ (ptrN x0a fun b4 o5 => (ldL (HP.cellN hp b4 (o5 + Int.toNat x17 * 6) 6) fun l6 => ((0 ≤ x17) ∧ (x17 < x0n) ∧ (ptrN x0a fun b7 o8 => ((List.length l3 = 6) ∧ (HP.stN hp b7 (o8 + Int.toNat x17 * 6) l3 fun h9 => ((0 ≤ ((wr (x17 - 1)) : Int)) ∧ (((wr (x17 - 1)) : Int) < x0n) ∧ (ptrN x0a fun b10 o11 => ((List.length l6 = 6) ∧ (HP.stN h9 b10 (o11 + Int.toNat (wr (x17 - 1)) * 6) l6 fun h12 => (K (upd (upd (upd (upd (upd (upd (upd (upd (upd (upd (upd (upd (upd (upd (upd (upd (upd (upd e 17 (sI x17)) 0 (sS x0a x0n x0c)) 113 (sS x0a x0n x0c)) 114 (sI x17)) 115 (sS x0a x0n x0c)) 116 (sI x17)) 117 (sI ((wr (x17 - 1))))) 118 (sS x0a x0n x0c)) 119 (sI x17)) 120 (sI ((wr (x17 - 1))))) 121 (sV (ptr b1 (o2 + Int.toNat (wr (x17 - 1)) * 6)))) 122 (sA l3)) 123 (sS x0a x0n x0c)) 124 (sI x17)) 125 (sQ b4 (o5 + Int.toNat x17 * 6))) 126 (sA l6)) 127 (sQ b7 (o8 + Int.toNat x17 * 6))) 128 (sV (ptr b10 (o11 + Int.toNat (wr (x17 - 1)) * 6)))) V0 h12))))))))))))))) := by kernel_rfl
theorem F170_r25 : R170 [1, 0, 1, 0, 1, 1, 1, 0, 1, 0, 0, 1, 1] 3 (upd e 17 (sI x17)) V0 hp K =
    (K (upd (upd (upd (upd e 17 (sI x17)) 111 (sI x17)) 112 (sI ((wr (x17 - 1))))) 17 (sI ((wr (x17 - 1))))) V0 hp) := by kernel_rfl
def F170_l15 (x0a : Option Addr) (x0n : Nat) (x0c : Nat) (x14 : Int) (K : Value → HP → Prop) (I15 : (Int) → HP → Prop) (x17 : Int) (hp : HP) : Prop :=
  (ite2 (decide (x17 > x14)) ((0 ≤ ((IntKind.wrap .i64 (x17 - 1)) : Int)) ∧ (((IntKind.wrap .i64 (x17 - 1)) : Int) < x0n) ∧ (ptrN x0a fun b_19 o_20 => (ldL (HP.cellN hp b_19 (o_20 + Int.toNat (IntKind.wrap .i64 (x17 - 1)) * 6) 6) fun l_21 => ((0 ≤ x17) ∧ (x17 < x0n) ∧ (ptrN x0a fun b_22 o_23 => (ldL (HP.cellN hp b_22 (o_23 + Int.toNat x17 * 6) 6) fun l_24 => ((0 ≤ x17) ∧ (x17 < x0n) ∧ (ptrN x0a fun b_25 o_26 => ((List.length l_21 = 6) ∧ (HP.stN hp b_25 (o_26 + Int.toNat x17 * 6) l_21 fun h_27 => ((0 ≤ ((IntKind.wrap .i64 (x17 - 1)) : Int)) ∧ (((IntKind.wrap .i64 (x17 - 1)) : Int) < x0n) ∧ (ptrN x0a fun b_28 o_29 => ((List.length l_24 = 6) ∧ (HP.stN h_27 b_28 (o_29 + Int.toNat (IntKind.wrap .i64 (x17 - 1)) * 6) l_24 fun h_30 => (I15 (IntKind.wrap .i64 (x17 - 1)) h_30))))))))))))))) (K (.tuple ⟨[]⟩) hp))
def F170_j14 (x0a : Option Addr) (x0n : Nat) (x0c : Nat) (x14 : Int) (x17 : Int) (hp : HP) (K : Value → HP → Prop) : Prop :=
  (LoopP (σ := Int) (fun I s hp => F170_l15 x0a x0n x0c x14  K I s hp) x17 hp)
theorem F170_r26 : R170 [1, 0, 1, 0, 1, 1, 1, 0, 0] 2 (upd e 2 (sI x2)) V0 hp K =
    (K (upd (upd (upd e 2 (sI x2)) 107 (sI x2)) 17 (sI x2)) V0 hp) := by kernel_rfl
def F170_j13 (x0a : Option Addr) (x0n : Nat) (x0c : Nat) (x2 : Int) (x14 : Int) (hp : HP) (K : Value → HP → Prop) : Prop :=
  (F170_j14 x0a x0n x0c x14 x2 hp  K)
theorem F170_r27 : R170 [1, 0, 1, 0, 1, 1, 0, 0, 0, 0, 0] 3 (upd (upd e 15 (sI x15)) 14 (sI x14)) V0 hp K =
    (K (upd (upd (upd (upd (upd e 15 (sI x15)) 14 (sI x14)) 83 (sI x14)) 84 (sI x15)) 85 (sB (decide (x14 < x15)))) V0 hp) := by kernel_rfl
theorem F170_r28 : R170 [1, 0, 1, 0, 1, 1, 0, 0, 0, 1, 0, 0] 7 (upd (upd e 15 (sI x15)) 14 (sI x14)) V0 hp K =
    ((0 ≤ (1 : Int)) ∧ (K (upd (upd (upd (upd (upd (upd (upd (upd (upd e 15 (sI x15)) 14 (sI x14)) 86 (sI x14)) 87 (sI x15)) 88 (sI ((wr (x14 + x15))))) 89 (sV (.int .u64 (IntKind.wrap .u64 ((wr (x14 + x15))))))) 90 (sV (.int .u64 (Int.fdiv (IntKind.wrap .u64 ((wr (x14 + x15)))) (2 ^ (min (Int.toNat 1) (IntKind.bits .u64))))))) 91 (sI ((wr ((Int.fdiv (IntKind.wrap .u64 ((wr (x14 + x15)))) (2 ^ (min (Int.toNat 1) (IntKind.bits .u64))))))))) 16 (sI ((wr ((Int.fdiv (IntKind.wrap .u64 ((wr (x14 + x15)))) (2 ^ (min (Int.toNat 1) (IntKind.bits .u64))))))))) V0 hp)) := by kernel_rfl
theorem F170_r29 : R170 [1, 0, 1, 0, 1, 1, 0, 0, 0, 1, 0, 1, 0] 12 (upd (upd (upd (upd e 16 (sI x16)) 4 (sV x4)) 2 (sI x2)) 0 (sS x0a x0n x0c)) V0 hp K =
    ((0 ≤ x2) ∧ (x2 < x0n) ∧ (ptrN x0a fun b1 o2 => (ldL (HP.cellN hp b1 (o2 + Int.toNat x2 * 6) 6) fun l3 => ((0 ≤ x16) ∧ (x16 < x0n) ∧ (ptrN x0a fun b4 o5 => (ldL (HP.cellN hp b4 (o5 + Int.toNat x16 * 6) 6) fun l6 => (fnV x4 fun f7 ga8 gb9 => (CF Try.prog f7 (ga8 ++ [(Value.agg ⟨l3⟩), (.agg ⟨l6⟩)] ++ gb9) hp fun u10 h11 => (intV u10 .i64 fun i12 => (K (upd (upd (upd (upd (upd (upd (upd (upd (upd (upd (upd (upd (upd (upd (upd (upd e 16 (sI x16)) 4 (sV x4)) 2 (sI x2)) 0 (sS x0a x0n x0c)) 92 (sV x4)) 93 (sS x0a x0n x0c)) 94 (sI x2)) 95 (sQ b1 (o2 + Int.toNat x2 * 6))) 96 (sA l3)) 97 (sS x0a x0n x0c)) 98 (sI x16)) 99 (sQ b4 (o5 + Int.toNat x16 * 6))) 100 (sA l6)) 101 (sI i12)) 102 (sB (decide (i12 < 0)))) 103 (sB ((!(decide (i12 < 0)))))) V0 h11)))))))))) := by kernel_rfl
theorem F170_r30 : R170 [1, 0, 1, 0, 1, 1, 0, 0, 0, 1, 0, 1, 1, 0] 3 (upd e 16 (sI x16)) V0 hp K =
    (K (upd (upd (upd (upd e 16 (sI x16)) 104 (sI x16)) 105 (sI ((wr (x16 + 1))))) 14 (sI ((wr (x16 + 1))))) V0 hp) := by kernel_rfl
theorem F170_r31 : R170 [1, 0, 1, 0, 1, 1, 0, 0, 0, 1, 0, 1, 1, 1] 2 (upd e 16 (sI x16)) V0 hp K =
    (K (upd (upd (upd e 16 (sI x16)) 106 (sI x16)) 15 (sI x16)) V0 hp) := by kernel_rfl
def F170_l16 (x0a : Option Addr) (x0n : Nat) (x0c : Nat) (x2 : Int) (x4 : Value) (K : Value → HP → Prop) (I16 : (Int × Int) → HP → Prop) (x14 : Int) (x15 : Int) (hp : HP) : Prop :=
  (ite2 (decide (x14 < x15)) ((0 ≤ (1 : Int)) ∧ ((0 ≤ x2) ∧ (x2 < x0n) ∧ (ptrN x0a fun b_31 o_32 => (ldL (HP.cellN hp b_31 (o_32 + Int.toNat x2 * 6) 6) fun l_33 => ((0 ≤ ((IntKind.wrap .i64 ((Int.fdiv (IntKind.wrap .u64 ((IntKind.wrap .i64 (x14 + x15)))) (2 ^ (min (Int.toNat 1) (IntKind.bits .u64)))))) : Int)) ∧ (((IntKind.wrap .i64 ((Int.fdiv (IntKind.wrap .u64 ((IntKind.wrap .i64 (x14 + x15)))) (2 ^ (min (Int.toNat 1) (IntKind.bits .u64)))))) : Int) < x0n) ∧ (ptrN x0a fun b_34 o_35 => (ldL (HP.cellN hp b_34 (o_35 + Int.toNat (IntKind.wrap .i64 ((Int.fdiv (IntKind.wrap .u64 ((IntKind.wrap .i64 (x14 + x15)))) (2 ^ (min (Int.toNat 1) (IntKind.bits .u64)))))) * 6) 6) fun l_36 => (fnV x4 fun f_37 ga_38 gb_39 => (CF Try.prog f_37 (ga_38 ++ [(Value.agg ⟨l_33⟩), (.agg ⟨l_36⟩)] ++ gb_39) hp fun u_40 h_41 => (intV u_40 .i64 fun i_42 => (ite2 (!(decide (i_42 < 0))) (I16 ((IntKind.wrap .i64 ((IntKind.wrap .i64 ((Int.fdiv (IntKind.wrap .u64 ((IntKind.wrap .i64 (x14 + x15)))) (2 ^ (min (Int.toNat 1) (IntKind.bits .u64)))))) + 1)), x15) h_41) (I16 (x14, (IntKind.wrap .i64 ((Int.fdiv (IntKind.wrap .u64 ((IntKind.wrap .i64 (x14 + x15)))) (2 ^ (min (Int.toNat 1) (IntKind.bits .u64))))))) h_41)))))))))))) (F170_j13 x0a x0n x0c x2 x14 hp  K))
def F170_j12 (x0a : Option Addr) (x0n : Nat) (x0c : Nat) (x2 : Int) (x4 : Value) (x14 : Int) (x15 : Int) (hp : HP) (K : Value → HP → Prop) : Prop :=
  (LoopP (σ := Int × Int) (fun I s hp => F170_l16 x0a x0n x0c x2 x4  K I s.1 s.2 hp) (x14, x15) hp)
theorem F170_r32 : R170 [1, 0, 1, 0, 1, 0] 2 (upd e 2 (sI x2)) V0 hp K =
    (K (upd (upd (upd e 2 (sI x2)) 82 (sI x2)) 15 (sI x2)) V0 hp) := by kernel_rfl
def F170_j1 (x0a : Option Addr) (x0n : Nat) (x0c : Nat) (x1 : Int) (x2 : Int) (x3 : Int) (x4 : Value) (hp : HP) (K : Value → HP → Prop) : Prop :=
  (ite2 (((IntKind.wrap .i64 (x3 - x2)) : Int) == 1) (F170_j12 x0a x0n x0c x2 x4 x1 x2 hp  K) (F170_j2 x0a x0n x0c x1 x2 x3 x4 hp  K))
theorem F170_r33 : R170 [0, 0] 4 (upd (upd e 2 (sI x2)) 1 (sI x1)) V0 hp K =
    (K (upd (upd (upd (upd (upd (upd e 2 (sI x2)) 1 (sI x1)) 25 (sI x2)) 26 (sI x1)) 27 (sI ((wr (x2 - x1))))) 28 (sB ((((wr (x2 - x1)) : Int) == 1)))) V0 hp) := by kernel_rfl
theorem F170_r34 : R170 [0, 1, 0, 0] 2 (upd e 2 (sI x2)) V0 hp K =
    (K (upd (upd (upd e 2 (sI x2)) 29 (sI x2)) 10 (sI x2)) V0 hp) := by kernel_rfl
theorem F170_r35 : R170 [0, 1, 0, 1, 1, 1, 0, 1, 0, 0, 0, 0] 4 (upd (upd e 13 (sI x13)) 10 (sI x10)) V0 hp K =
    (K (upd (upd (upd (upd (upd (upd e 13 (sI x13)) 10 (sI x10)) 55 (sI x13)) 56 (sI x10)) 57 (sI ((wr (x10 - 1))))) 58 (sB ((decide (x13 < (wr (x10 - 1))))))) V0 hp) := by kernel_rfl
theorem F170_r36 : R170 [0, 1, 0, 1, 1, 1, 0, 1, 0, 0, 1, 0, 0] 18 (upd (upd e 13 (sI x13)) 0 (sS x0a x0n x0c)) V0 hp K =
    ((0 ≤ ((wr (x13 + 1)) : Int)) ∧ (((wr (x13 + 1)) : Int) < x0n) ∧ (ptrN x0a fun b1 o2 => (ldL (HP.cellN hp b1 (o2 + Int.toNat (wr (x13 + 1)) * 6) 6) fun l3 => ((0 ≤ x13) ∧ (x13 < x0n) ∧ (ptrN x0a fun b4 o5 => (ldL (HP.cellN hp b4 (o5 + Int.toNat x13 * 6) 6) fun l6 => ((0 ≤ x13) ∧ (x13 < x0n) ∧ (ptrN x0a fun b7 o8 => ((List.length l3 = 6) ∧ (HP.stN hp b7 (o8 + Int.toNat x13 * 6) l3 fun h9 => ((0 ≤ ((wr (x13 + 1)) : Int)) ∧ (((wr (x13 + 1)) : Int) < x0n) ∧ (ptrN x0a fun b10 o11 => ((List.length l6 = 6) ∧ (HP.stN h9 b10 (o11 + Int.toNat (wr (x13 + 1)) * 6) l6 fun h12 => (K (upd (upd (upd (upd (upd (upd (upd (upd (upd (upd (upd (upd (upd (upd (upd (upd (upd (upd e 13 (sI x13)) 0 (sS x0a x0n x0c)) 61 (sS x0a x0n x0c)) 62 (sI x13)) 63 (sS x0a x0n x0c)) 64 (sI x13)) 65 (sI ((wr (x13 + 1))))) 66 (sS x0a x0n x0c)) 67 (sI x13)) 68 (sI ((wr (x13 + 1))))) 69 (sV (ptr b1 (o2 + Int.toNat (wr (x13 + 1)) * 6)))) 70 (sA l3)) 71 (sS x0a x0n x0c)) 72 (sI x13)) 73 (sQ b4 (o5 + Int.toNat x13 * 6))) 74 (sA l6)) 75 (sQ b7 (o8 + Int.toNat x13 * 6))) 76 (sV (ptr b10 (o11 + Int.toNat (wr (x13 + 1)) * 6)))) V0 h12))))))))))))))) := by kernel_rfl
theorem F170_r37 : R170 [0, 1, 0, 1, 1, 1, 0, 1, 0, 0, 1, 1] 3 (upd e 13 (sI x13)) V0 hp K =
    (K (upd (upd (upd (upd e 13 (sI x13)) 59 (sI x13)) 60 (sI ((wr (x13 + 1))))) 13 (sI ((wr (x13 + 1))))) V0 hp) := by kernel_rfl
def F170_l20 (x0a : Option Addr) (x0n : Nat) (x0c : Nat) (x10 : Int) (K : Value → HP → Prop) (I20 : (Int) → HP → Prop) (x13 : Int) (hp : HP) : Prop :=
  (ite2 (decide (x13 < (IntKind.wrap .i64 (x10 - 1)))) ((0 ≤ ((IntKind.wrap .i64 (x13 + 1)) : Int)) ∧ (((IntKind.wrap .i64 (x13 + 1)) : Int) < x0n) ∧ (ptrN x0a fun b_43 o_44 => (ldL (HP.cellN hp b_43 (o_44 + Int.toNat (IntKind.wrap .i64 (x13 + 1)) * 6) 6) fun l_45 => ((0 ≤ x13) ∧ (x13 < x0n) ∧ (ptrN x0a fun b_46 o_47 => (ldL (HP.cellN hp b_46 (o_47 + Int.toNat x13 * 6) 6) fun l_48 => ((0 ≤ x13) ∧ (x13 < x0n) ∧ (ptrN x0a fun b_49 o_50 => ((List.length l_45 = 6) ∧ (HP.stN hp b_49 (o_50 + Int.toNat x13 * 6) l_45 fun h_51 => ((0 ≤ ((IntKind.wrap .i64 (x13 + 1)) : Int)) ∧ (((IntKind.wrap .i64 (x13 + 1)) : Int) < x0n) ∧ (ptrN x0a fun b_52 o_53 => ((List.length l_48 = 6) ∧ (HP.stN h_51 b_52 (o_53 + Int.toNat (IntKind.wrap .i64 (x13 + 1)) * 6) l_48 fun h_54 => (I20 (IntKind.wrap .i64 (x13 + 1)) h_54))))))))))))))) (K (.tuple ⟨[]⟩) hp))
def F170_j19 (x0a : Option Addr) (x0n : Nat) (x0c : Nat) (x10 : Int) (x13 : Int) (hp : HP) (K : Value → HP → Prop) : Prop :=
  (LoopP (σ := Int) (fun I s hp => F170_l20 x0a x0n x0c x10  K I s hp) x13 hp)
theorem F170_r38 : R170 [0, 1, 0, 1, 1, 1, 0, 0] 2 (upd e 1 (sI x1)) V0 hp K =
    (K (upd (upd (upd e 1 (sI x1)) 54 (sI x1)) 13 (sI x1)) V0 hp) := by kernel_rfl
def F170_j18 (x0a : Option Addr) (x0n : Nat) (x0c : Nat) (x1 : Int) (x10 : Int) (hp : HP) (K : Value → HP → Prop) : Prop :=
  (F170_j19 x0a x0n x0c x10 x1 hp  K)
theorem F170_r39 : R170 [0, 1, 0, 1, 1, 0, 0, 0, 0, 0] 3 (upd (upd e 11 (sI x11)) 10 (sI x10)) V0 hp K =
    (K (upd (upd (upd (upd (upd e 11 (sI x11)) 10 (sI x10)) 31 (sI x10)) 32 (sI x11)) 33 (sB (decide (x10 < x11)))) V0 hp) := by kernel_rfl
theorem F170_r40 : R170 [0, 1, 0, 1, 1, 0, 0, 0, 1, 0, 0] 7 (upd (upd e 11 (sI x11)) 10 (sI x10)) V0 hp K =
    ((0 ≤ (1 : Int)) ∧ (K (upd (upd (upd (upd (upd (upd (upd (upd (upd e 11 (sI x11)) 10 (sI x10)) 34 (sI x10)) 35 (sI x11)) 36 (sI ((wr (x10 + x11))))) 37 (sV (.int .u64 (IntKind.wrap .u64 ((wr (x10 + x11))))))) 38 (sV (.int .u64 (Int.fdiv (IntKind.wrap .u64 ((wr (x10 + x11)))) (2 ^ (min (Int.toNat 1) (IntKind.bits .u64))))))) 39 (sI ((wr ((Int.fdiv (IntKind.wrap .u64 ((wr (x10 + x11)))) (2 ^ (min (Int.toNat 1) (IntKind.bits .u64))))))))) 12 (sI ((wr ((Int.fdiv (IntKind.wrap .u64 ((wr (x10 + x11)))) (2 ^ (min (Int.toNat 1) (IntKind.bits .u64))))))))) V0 hp)) := by kernel_rfl
theorem F170_r41 : R170 [0, 1, 0, 1, 1, 0, 0, 0, 1, 0, 1, 0] 11 (upd (upd (upd (upd e 12 (sI x12)) 4 (sV x4)) 1 (sI x1)) 0 (sS x0a x0n x0c)) V0 hp K =
    ((0 ≤ x12) ∧ (x12 < x0n) ∧ (ptrN x0a fun b1 o2 => (ldL (HP.cellN hp b1 (o2 + Int.toNat x12 * 6) 6) fun l3 => ((0 ≤ x1) ∧ (x1 < x0n) ∧ (ptrN x0a fun b4 o5 => (ldL (HP.cellN hp b4 (o5 + Int.toNat x1 * 6) 6) fun l6 => (fnV x4 fun f7 ga8 gb9 => (CF Try.prog f7 (ga8 ++ [(Value.agg ⟨l3⟩), (.agg ⟨l6⟩)] ++ gb9) hp fun u10 h11 => (intV u10 .i64 fun i12 => (K (upd (upd (upd (upd (upd (upd (upd (upd (upd (upd (upd (upd (upd (upd (upd e 12 (sI x12)) 4 (sV x4)) 1 (sI x1)) 0 (sS x0a x0n x0c)) 40 (sV x4)) 41 (sS x0a x0n x0c)) 42 (sI x12)) 43 (sQ b1 (o2 + Int.toNat x12 * 6))) 44 (sA l3)) 45 (sS x0a x0n x0c)) 46 (sI x1)) 47 (sQ b4 (o5 + Int.toNat x1 * 6))) 48 (sA l6)) 49 (sI i12)) 50 (sB (decide (i12 < 0)))) V0 h11)))))))))) := by kernel_rfl
theorem F170_r42 : R170 [0, 1, 0, 1, 1, 0, 0, 0, 1, 0, 1, 1, 0] 3 (upd e 12 (sI x12)) V0 hp K =
    (K (upd (upd (upd (upd e 12 (sI x12)) 51 (sI x12)) 52 (sI ((wr (x12 + 1))))) 10 (sI ((wr (x12 + 1))))) V0 hp) := by kernel_rfl
theorem F170_r43 : R170 [0, 1, 0, 1, 1, 0, 0, 0, 1, 0, 1, 1, 1] 2 (upd e 12 (sI x12)) V0 hp K =
    (K (upd (upd (upd e 12 (sI x12)) 53 (sI x12)) 11 (sI x12)) V0 hp) := by kernel_rfl
def F170_l21 (x0a : Option Addr) (x0n : Nat) (x0c : Nat) (x1 : Int) (x4 : Value) (K : Value → HP → Prop) (I21 : (Int × Int) → HP → Prop) (x10 : Int) (x11 : Int) (hp : HP) : Prop :=
  (ite2 (decide (x10 < x11)) ((0 ≤ (1 : Int)) ∧ ((0 ≤ ((IntKind.wrap .i64 ((Int.fdiv (IntKind.wrap .u64 ((IntKind.wrap .i64 (x10 + x11)))) (2 ^ (min (Int.toNat 1) (IntKind.bits .u64)))))) : Int)) ∧ (((IntKind.wrap .i64 ((Int.fdiv (IntKind.wrap .u64 ((IntKind.wrap .i64 (x10 + x11)))) (2 ^ (min (Int.toNat 1) (IntKind.bits .u64)))))) : Int) < x0n) ∧ (ptrN x0a fun b_55 o_56 => (ldL (HP.cellN hp b_55 (o_56 + Int.toNat (IntKind.wrap .i64 ((Int.fdiv (IntKind.wrap .u64 ((IntKind.wrap .i64 (x10 + x11)))) (2 ^ (min (Int.toNat 1) (IntKind.bits .u64)))))) * 6) 6) fun l_57 => ((0 ≤ x1) ∧ (x1 < x0n) ∧ (ptrN x0a fun b_58 o_59 => (ldL (HP.cellN hp b_58 (o_59 + Int.toNat x1 * 6) 6) fun l_60 => (fnV x4 fun f_61 ga_62 gb_63 => (CF Try.prog f_61 (ga_62 ++ [(Value.agg ⟨l_57⟩), (.agg ⟨l_60⟩)] ++ gb_63) hp fun u_64 h_65 => (intV u_64 .i64 fun i_66 => (ite2 (decide (i_66 < 0)) (I21 ((IntKind.wrap .i64 ((IntKind.wrap .i64 ((Int.fdiv (IntKind.wrap .u64 ((IntKind.wrap .i64 (x10 + x11)))) (2 ^ (min (Int.toNat 1) (IntKind.bits .u64)))))) + 1)), x11) h_65) (I21 (x10, (IntKind.wrap .i64 ((Int.fdiv (IntKind.wrap .u64 ((IntKind.wrap .i64 (x10 + x11)))) (2 ^ (min (Int.toNat 1) (IntKind.bits .u64))))))) h_65)))))))))))) (F170_j18 x0a x0n x0c x1 x10 hp  K))
def F170_j17 (x0a : Option Addr) (x0n : Nat) (x0c : Nat) (x1 : Int) (x4 : Value) (x10 : Int) (x11 : Int) (hp : HP) (K : Value → HP → Prop) : Prop :=
  (LoopP (σ := Int × Int) (fun I s hp => F170_l21 x0a x0n x0c x1 x4  K I s.1 s.2 hp) (x10, x11) hp)
theorem F170_r44 : R170 [0, 1, 0, 1, 0] 2 (upd e 3 (sI x3)) V0 hp K =
    (K (upd (upd (upd e 3 (sI x3)) 30 (sI x3)) 11 (sI x3)) V0 hp) := by kernel_rfl
def F170 (x0a : Option Addr) (x0n : Nat) (x0c : Nat) (x1 : Int) (x2 : Int) (x3 : Int) (x4 : Value) (hp : HP) (K : Value → HP → Prop) : Prop :=
  (ite2 (((IntKind.wrap .i64 (x2 - x1)) : Int) == 1) (F170_j17 x0a x0n x0c x1 x4 x2 x3 hp  K) (F170_j1 x0a x0n x0c x1 x2 x3 x4 hp  K))
noncomputable def F170_code : Code := (.seq (.seq (.region 0 (opsAt Try.f170 [0, 0]) false) (.cond (.tmp 28) (.seq (.region 1 (opsAt Try.f170 [0, 1, 0, 0]) false) (.seq (.region 2 (opsAt Try.f170 [0, 1, 0, 1, 0]) false) (.seq (.block 0 (.loop (.seq (.seq (.region 3 (opsAt Try.f170 [0, 1, 0, 1, 1, 0, 0, 0, 0, 0]) false) (.cond (.tmp 33) .skip (.exit 0))) (.block 1 (.seq (.region 4 (opsAt Try.f170 [0, 1, 0, 1, 1, 0, 0, 0, 1, 0, 0]) false) (.seq (.region 5 (opsAt Try.f170 [0, 1, 0, 1, 1, 0, 0, 0, 1, 0, 1, 0]) true) (.cond (.tmp 50) (.region 6 (opsAt Try.f170 [0, 1, 0, 1, 1, 0, 0, 0, 1, 0, 1, 1, 0]) false) (.region 7 (opsAt Try.f170 [0, 1, 0, 1, 1, 0, 0, 0, 1, 0, 1, 1, 1]) false)))))))) (.seq (.seq (.region 8 (opsAt Try.f170 [0, 1, 0, 1, 1, 1, 0, 0]) false) (.block 2 (.loop (.seq (.seq (.region 9 (opsAt Try.f170 [0, 1, 0, 1, 1, 1, 0, 1, 0, 0, 0, 0]) false) (.cond (.tmp 58) .skip (.exit 2))) (.seq (.block 3 (.region 11 (opsAt Try.f170 [0, 1, 0, 1, 1, 1, 0, 1, 0, 0, 1, 0, 0]) true)) (.region 10 (opsAt Try.f170 [0, 1, 0, 1, 1, 1, 0, 1, 0, 0, 1, 1]) false)))))) .ret)))) .skip)) (.seq (.seq (.region 12 (opsAt Try.f170 [1, 0, 0]) false) (.cond (.tmp 80) (.seq (.region 13 (opsAt Try.f170 [1, 0, 1, 0, 0]) false) (.seq (.region 14 (opsAt Try.f170 [1, 0, 1, 0, 1, 0]) false) (.seq (.block 4 (.loop (.seq (.seq (.region 15 (opsAt Try.f170 [1, 0, 1, 0, 1, 1, 0, 0, 0, 0, 0]) false) (.cond (.tmp 85) .skip (.exit 4))) (.block 5 (.seq (.region 16 (opsAt Try.f170 [1, 0, 1, 0, 1, 1, 0, 0, 0, 1, 0, 0]) false) (.seq (.region 17 (opsAt Try.f170 [1, 0, 1, 0, 1, 1, 0, 0, 0, 1, 0, 1, 0]) true) (.cond (.tmp 103) (.region 18 (opsAt Try.f170 [1, 0, 1, 0, 1, 1, 0, 0, 0, 1, 0, 1, 1, 0]) false) (.region 19 (opsAt Try.f170 [1, 0, 1, 0, 1, 1, 0, 0, 0, 1, 0, 1, 1, 1]) false)))))))) (.seq (.seq (.region 20 (opsAt Try.f170 [1, 0, 1, 0, 1, 1, 1, 0, 0]) false) (.block 6 (.loop (.seq (.seq (.region 21 (opsAt Try.f170 [1, 0, 1, 0, 1, 1, 1, 0, 1, 0, 0, 0, 0]) false) (.cond (.tmp 110) .skip (.exit 6))) (.seq (.block 7 (.region 23 (opsAt Try.f170 [1, 0, 1, 0, 1, 1, 1, 0, 1, 0, 0, 1, 0, 0]) true)) (.region 22 (opsAt Try.f170 [1, 0, 1, 0, 1, 1, 1, 0, 1, 0, 0, 1, 1]) false)))))) .ret)))) .skip)) (.seq (.region 24 (opsAt Try.f170 [1, 1, 0]) false) (.seq (.region 25 (opsAt Try.f170 [1, 1, 1, 0]) false) (.seq (.region 26 (opsAt Try.f170 [1, 1, 1, 1, 0]) false) (.seq (.seq (.region 27 (opsAt Try.f170 [1, 1, 1, 1, 1, 0, 0]) false) (.cond (.tmp 140) (.seq (.region 28 (opsAt Try.f170 [1, 1, 1, 1, 1, 0, 1, 0, 0]) false) (.region 29 (opsAt Try.f170 [1, 1, 1, 1, 1, 0, 1, 0, 1]) false)) (.seq (.region 30 (opsAt Try.f170 [1, 1, 1, 1, 1, 0, 1, 1, 0]) false) (.region 31 (opsAt Try.f170 [1, 1, 1, 1, 1, 0, 1, 1, 1]) false)))) (.seq (.region 32 (opsAt Try.f170 [1, 1, 1, 1, 1, 1, 0]) false) (.seq (.block 8 (.loop (.seq (.seq (.region 33 (opsAt Try.f170 [1, 1, 1, 1, 1, 1, 1, 0, 0, 0, 0, 0]) false) (.cond (.tmp 151) .skip (.exit 8))) (.block 9 (.seq (.region 34 (opsAt Try.f170 [1, 1, 1, 1, 1, 1, 1, 0, 0, 0, 1, 0, 0]) false) (.seq (.region 35 (opsAt Try.f170 [1, 1, 1, 1, 1, 1, 1, 0, 0, 0, 1, 0, 1, 0]) true) (.cond (.tmp 171) (.region 36 (opsAt Try.f170 [1, 1, 1, 1, 1, 1, 1, 0, 0, 0, 1, 0, 1, 1, 0]) false) (.region 37 (opsAt Try.f170 [1, 1, 1, 1, 1, 1, 1, 0, 0, 0, 1, 0, 1, 1, 1]) false)))))))) (.seq (.region 38 (opsAt Try.f170 [1, 1, 1, 1, 1, 1, 1, 1, 0]) false) (.seq (.seq (.region 39 (opsAt Try.f170 [1, 1, 1, 1, 1, 1, 1, 1, 1, 0, 0]) false) (.cond (.tmp 185) (.region 40 (opsAt Try.f170 [1, 1, 1, 1, 1, 1, 1, 1, 1, 0, 1, 0]) false) .skip)) (.seq (.seq (.region 41 (opsAt Try.f170 [1, 1, 1, 1, 1, 1, 1, 1, 1, 1, 0, 0]) false) (.cond (.tmp 199) (.region 42 (opsAt Try.f170 [1, 1, 1, 1, 1, 1, 1, 1, 1, 1, 0, 1, 0]) false) .skip)) (.seq (.region 43 (opsAt Try.f170 [1, 1, 1, 1, 1, 1, 1, 1, 1, 1, 1, 0]) false) (.cond (.tmp 213) (.region 44 (opsAt Try.f170 [1, 1, 1, 1, 1, 1, 1, 1, 1, 1, 1, 1, 0]) false) .skip)))))))))))))
theorem F170_body : Try.f170.body = some F170_code := by kernel_rfl
theorem F170_ok (x0a : Option Addr) (x0n : Nat) (x0c : Nat) (x1 : Int) (x2 : Int) (x3 : Int) (x4 : Value) (hp : HP) (K : Value → HP → Prop) (h : F170 x0a x0n x0c x1 x2 x3 x4 hp K) : CF Try.prog 170 [(.slice x0a x0n x0c), (.int .i64 x1), (.int .i64 x2), (.int .i64 x3), x4] hp K := by
 refine .inl ⟨by kernel_rfl, AC.intro (N := 220) Try.func170 F170_body rfl (Nat.le_of_ble_eq_true rfl) ?_⟩
 unfold F170 at h
 unfold F170_code
 refine AWP.seq (fun env pv hp => ∃ (x0a : Option Addr) (x0n : Nat) (x0c : Nat) (x1 : Int) (x2 : Int) (x3 : Int) (x4 : Value), Sub (upd (upd (upd (upd (upd E0 4 (sV x4)) 3 (sI x3)) 2 (sI x2)) 1 (sI x1)) 0 (sS x0a x0n x0c)) env ∧ Sub V0 pv ∧ (F170_j1 x0a x0n x0c x1 x2 x3 x4 hp  K)) ?_ ?_
 ·refine AWP.seq' ?_
  refine AWP.rgn (F170_r33 (upd (upd (upd E0 4 (sV x4)) 3 (sI x3)) 0 (sS x0a x0n x0c)) x1 x2 hp _) ?_ (Ru 1 (Ru 2 (Ru 0 (Ru 3 (Ru 4 Rn))))) (Sc rfl (Sc rfl (Sc rfl (Sc rfl (Sc rfl Sn))))) Sn
  refine AWP.cond (t := (((wr (x2 - x1)) : Int) == 1)) rfl (fun e => ?_) (fun e => ?_)
  ·replace h := ite2_t h e
   refine AWP.seq' ?_
   refine AWP.rgn (F170_r34 (upd (upd (upd (upd E0 4 (sV x4)) 3 (sI x3)) 1 (sI x1)) 0 (sS x0a x0n x0c)) x2 hp _) ?_ (Ru 2 (Ru 0 (Ru 1 (Ru 3 (Ru 4 Rn))))) (Sc rfl (Sc rfl (Sc rfl (Sc rfl (Sc rfl Sn))))) Sn
   refine AWP.seq (fun env pv hp => ∃ (x0a : Option Addr) (x0n : Nat) (x0c : Nat) (x1 : Int) (x4 : Value) (x10 : Int) (x11 : Int), Sub (upd (upd (upd (upd (upd E0 11 (sI x11)) 10 (sI x10)) 4 (sV x4)) 1 (sI x1)) 0 (sS x0a x0n x0c)) env ∧ Sub V0 pv ∧ (F170_j17 x0a x0n x0c x1 x4 x10 x11 hp  K)) ?_ ?_
   ·refine AWP.rgn (F170_r44 (upd (upd (upd (upd E0 10 (sI x2)) 4 (sV x4)) 1 (sI x1)) 0 (sS x0a x0n x0c)) x3 hp _) ?_ (Ru 3 (Ru 0 (Ru 1 (Ru 4 (Ru 10 Rn))))) (Sc rfl (Sc rfl (Sc rfl (Sc rfl (Sc rfl Sn))))) Sn
    exact ⟨x0a, x0n, x0c, x1, x4, x2, x3, (Sc rfl (Sc rfl (Sc rfl (Sc rfl (Sc rfl Sn))))), Sn, h⟩
   ·rintro env pv hp ⟨x0a, x0n, x0c, x1, x4, x10, x11, he, hv, h⟩
    refine AWP.sub (env' := (upd (upd (upd (upd (upd E0 11 (sI x11)) 10 (sI x10)) 4 (sV x4)) 1 (sI x1)) 0 (sS x0a x0n x0c))) (pv' := V0) ?_ (Ru 0 (Ru 1 (Ru 4 (Ru 10 (Ru 11 Rn))))) he hv (HSub.refl _)
    clear he hv
    unfold F170_j17 at h
    refine AWP.seq (fun env pv hp => ∃ (x0a : Option Addr) (x0n : Nat) (x0c : Nat) (x1 : Int) (x10 : Int), Sub (upd (upd (upd E0 10 (sI x10)) 1 (sI x1)) 0 (sS x0a x0n x0c)) env ∧ Sub V0 pv ∧ (F170_j18 x0a x0n x0c x1 x10 hp  K)) ?_ ?_
    ·refine AWP.block ?_
     refine AWP.loop (σ := Int × Int) (fun I s hp => F170_l21 x0a x0n x0c x1 x4  K I s.1 s.2 hp) (fun s => (upd (upd (upd (upd (upd E0 11 (sI (s.2))) 10 (sI (s.1))) 4 (sV x4)) 1 (sI x1)) 0 (sS x0a x0n x0c))) (fun s => V0) (x10, x11) h (fun s => (Ru 0 (Ru 1 (Ru 4 (Ru 10 (Ru 11 Rn)))))) (Sc rfl (Sc rfl (Sc rfl (Sc rfl (Sc rfl Sn))))) Sn ?_
     intro I21 s hp h
     obtain ⟨x10, x11⟩ := s
     replace h : F170_l21 x0a x0n x0c x1 x4  K I21 x10 x11 hp := h
     unfold F170_l21 at h
     refine AWP.seq' ?_
     refine AWP.seq' ?_
     refine AWP.rgn (F170_r39 (upd (upd (upd E0 4 (sV x4)) 1 (sI x1)) 0 (sS x0a x0n x0c)) x10 x11 hp _) ?_ (Ru 10 (Ru 11 (Ru 0 (Ru 1 (Ru 4 Rn))))) (Sc rfl (Sc rfl (Sc rfl (Sc rfl (Sc rfl Sn))))) Sn
     refine AWP.cond (t := (decide (x10 < x11))) rfl (fun e => ?_) (fun e => ?_)
     ·replace h := ite2_t h e
      refine AWP.skip ?_
      refine AWP.block ?_
      refine AWP.seq' ?_
      refine AWP.rgn (F170_r40 (upd (upd (upd E0 4 (sV x4)) 1 (sI x1)) 0 (sS x0a x0n x0c)) x10 x11 hp _) ?_ (Ru 10 (Ru 11 (Ru 0 (Ru 1 (Ru 4 Rn))))) (Sc rfl (Sc rfl (Sc rfl (Sc rfl (Sc rfl Sn))))) Sn
      refine ⟨h.1, ?_⟩
      replace h := h.2
      refine AWP.seq' ?_
      refine AWP.rgnD (by kernel_rfl) (by kernel_rfl) (F170_r41 (upd (upd E0 11 (sI x11)) 10 (sI x10)) x0a x0n x0c x1 x4 (wr ((Int.fdiv (IntKind.wrap .u64 ((wr (x10 + x11)))) (2 ^ (min (Int.toNat 1) (IntKind.bits .u64)))))) hp _) ?_ (Ru 0 (Ru 1 (Ru 4 (Ru 12 (Ru 10 (Ru 11 Rn)))))) (Sc rfl (Sc rfl (Sc rfl (Sc rfl (Sc rfl (Sc rfl Sn)))))) Sn
      refine ⟨h.1, h.2.1, mN h.2.2 (fun b_55 o_56 h => mL h (fun l_57 h => ⟨h.1, h.2.1, mN h.2.2 fun b_58 o_59 h => mL h fun l_60 h => mF h fun f_61 ga_62 gb_63 h => mC h fun u_64 h_65 h => mI h fun i_66 h => ?_⟩))⟩
      refine AWP.cond (t := (decide (i_66 < 0))) rfl (fun e => ?_) (fun e => ?_)
      ·replace h := ite2_t h e
       refine AWP.rgn (F170_r42 (upd (upd (upd (upd E0 11 (sI x11)) 4 (sV x4)) 1 (sI x1)) 0 (sS x0a x0n x0c)) (wr ((Int.fdiv (IntKind.wrap .u64 ((wr (x10 + x11)))) (2 ^ (min (Int.toNat 1) (IntKind.bits .u64)))))) h_65 _) ?_ (Ru 12 (Ru 0 (Ru 1 (Ru 4 (Ru 11 Rn))))) (Sc rfl (Sc rfl (Sc rfl (Sc rfl (Sc rfl Sn))))) Sn
       exact ⟨((wr ((wr ((Int.fdiv (IntKind.wrap .u64 ((wr (x10 + x11)))) (2 ^ (min (Int.toNat 1) (IntKind.bits .u64)))))) + 1)), x11), (Sc rfl (Sc rfl (Sc rfl (Sc rfl (Sc rfl Sn))))), Sn, h⟩
      ·replace h := ite2_f h e
       refine AWP.rgn (F170_r43 (upd (upd (upd (upd E0 10 (sI x10)) 4 (sV x4)) 1 (sI x1)) 0 (sS x0a x0n x0c)) (wr ((Int.fdiv (IntKind.wrap .u64 ((wr (x10 + x11)))) (2 ^ (min (Int.toNat 1) (IntKind.bits .u64)))))) h_65 _) ?_ (Ru 12 (Ru 0 (Ru 1 (Ru 4 (Ru 10 Rn))))) (Sc rfl (Sc rfl (Sc rfl (Sc rfl (Sc rfl Sn))))) Sn
       exact ⟨(x10, (wr ((Int.fdiv (IntKind.wrap .u64 ((wr (x10 + x11)))) (2 ^ (min (Int.toNat 1) (IntKind.bits .u64))))))), (Sc rfl (Sc rfl (Sc rfl (Sc rfl (Sc rfl Sn))))), Sn, h⟩
     ·replace h := ite2_f h e
      refine AWP.exit ?_
      exact ⟨x0a, x0n, x0c, x1, x10, (Sc rfl (Sc rfl (Sc rfl Sn))), Sn, h⟩
    ·rintro env pv hp ⟨x0a, x0n, x0c, x1, x10, he, hv, h⟩
     refine AWP.sub (env' := (upd (upd (upd E0 10 (sI x10)) 1 (sI x1)) 0 (sS x0a x0n x0c))) (pv' := V0) ?_ (Ru 0 (Ru 1 (Ru 10 Rn))) he hv (HSub.refl _)
     clear he hv
     unfold F170_j18 at h
     refine AWP.seq' ?_
     refine AWP.seq (fun env pv hp => ∃ (x0a : Option Addr) (x0n : Nat) (x0c : Nat) (x10 : Int) (x13 : Int), Sub (upd (upd (upd E0 13 (sI x13)) 10 (sI x10)) 0 (sS x0a x0n x0c)) env ∧ Sub V0 pv ∧ (F170_j19 x0a x0n x0c x10 x13 hp  K)) ?_ ?_
     ·refine AWP.rgn (F170_r38 (upd (upd E0 10 (sI x10)) 0 (sS x0a x0n x0c)) x1 hp _) ?_ (Ru 1 (Ru 0 (Ru 10 Rn))) (Sc rfl (Sc rfl (Sc rfl Sn))) Sn
      exact ⟨x0a, x0n, x0c, x10, x1, (Sc rfl (Sc rfl (Sc rfl Sn))), Sn, h⟩
     ·rintro env pv hp ⟨x0a, x0n, x0c, x10, x13, he, hv, h⟩
      refine AWP.sub (env' := (upd (upd (upd E0 13 (sI x13)) 10 (sI x10)) 0 (sS x0a x0n x0c))) (pv' := V0) ?_ (Ru 0 (Ru 10 (Ru 13 Rn))) he hv (HSub.refl _)
      clear he hv
      unfold F170_j19 at h
      refine AWP.block ?_
      refine AWP.loop (σ := Int) (fun I s hp => F170_l20 x0a x0n x0c x10  K I s hp) (fun s => (upd (upd (upd E0 13 (sI s)) 10 (sI x10)) 0 (sS x0a x0n x0c))) (fun s => V0) x13 h (fun s => (Ru 0 (Ru 10 (Ru 13 Rn)))) (Sc rfl (Sc rfl (Sc rfl Sn))) Sn ?_
      intro I20 s hp h
      obtain ⟨x13, hs⟩ : ∃ x, x = s := ⟨s, rfl⟩
      subst hs
      replace h : F170_l20 x0a x0n x0c x10  K I20 x13 hp := h
      unfold F170_l20 at h
      refine AWP.seq' ?_
      refine AWP.seq' ?_
      refine AWP.rgn (F170_r35 (upd E0 0 (sS x0a x0n x0c)) x10 x13 hp _) ?_ (Ru 10 (Ru 13 (Ru 0 Rn))) (Sc rfl (Sc rfl (Sc rfl Sn))) Sn
      refine AWP.cond (t := (decide (x13 < (wr (x10 - 1))))) rfl (fun e => ?_) (fun e => ?_)
      ·replace h := ite2_t h e
       refine AWP.skip ?_
       refine AWP.seq' ?_
       refine AWP.block ?_
       refine AWP.rgnD (by kernel_rfl) (by kernel_rfl) (F170_r36 (upd E0 10 (sI x10)) x0a x0n x0c x13 hp _) ?_ (Ru 0 (Ru 13 (Ru 10 Rn))) (Sc rfl (Sc rfl (Sc rfl Sn))) Sn
       refine ⟨h.1, h.2.1, mN h.2.2 (fun b_43 o_44 h => mL h (fun l_45 h => ⟨h.1, h.2.1, mN h.2.2 (fun b_46 o_47 h => mL h (fun l_48 h => ⟨h.1, h.2.1, mN h.2.2 (fun b_49 o_50 h => ⟨h.1, mW h.2 (fun h_51 h => ⟨h.1, h.2.1, mN h.2.2 (fun b_52 o_53 h => ⟨h.1, mW h.2 fun h_54 h => ?_⟩)⟩)⟩)⟩))⟩))⟩
       refine AWP.rgn (F170_r37 (upd (upd E0 10 (sI x10)) 0 (sS x0a x0n x0c)) x13 h_54 _) ?_ (Ru 13 (Ru 0 (Ru 10 Rn))) (Sc rfl (Sc rfl (Sc rfl Sn))) Sn
       exact ⟨(wr (x13 + 1)), (Sc rfl (Sc rfl (Sc rfl Sn))), Sn, h⟩
      ·replace h := ite2_f h e
       refine AWP.exit ?_
       refine AWP.ret ?_
       exact h
  ·replace h := ite2_f h e
   refine AWP.skip ?_
   exact ⟨x0a, x0n, x0c, x1, x2, x3, x4, (Sc rfl (Sc rfl (Sc rfl (Sc rfl (Sc rfl Sn))))), Sn, h⟩
 ·rintro env pv hp ⟨x0a, x0n, x0c, x1, x2, x3, x4, he, hv, h⟩
  refine AWP.sub (env' := (upd (upd (upd (upd (upd E0 4 (sV x4)) 3 (sI x3)) 2 (sI x2)) 1 (sI x1)) 0 (sS x0a x0n x0c))) (pv' := V0) ?_ (Ru 0 (Ru 1 (Ru 2 (Ru 3 (Ru 4 Rn))))) he hv (HSub.refl _)
  clear he hv
  unfold F170_j1 at h
  refine AWP.seq (fun env pv hp => ∃ (x0a : Option Addr) (x0n : Nat) (x0c : Nat) (x1 : Int) (x2 : Int) (x3 : Int) (x4 : Value), Sub (upd (upd (upd (upd (upd E0 4 (sV x4)) 3 (sI x3)) 2 (sI x2)) 1 (sI x1)) 0 (sS x0a x0n x0c)) env ∧ Sub V0 pv ∧ (F170_j2 x0a x0n x0c x1 x2 x3 x4 hp  K)) ?_ ?_
  ·refine AWP.seq' ?_
   refine AWP.rgn (F170_r21 (upd (upd (upd E0 4 (sV x4)) 1 (sI x1)) 0 (sS x0a x0n x0c)) x2 x3 hp _) ?_ (Ru 2 (Ru 3 (Ru 0 (Ru 1 (Ru 4 Rn))))) (Sc rfl (Sc rfl (Sc rfl (Sc rfl (Sc rfl Sn))))) Sn
   refine AWP.cond (t := (((wr (x3 - x2)) : Int) == 1)) rfl (fun e => ?_) (fun e => ?_)
   ·replace h := ite2_t h e
    refine AWP.seq' ?_
    refine AWP.rgn (F170_r22 (upd (upd (upd E0 4 (sV x4)) 2 (sI x2)) 0 (sS x0a x0n x0c)) x1 hp _) ?_ (Ru 1 (Ru 0 (Ru 2 (Ru 4 Rn)))) (Sc rfl (Sc rfl (Sc rfl (Sc rfl Sn)))) Sn
    refine AWP.seq (fun env pv hp => ∃ (x0a : Option Addr) (x0n : Nat) (x0c : Nat) (x2 : Int) (x4 : Value) (x14 : Int) (x15 : Int), Sub (upd (upd (upd (upd (upd E0 15 (sI x15)) 14 (sI x14)) 4 (sV x4)) 2 (sI x2)) 0 (sS x0a x0n x0c)) env ∧ Sub V0 pv ∧ (F170_j12 x0a x0n x0c x2 x4 x14 x15 hp  K)) ?_ ?_
    ·refine AWP.rgn (F170_r32 (upd (upd (upd E0 14 (sI x1)) 4 (sV x4)) 0 (sS x0a x0n x0c)) x2 hp _) ?_ (Ru 2 (Ru 0 (Ru 4 (Ru 14 Rn)))) (Sc rfl (Sc rfl (Sc rfl (Sc rfl Sn)))) Sn
     exact ⟨x0a, x0n, x0c, x2, x4, x1, x2, (Sc rfl (Sc rfl (Sc rfl (Sc rfl (Sc rfl Sn))))), Sn, h⟩
    ·rintro env pv hp ⟨x0a, x0n, x0c, x2, x4, x14, x15, he, hv, h⟩
     refine AWP.sub (env' := (upd (upd (upd (upd (upd E0 15 (sI x15)) 14 (sI x14)) 4 (sV x4)) 2 (sI x2)) 0 (sS x0a x0n x0c))) (pv' := V0) ?_ (Ru 0 (Ru 2 (Ru 4 (Ru 14 (Ru 15 Rn))))) he hv (HSub.refl _)
     clear he hv
     unfold F170_j12 at h
     refine AWP.seq (fun env pv hp => ∃ (x0a : Option Addr) (x0n : Nat) (x0c : Nat) (x2 : Int) (x14 : Int), Sub (upd (upd (upd E0 14 (sI x14)) 2 (sI x2)) 0 (sS x0a x0n x0c)) env ∧ Sub V0 pv ∧ (F170_j13 x0a x0n x0c x2 x14 hp  K)) ?_ ?_
     ·refine AWP.block ?_
      refine AWP.loop (σ := Int × Int) (fun I s hp => F170_l16 x0a x0n x0c x2 x4  K I s.1 s.2 hp) (fun s => (upd (upd (upd (upd (upd E0 15 (sI (s.2))) 14 (sI (s.1))) 4 (sV x4)) 2 (sI x2)) 0 (sS x0a x0n x0c))) (fun s => V0) (x14, x15) h (fun s => (Ru 0 (Ru 2 (Ru 4 (Ru 14 (Ru 15 Rn)))))) (Sc rfl (Sc rfl (Sc rfl (Sc rfl (Sc rfl Sn))))) Sn ?_
      intro I16 s hp h
      obtain ⟨x14, x15⟩ := s
      replace h : F170_l16 x0a x0n x0c x2 x4  K I16 x14 x15 hp := h
      unfold F170_l16 at h
      refine AWP.seq' ?_
      refine AWP.seq' ?_
      refine AWP.rgn (F170_r27 (upd (upd (upd E0 4 (sV x4)) 2 (sI x2)) 0 (sS x0a x0n x0c)) x14 x15 hp _) ?_ (Ru 14 (Ru 15 (Ru 0 (Ru 2 (Ru 4 Rn))))) (Sc rfl (Sc rfl (Sc rfl (Sc rfl (Sc rfl Sn))))) Sn
      refine AWP.cond (t := (decide (x14 < x15))) rfl (fun e => ?_) (fun e => ?_)
      ·replace h := ite2_t h e
       refine AWP.skip ?_
       refine AWP.block ?_
       refine AWP.seq' ?_
       refine AWP.rgn (F170_r28 (upd (upd (upd E0 4 (sV x4)) 2 (sI x2)) 0 (sS x0a x0n x0c)) x14 x15 hp _) ?_ (Ru 14 (Ru 15 (Ru 0 (Ru 2 (Ru 4 Rn))))) (Sc rfl (Sc rfl (Sc rfl (Sc rfl (Sc rfl Sn))))) Sn
       refine ⟨h.1, ?_⟩
       replace h := h.2
       refine AWP.seq' ?_
       refine AWP.rgnD (by kernel_rfl) (by kernel_rfl) (F170_r29 (upd (upd E0 15 (sI x15)) 14 (sI x14)) x0a x0n x0c x2 x4 (wr ((Int.fdiv (IntKind.wrap .u64 ((wr (x14 + x15)))) (2 ^ (min (Int.toNat 1) (IntKind.bits .u64)))))) hp _) ?_ (Ru 0 (Ru 2 (Ru 4 (Ru 16 (Ru 14 (Ru 15 Rn)))))) (Sc rfl (Sc rfl (Sc rfl (Sc rfl (Sc rfl (Sc rfl Sn)))))) Sn
       refine ⟨h.1, h.2.1, mN h.2.2 (fun b_31 o_32 h => mL h (fun l_33 h => ⟨h.1, h.2.1, mN h.2.2 fun b_34 o_35 h => mL h fun l_36 h => mF h fun f_37 ga_38 gb_39 h => mC h fun u_40 h_41 h => mI h fun i_42 h => ?_⟩))⟩
       refine AWP.cond (t := (!(decide (i_42 < 0)))) rfl (fun e => ?_) (fun e => ?_)
       ·replace h := ite2_t h e
        refine AWP.rgn (F170_r30 (upd (upd (upd (upd E0 15 (sI x15)) 4 (sV x4)) 2 (sI x2)) 0 (sS x0a x0n x0c)) (wr ((Int.fdiv (IntKind.wrap .u64 ((wr (x14 + x15)))) (2 ^ (min (Int.toNat 1) (IntKind.bits .u64)))))) h_41 _) ?_ (Ru 16 (Ru 0 (Ru 2 (Ru 4 (Ru 15 Rn))))) (Sc rfl (Sc rfl (Sc rfl (Sc rfl (Sc rfl Sn))))) Sn
        exact ⟨((wr ((wr ((Int.fdiv (IntKind.wrap .u64 ((wr (x14 + x15)))) (2 ^ (min (Int.toNat 1) (IntKind.bits .u64)))))) + 1)), x15), (Sc rfl (Sc rfl (Sc rfl (Sc rfl (Sc rfl Sn))))), Sn, h⟩
       ·replace h := ite2_f h e
        refine AWP.rgn (F170_r31 (upd (upd (upd (upd E0 14 (sI x14)) 4 (sV x4)) 2 (sI x2)) 0 (sS x0a x0n x0c)) (wr ((Int.fdiv (IntKind.wrap .u64 ((wr (x14 + x15)))) (2 ^ (min (Int.toNat 1) (IntKind.bits .u64)))))) h_41 _) ?_ (Ru 16 (Ru 0 (Ru 2 (Ru 4 (Ru 14 Rn))))) (Sc rfl (Sc rfl (Sc rfl (Sc rfl (Sc rfl Sn))))) Sn
        exact ⟨(x14, (wr ((Int.fdiv (IntKind.wrap .u64 ((wr (x14 + x15)))) (2 ^ (min (Int.toNat 1) (IntKind.bits .u64))))))), (Sc rfl (Sc rfl (Sc rfl (Sc rfl (Sc rfl Sn))))), Sn, h⟩
      ·replace h := ite2_f h e
       refine AWP.exit ?_
       exact ⟨x0a, x0n, x0c, x2, x14, (Sc rfl (Sc rfl (Sc rfl Sn))), Sn, h⟩
     ·rintro env pv hp ⟨x0a, x0n, x0c, x2, x14, he, hv, h⟩
      refine AWP.sub (env' := (upd (upd (upd E0 14 (sI x14)) 2 (sI x2)) 0 (sS x0a x0n x0c))) (pv' := V0) ?_ (Ru 0 (Ru 2 (Ru 14 Rn))) he hv (HSub.refl _)
      clear he hv
      unfold F170_j13 at h
      refine AWP.seq' ?_
      refine AWP.seq (fun env pv hp => ∃ (x0a : Option Addr) (x0n : Nat) (x0c : Nat) (x14 : Int) (x17 : Int), Sub (upd (upd (upd E0 17 (sI x17)) 14 (sI x14)) 0 (sS x0a x0n x0c)) env ∧ Sub V0 pv ∧ (F170_j14 x0a x0n x0c x14 x17 hp  K)) ?_ ?_
      ·refine AWP.rgn (F170_r26 (upd (upd E0 14 (sI x14)) 0 (sS x0a x0n x0c)) x2 hp _) ?_ (Ru 2 (Ru 0 (Ru 14 Rn))) (Sc rfl (Sc rfl (Sc rfl Sn))) Sn
       exact ⟨x0a, x0n, x0c, x14, x2, (Sc rfl (Sc rfl (Sc rfl Sn))), Sn, h⟩
      ·rintro env pv hp ⟨x0a, x0n, x0c, x14, x17, he, hv, h⟩
       refine AWP.sub (env' := (upd (upd (upd E0 17 (sI x17)) 14 (sI x14)) 0 (sS x0a x0n x0c))) (pv' := V0) ?_ (Ru 0 (Ru 14 (Ru 17 Rn))) he hv (HSub.refl _)
       clear he hv
       unfold F170_j14 at h
       refine AWP.block ?_
       refine AWP.loop (σ := Int) (fun I s hp => F170_l15 x0a x0n x0c x14  K I s hp) (fun s => (upd (upd (upd E0 17 (sI s)) 14 (sI x14)) 0 (sS x0a x0n x0c))) (fun s => V0) x17 h (fun s => (Ru 0 (Ru 14 (Ru 17 Rn)))) (Sc rfl (Sc rfl (Sc rfl Sn))) Sn ?_
       intro I15 s hp h
       obtain ⟨x17, hs⟩ : ∃ x, x = s := ⟨s, rfl⟩
       subst hs
       replace h : F170_l15 x0a x0n x0c x14  K I15 x17 hp := h
       unfold F170_l15 at h
       refine AWP.seq' ?_
       refine AWP.seq' ?_
       refine AWP.rgn (F170_r23 (upd E0 0 (sS x0a x0n x0c)) x14 x17 hp _) ?_ (Ru 14 (Ru 17 (Ru 0 Rn))) (Sc rfl (Sc rfl (Sc rfl Sn))) Sn
       refine AWP.cond (t := (decide (x17 > x14))) rfl (fun e => ?_) (fun e => ?_)
       ·replace h := ite2_t h e
        refine AWP.skip ?_
        refine AWP.seq' ?_
        refine AWP.block ?_
        refine AWP.rgnD (by kernel_rfl) (by kernel_rfl) (F170_r24 (upd E0 14 (sI x14)) x0a x0n x0c x17 hp _) ?_ (Ru 0 (Ru 17 (Ru 14 Rn))) (Sc rfl (Sc rfl (Sc rfl Sn))) Sn
        refine ⟨h.1, h.2.1, mN h.2.2 (fun b_19 o_20 h => mL h (fun l_21 h => ⟨h.1, h.2.1, mN h.2.2 (fun b_22 o_23 h => mL h (fun l_24 h => ⟨h.1, h.2.1, mN h.2.2 (fun b_25 o_26 h => ⟨h.1, mW h.2 (fun h_27 h => ⟨h.1, h.2.1, mN h.2.2 (fun b_28 o_29 h => ⟨h.1, mW h.2 fun h_30 h => ?_⟩)⟩)⟩)⟩))⟩))⟩
        refine AWP.rgn (F170_r25 (upd (upd E0 14 (sI x14)) 0 (sS x0a x0n x0c)) x17 h_30 _) ?_ (Ru 17 (Ru 0 (Ru 14 Rn))) (Sc rfl (Sc rfl (Sc rfl Sn))) Sn
        exact ⟨(wr (x17 - 1)), (Sc rfl (Sc rfl (Sc rfl Sn))), Sn, h⟩
       ·replace h := ite2_f h e
        refine AWP.exit ?_
        refine AWP.ret ?_
        exact h
   ·replace h := ite2_f h e
    refine AWP.skip ?_
    exact ⟨x0a, x0n, x0c, x1, x2, x3, x4, (Sc rfl (Sc rfl (Sc rfl (Sc rfl (Sc rfl Sn))))), Sn, h⟩
  ·rintro env pv hp ⟨x0a, x0n, x0c, x1, x2, x3, x4, he, hv, h⟩
   refine AWP.sub (env' := (upd (upd (upd (upd (upd E0 4 (sV x4)) 3 (sI x3)) 2 (sI x2)) 1 (sI x1)) 0 (sS x0a x0n x0c))) (pv' := V0) ?_ (Ru 0 (Ru 1 (Ru 2 (Ru 3 (Ru 4 Rn))))) he hv (HSub.refl _)
   clear he hv
   unfold F170_j2 at h
   refine AWP.seq' ?_
   refine AWP.rgn (F170_r0 (upd (upd (upd E0 4 (sV x4)) 2 (sI x2)) 0 (sS x0a x0n x0c)) x1 x3 hp _) ?_ (Ru 1 (Ru 3 (Ru 0 (Ru 2 (Ru 4 Rn))))) (Sc rfl (Sc rfl (Sc rfl (Sc rfl (Sc rfl Sn))))) Sn
   refine ⟨h.1, ?_⟩
   replace h := h.2
   refine AWP.seq' ?_
   refine AWP.rgn (F170_r1 (upd (upd (upd (upd E0 4 (sV x4)) 3 (sI x3)) 1 (sI x1)) 0 (sS x0a x0n x0c)) x2 (wr ((Int.fdiv (IntKind.wrap .u64 ((wr (x1 + x3)))) (2 ^ (min (Int.toNat 1) (IntKind.bits .u64)))))) hp _) ?_ (Ru 2 (Ru 18 (Ru 0 (Ru 1 (Ru 3 (Ru 4 Rn)))))) (Sc rfl (Sc rfl (Sc rfl (Sc rfl (Sc rfl (Sc rfl Sn)))))) Sn
   refine AWP.seq' ?_
   refine AWP.rgn (F170_r2 (upd (upd (upd (upd (upd (upd (upd E0 19 (sI ((wr ((wr ((Int.fdiv (IntKind.wrap .u64 ((wr (x1 + x3)))) (2 ^ (min (Int.toNat 1) (IntKind.bits .u64)))))) + x2))))) 18 (sI ((wr ((Int.fdiv (IntKind.wrap .u64 ((wr (x1 + x3)))) (2 ^ (min (Int.toNat 1) (IntKind.bits .u64))))))))) 4 (sV x4)) 3 (sI x3)) 2 (sI x2)) 1 (sI x1)) 0 (sS x0a x0n x0c))  hp _) ?_ (Ru 0 (Ru 1 (Ru 2 (Ru 3 (Ru 4 (Ru 18 (Ru 19 Rn))))))) (Sc rfl (Sc rfl (Sc rfl (Sc rfl (Sc rfl (Sc rfl (Sc rfl Sn))))))) Sn
   refine AWP.seq (fun env pv hp => ∃ (x0a : Option Addr) (x0n : Nat) (x0c : Nat) (x1 : Int) (x2 : Int) (x3 : Int) (x4 : Value) (x18 : Int) (x19 : Int) (x20 : Int) (x21 : Int), Sub (upd (upd (upd (upd (upd (upd (upd (upd (upd E0 21 (sI x21)) 20 (sI x20)) 19 (sI x19)) 18 (sI x18)) 4 (sV x4)) 3 (sI x3)) 2 (sI x2)) 1 (sI x1)) 0 (sS x0a x0n x0c)) env ∧ Sub V0 pv ∧ (F170_j3 x0a x0n x0c x1 x2 x3 x4 x18 x19 x20 x21 hp  K)) ?_ ?_
   ·refine AWP.seq' ?_
    refine AWP.rgn (F170_r16 (upd (upd (upd (upd (upd E0 19 (sI ((wr ((wr ((Int.fdiv (IntKind.wrap .u64 ((wr (x1 + x3)))) (2 ^ (min (Int.toNat 1) (IntKind.bits .u64)))))) + x2))))) 4 (sV x4)) 3 (sI x3)) 1 (sI x1)) 0 (sS x0a x0n x0c)) x2 (wr ((Int.fdiv (IntKind.wrap .u64 ((wr (x1 + x3)))) (2 ^ (min (Int.toNat 1) (IntKind.bits .u64)))))) hp _) ?_ (Ru 2 (Ru 18 (Ru 0 (Ru 1 (Ru 3 (Ru 4 (Ru 19 Rn))))))) (Sc rfl (Sc rfl (Sc rfl (Sc rfl (Sc rfl (Sc rfl (Sc rfl Sn))))))) Sn
    refine AWP.cond (t := (decide (x2 > (wr ((Int.fdiv (IntKind.wrap .u64 ((wr (x1 + x3)))) (2 ^ (min (Int.toNat 1) (IntKind.bits .u64))))))))) rfl (fun e => ?_) (fun e => ?_)
    ·replace h := ite2_t h e
     refine AWP.seq' ?_
     refine AWP.rgn (F170_r17 (upd (upd (upd (upd (upd E0 18 (sI ((wr ((Int.fdiv (IntKind.wrap .u64 ((wr (x1 + x3)))) (2 ^ (min (Int.toNat 1) (IntKind.bits .u64))))))))) 4 (sV x4)) 2 (sI x2)) 1 (sI x1)) 0 (sS x0a x0n x0c)) x3 (wr ((wr ((Int.fdiv (IntKind.wrap .u64 ((wr (x1 + x3)))) (2 ^ (min (Int.toNat 1) (IntKind.bits .u64)))))) + x2)) hp _) ?_ (Ru 3 (Ru 19 (Ru 0 (Ru 1 (Ru 2 (Ru 4 (Ru 18 Rn))))))) (Sc rfl (Sc rfl (Sc rfl (Sc rfl (Sc rfl (Sc rfl (Sc rfl Sn))))))) Sn
     refine AWP.rgn (F170_r18 (upd (upd (upd (upd (upd (upd (upd E0 20 (sI ((wr ((wr ((wr ((Int.fdiv (IntKind.wrap .u64 ((wr (x1 + x3)))) (2 ^ (min (Int.toNat 1) (IntKind.bits .u64)))))) + x2)) - x3))))) 19 (sI ((wr ((wr ((Int.fdiv (IntKind.wrap .u64 ((wr (x1 + x3)))) (2 ^ (min (Int.toNat 1) (IntKind.bits .u64)))))) + x2))))) 4 (sV x4)) 3 (sI x3)) 2 (sI x2)) 1 (sI x1)) 0 (sS x0a x0n x0c)) (wr ((Int.fdiv (IntKind.wrap .u64 ((wr (x1 + x3)))) (2 ^ (min (Int.toNat 1) (IntKind.bits .u64)))))) hp _) ?_ (Ru 18 (Ru 0 (Ru 1 (Ru 2 (Ru 3 (Ru 4 (Ru 19 (Ru 20 Rn)))))))) (Sc rfl (Sc rfl (Sc rfl (Sc rfl (Sc rfl (Sc rfl (Sc rfl (Sc rfl Sn)))))))) Sn
     exact ⟨x0a, x0n, x0c, x1, x2, x3, x4, (wr ((Int.fdiv (IntKind.wrap .u64 ((wr (x1 + x3)))) (2 ^ (min (Int.toNat 1) (IntKind.bits .u64)))))), (wr ((wr ((Int.fdiv (IntKind.wrap .u64 ((wr (x1 + x3)))) (2 ^ (min (Int.toNat 1) (IntKind.bits .u64)))))) + x2)), (wr ((wr ((wr ((Int.fdiv (IntKind.wrap .u64 ((wr (x1 + x3)))) (2 ^ (min (Int.toNat 1) (IntKind.bits .u64)))))) + x2)) - x3)), (wr ((Int.fdiv (IntKind.wrap .u64 ((wr (x1 + x3)))) (2 ^ (min (Int.toNat 1) (IntKind.bits .u64)))))), (Sc rfl (Sc rfl (Sc rfl (Sc rfl (Sc rfl (Sc rfl (Sc rfl (Sc rfl (Sc rfl Sn))))))))), Sn, h⟩
    ·replace h := ite2_f h e
     refine AWP.seq' ?_
     refine AWP.rgn (F170_r19 (upd (upd (upd (upd (upd (upd E0 19 (sI ((wr ((wr ((Int.fdiv (IntKind.wrap .u64 ((wr (x1 + x3)))) (2 ^ (min (Int.toNat 1) (IntKind.bits .u64)))))) + x2))))) 18 (sI ((wr ((Int.fdiv (IntKind.wrap .u64 ((wr (x1 + x3)))) (2 ^ (min (Int.toNat 1) (IntKind.bits .u64))))))))) 4 (sV x4)) 3 (sI x3)) 2 (sI x2)) 0 (sS x0a x0n x0c)) x1 hp _) ?_ (Ru 1 (Ru 0 (Ru 2 (Ru 3 (Ru 4 (Ru 18 (Ru 19 Rn))))))) (Sc rfl (Sc rfl (Sc rfl (Sc rfl (Sc rfl (Sc rfl (Sc rfl Sn))))))) Sn
     refine AWP.rgn (F170_r20 (upd (upd (upd (upd (upd (upd (upd E0 20 (sI x1)) 19 (sI ((wr ((wr ((Int.fdiv (IntKind.wrap .u64 ((wr (x1 + x3)))) (2 ^ (min (Int.toNat 1) (IntKind.bits .u64)))))) + x2))))) 18 (sI ((wr ((Int.fdiv (IntKind.wrap .u64 ((wr (x1 + x3)))) (2 ^ (min (Int.toNat 1) (IntKind.bits .u64))))))))) 4 (sV x4)) 3 (sI x3)) 1 (sI x1)) 0 (sS x0a x0n x0c)) x2 hp _) ?_ (Ru 2 (Ru 0 (Ru 1 (Ru 3 (Ru 4 (Ru 18 (Ru 19 (Ru 20 Rn)))))))) (Sc rfl (Sc rfl (Sc rfl (Sc rfl (Sc rfl (Sc rfl (Sc rfl (Sc rfl Sn)))))))) Sn
     exact ⟨x0a, x0n, x0c, x1, x2, x3, x4, (wr ((Int.fdiv (IntKind.wrap .u64 ((wr (x1 + x3)))) (2 ^ (min (Int.toNat 1) (IntKind.bits .u64)))))), (wr ((wr ((Int.fdiv (IntKind.wrap .u64 ((wr (x1 + x3)))) (2 ^ (min (Int.toNat 1) (IntKind.bits .u64)))))) + x2)), x1, x2, (Sc rfl (Sc rfl (Sc rfl (Sc rfl (Sc rfl (Sc rfl (Sc rfl (Sc rfl (Sc rfl Sn))))))))), Sn, h⟩
   ·rintro env pv hp ⟨x0a, x0n, x0c, x1, x2, x3, x4, x18, x19, x20, x21, he, hv, h⟩
    refine AWP.sub (env' := (upd (upd (upd (upd (upd (upd (upd (upd (upd E0 21 (sI x21)) 20 (sI x20)) 19 (sI x19)) 18 (sI x18)) 4 (sV x4)) 3 (sI x3)) 2 (sI x2)) 1 (sI x1)) 0 (sS x0a x0n x0c))) (pv' := V0) ?_ (Ru 0 (Ru 1 (Ru 2 (Ru 3 (Ru 4 (Ru 18 (Ru 19 (Ru 20 (Ru 21 Rn))))))))) he hv (HSub.refl _)
    clear he hv
    unfold F170_j3 at h
    refine AWP.seq (fun env pv hp => ∃ (x0a : Option Addr) (x0n : Nat) (x0c : Nat) (x1 : Int) (x2 : Int) (x3 : Int) (x4 : Value) (x18 : Int) (x19 : Int) (x20 : Int) (x21 : Int) (x22 : Int), Sub (upd (upd (upd (upd (upd (upd (upd (upd (upd (upd E0 22 (sI x22)) 21 (sI x21)) 20 (sI x20)) 19 (sI x19)) 18 (sI x18)) 4 (sV x4)) 3 (sI x3)) 2 (sI x2)) 1 (sI x1)) 0 (sS x0a x0n x0c)) env ∧ Sub V0 pv ∧ (F170_j4 x0a x0n x0c x1 x2 x3 x4 x18 x19 x20 x21 x22 hp  K)) ?_ ?_
    ·refine AWP.rgn (F170_r15 (upd (upd (upd (upd (upd (upd (upd (upd E0 21 (sI x21)) 20 (sI x20)) 18 (sI x18)) 4 (sV x4)) 3 (sI x3)) 2 (sI x2)) 1 (sI x1)) 0 (sS x0a x0n x0c)) x19 hp _) ?_ (Ru 19 (Ru 0 (Ru 1 (Ru 2 (Ru 3 (Ru 4 (Ru 18 (Ru 20 (Ru 21 Rn))))))))) (Sc rfl (Sc rfl (Sc rfl (Sc rfl (Sc rfl (Sc rfl (Sc rfl (Sc rfl (Sc rfl Sn))))))))) Sn
     exact ⟨x0a, x0n, x0c, x1, x2, x3, x4, x18, x19, x20, x21, (wr (x19 - 1)), (Sc rfl (Sc rfl (Sc rfl (Sc rfl (Sc rfl (Sc rfl (Sc rfl (Sc rfl (Sc rfl (Sc rfl Sn)))))))))), Sn, h⟩
    ·rintro env pv hp ⟨x0a, x0n, x0c, x1, x2, x3, x4, x18, x19, x20, x21, x22, he, hv, h⟩
     refine AWP.sub (env' := (upd (upd (upd (upd (upd (upd (upd (upd (upd (upd E0 22 (sI x22)) 21 (sI x21)) 20 (sI x20)) 19 (sI x19)) 18 (sI x18)) 4 (sV x4)) 3 (sI x3)) 2 (sI x2)) 1 (sI x1)) 0 (sS x0a x0n x0c))) (pv' := V0) ?_ (Ru 0 (Ru 1 (Ru 2 (Ru 3 (Ru 4 (Ru 18 (Ru 19 (Ru 20 (Ru 21 (Ru 22 Rn)))))))))) he hv (HSub.refl _)
     clear he hv
     unfold F170_j4 at h
     refine AWP.seq (fun env pv hp => ∃ (x0a : Option Addr) (x0n : Nat) (x0c : Nat) (x1 : Int) (x2 : Int) (x3 : Int) (x4 : Value) (x18 : Int) (x19 : Int) (x20 : Int), Sub (upd (upd (upd (upd (upd (upd (upd (upd E0 20 (sI x20)) 19 (sI x19)) 18 (sI x18)) 4 (sV x4)) 3 (sI x3)) 2 (sI x2)) 1 (sI x1)) 0 (sS x0a x0n x0c)) env ∧ Sub V0 pv ∧ (F170_j5 x0a x0n x0c x1 x2 x3 x4 x18 x19 x20 hp  K)) ?_ ?_
     ·refine AWP.block ?_
      refine AWP.loop (σ := Int × Int) (fun I s hp => F170_l11 x0a x0n x0c x1 x2 x3 x4 x18 x19 x22  K I s.1 s.2 hp) (fun s => (upd (upd (upd (upd (upd (upd (upd (upd (upd (upd E0 22 (sI x22)) 21 (sI (s.2))) 20 (sI (s.1))) 19 (sI x19)) 18 (sI x18)) 4 (sV x4)) 3 (sI x3)) 2 (sI x2)) 1 (sI x1)) 0 (sS x0a x0n x0c))) (fun s => V0) (x20, x21) h (fun s => (Ru 0 (Ru 1 (Ru 2 (Ru 3 (Ru 4 (Ru 18 (Ru 19 (Ru 20 (Ru 21 (Ru 22 Rn))))))))))) (Sc rfl (Sc rfl (Sc rfl (Sc rfl (Sc rfl (Sc rfl (Sc rfl (Sc rfl (Sc rfl (Sc rfl Sn)))))))))) Sn ?_
      intro I11 s hp h
      obtain ⟨x20, x21⟩ := s
      replace h : F170_l11 x0a x0n x0c x1 x2 x3 x4 x18 x19 x22  K I11 x20 x21 hp := h
      unfold F170_l11 at h
      refine AWP.seq' ?_
      refine AWP.seq' ?_
      refine AWP.rgn (F170_r10 (upd (upd (upd (upd (upd (upd (upd (upd E0 22 (sI x22)) 19 (sI x19)) 18 (sI x18)) 4 (sV x4)) 3 (sI x3)) 2 (sI x2)) 1 (sI x1)) 0 (sS x0a x0n x0c)) x20 x21 hp _) ?_ (Ru 20 (Ru 21 (Ru 0 (Ru 1 (Ru 2 (Ru 3 (Ru 4 (Ru 18 (Ru 19 (Ru 22 Rn)))))))))) (Sc rfl (Sc rfl (Sc rfl (Sc rfl (Sc rfl (Sc rfl (Sc rfl (Sc rfl (Sc rfl (Sc rfl Sn)))))))))) Sn
      refine AWP.cond (t := (decide (x20 < x21))) rfl (fun e => ?_) (fun e => ?_)
      ·replace h := ite2_t h e
       refine AWP.skip ?_
       refine AWP.block ?_
       refine AWP.seq' ?_
       refine AWP.rgn (F170_r11 (upd (upd (upd (upd (upd (upd (upd (upd E0 22 (sI x22)) 19 (sI x19)) 18 (sI x18)) 4 (sV x4)) 3 (sI x3)) 2 (sI x2)) 1 (sI x1)) 0 (sS x0a x0n x0c)) x20 x21 hp _) ?_ (Ru 20 (Ru 21 (Ru 0 (Ru 1 (Ru 2 (Ru 3 (Ru 4 (Ru 18 (Ru 19 (Ru 22 Rn)))))))))) (Sc rfl (Sc rfl (Sc rfl (Sc rfl (Sc rfl (Sc rfl (Sc rfl (Sc rfl (Sc rfl (Sc rfl Sn)))))))))) Sn
       refine ⟨h.1, ?_⟩
       replace h := h.2
       refine AWP.seq' ?_
       refine AWP.rgnD (by kernel_rfl) (by kernel_rfl) (F170_r12 (upd (upd (upd (upd (upd (upd (upd E0 21 (sI x21)) 20 (sI x20)) 19 (sI x19)) 18 (sI x18)) 3 (sI x3)) 2 (sI x2)) 1 (sI x1)) x0a x0n x0c x4 x22 (wr ((Int.fdiv (IntKind.wrap .u64 ((wr (x20 + x21)))) (2 ^ (min (Int.toNat 1) (IntKind.bits .u64)))))) hp _) ?_ (Ru 0 (Ru 4 (Ru 22 (Ru 23 (Ru 1 (Ru 2 (Ru 3 (Ru 18 (Ru 19 (Ru 20 (Ru 21 Rn))))))))))) (Sc rfl (Sc rfl (Sc rfl (Sc rfl (Sc rfl (Sc rfl (Sc rfl (Sc rfl (Sc rfl (Sc rfl (Sc rfl Sn))))))))))) Sn
       refine ⟨h.1, h.2.1, mN h.2.2 (fun b_7 o_8 h => mL h (fun l_9 h => ⟨h.1, h.2.1, mN h.2.2 fun b_10 o_11 h => mL h fun l_12 h => mF h fun f_13 ga_14 gb_15 h => mC h fun u_16 h_17 h => mI h fun i_18 h => ?_⟩))⟩
       refine AWP.cond (t := (!(decide (i_18 < 0)))) rfl (fun e => ?_) (fun e => ?_)
       ·replace h := ite2_t h e
        refine AWP.rgn (F170_r13 (upd (upd (upd (upd (upd (upd (upd (upd (upd E0 22 (sI x22)) 21 (sI x21)) 19 (sI x19)) 18 (sI x18)) 4 (sV x4)) 3 (sI x3)) 2 (sI x2)) 1 (sI x1)) 0 (sS x0a x0n x0c)) (wr ((Int.fdiv (IntKind.wrap .u64 ((wr (x20 + x21)))) (2 ^ (min (Int.toNat 1) (IntKind.bits .u64)))))) h_17 _) ?_ (Ru 23 (Ru 0 (Ru 1 (Ru 2 (Ru 3 (Ru 4 (Ru 18 (Ru 19 (Ru 21 (Ru 22 Rn)))))))))) (Sc rfl (Sc rfl (Sc rfl (Sc rfl (Sc rfl (Sc rfl (Sc rfl (Sc rfl (Sc rfl (Sc rfl Sn)))))))))) Sn
        exact ⟨((wr ((wr ((Int.fdiv (IntKind.wrap .u64 ((wr (x20 + x21)))) (2 ^ (min (Int.toNat 1) (IntKind.bits .u64)))))) + 1)), x21), (Sc rfl (Sc rfl (Sc rfl (Sc rfl (Sc rfl (Sc rfl (Sc rfl (Sc rfl (Sc rfl (Sc rfl Sn)))))))))), Sn, h⟩
       ·replace h := ite2_f h e
        refine AWP.rgn (F170_r14 (upd (upd (upd (upd (upd (upd (upd (upd (upd E0 22 (sI x22)) 20 (sI x20)) 19 (sI x19)) 18 (sI x18)) 4 (sV x4)) 3 (sI x3)) 2 (sI x2)) 1 (sI x1)) 0 (sS x0a x0n x0c)) (wr ((Int.fdiv (IntKind.wrap .u64 ((wr (x20 + x21)))) (2 ^ (min (Int.toNat 1) (IntKind.bits .u64)))))) h_17 _) ?_ (Ru 23 (Ru 0 (Ru 1 (Ru 2 (Ru 3 (Ru 4 (Ru 18 (Ru 19 (Ru 20 (Ru 22 Rn)))))))))) (Sc rfl (Sc rfl (Sc rfl (Sc rfl (Sc rfl (Sc rfl (Sc rfl (Sc rfl (Sc rfl (Sc rfl Sn)))))))))) Sn
        exact ⟨(x20, (wr ((Int.fdiv (IntKind.wrap .u64 ((wr (x20 + x21)))) (2 ^ (min (Int.toNat 1) (IntKind.bits .u64))))))), (Sc rfl (Sc rfl (Sc rfl (Sc rfl (Sc rfl (Sc rfl (Sc rfl (Sc rfl (Sc rfl (Sc rfl Sn)))))))))), Sn, h⟩
      ·replace h := ite2_f h e
       refine AWP.exit ?_
       exact ⟨x0a, x0n, x0c, x1, x2, x3, x4, x18, x19, x20, (Sc rfl (Sc rfl (Sc rfl (Sc rfl (Sc rfl (Sc rfl (Sc rfl (Sc rfl Sn)))))))), Sn, h⟩
     ·rintro env pv hp ⟨x0a, x0n, x0c, x1, x2, x3, x4, x18, x19, x20, he, hv, h⟩
      refine AWP.sub (env' := (upd (upd (upd (upd (upd (upd (upd (upd E0 20 (sI x20)) 19 (sI x19)) 18 (sI x18)) 4 (sV x4)) 3 (sI x3)) 2 (sI x2)) 1 (sI x1)) 0 (sS x0a x0n x0c))) (pv' := V0) ?_ (Ru 0 (Ru 1 (Ru 2 (Ru 3 (Ru 4 (Ru 18 (Ru 19 (Ru 20 Rn)))))))) he hv (HSub.refl _)
      clear he hv
      unfold F170_j5 at h
      refine AWP.seq' ?_
      refine AWP.rgn (F170_r3 (upd (upd (upd (upd (upd (upd E0 18 (sI x18)) 4 (sV x4)) 3 (sI x3)) 2 (sI x2)) 1 (sI x1)) 0 (sS x0a x0n x0c)) x19 x20 hp _) ?_ (Ru 19 (Ru 20 (Ru 0 (Ru 1 (Ru 2 (Ru 3 (Ru 4 (Ru 18 Rn)))))))) (Sc rfl (Sc rfl (Sc rfl (Sc rfl (Sc rfl (Sc rfl (Sc rfl (Sc rfl Sn)))))))) Sn
      refine AWP.seq (fun env pv hp => ∃ (x0a : Option Addr) (x0n : Nat) (x0c : Nat) (x1 : Int) (x3 : Int) (x4 : Value) (x18 : Int) (x20 : Int) (x24 : Int), Sub (upd (upd (upd (upd (upd (upd (upd E0 24 (sI x24)) 20 (sI x20)) 18 (sI x18)) 4 (sV x4)) 3 (sI x3)) 1 (sI x1)) 0 (sS x0a x0n x0c)) env ∧ Sub V0 pv ∧ (F170_j6 x0a x0n x0c x1 x3 x4 x18 x20 x24 hp  K)) ?_ ?_
      ·refine AWP.seq (fun env pv hp => ∃ (x0a : Option Addr) (x0n : Nat) (x0c : Nat) (x1 : Int) (x2 : Int) (x3 : Int) (x4 : Value) (x18 : Int) (x20 : Int) (x24 : Int) (x185 : Bool), Sub (upd (upd (upd (upd (upd (upd (upd (upd (upd E0 185 (sB x185)) 24 (sI x24)) 20 (sI x20)) 18 (sI x18)) 4 (sV x4)) 3 (sI x3)) 2 (sI x2)) 1 (sI x1)) 0 (sS x0a x0n x0c)) env ∧ Sub V0 pv ∧ (F170_j10 x0a x0n x0c x1 x2 x3 x4 x18 x20 x24 x185 hp  K)) ?_ ?_
       ·refine AWP.rgn (F170_r9 (upd (upd (upd (upd (upd E0 18 (sI x18)) 4 (sV x4)) 3 (sI x3)) 1 (sI x1)) 0 (sS x0a x0n x0c)) x2 x20 (wr (x19 - x20)) hp _) ?_ (Ru 2 (Ru 20 (Ru 24 (Ru 0 (Ru 1 (Ru 3 (Ru 4 (Ru 18 Rn)))))))) (Sc rfl (Sc rfl (Sc rfl (Sc rfl (Sc rfl (Sc rfl (Sc rfl (Sc rfl Sn)))))))) Sn
        refine mt h (fun h => ?_) (fun h => ?_)
        ·exact ⟨x0a, x0n, x0c, x1, x2, x3, x4, x18, x20, (wr (x19 - x20)), (decide (x2 < (wr (x19 - x20)))), (Sc rfl (Sc rfl (Sc rfl (Sc rfl (Sc rfl (Sc rfl (Sc rfl (Sc rfl (Sc rfl Sn))))))))), Sn, h⟩
        ·exact ⟨x0a, x0n, x0c, x1, x2, x3, x4, x18, x20, (wr (x19 - x20)), false, (Sc rfl (Sc rfl (Sc rfl (Sc rfl (Sc rfl (Sc rfl (Sc rfl (Sc rfl (Sc rfl Sn))))))))), Sn, h⟩
       ·rintro env pv hp ⟨x0a, x0n, x0c, x1, x2, x3, x4, x18, x20, x24, x185, he, hv, h⟩
        refine AWP.sub (env' := (upd (upd (upd (upd (upd (upd (upd (upd (upd E0 185 (sB x185)) 24 (sI x24)) 20 (sI x20)) 18 (sI x18)) 4 (sV x4)) 3 (sI x3)) 2 (sI x2)) 1 (sI x1)) 0 (sS x0a x0n x0c))) (pv' := V0) ?_ (Ru 0 (Ru 1 (Ru 2 (Ru 3 (Ru 4 (Ru 18 (Ru 20 (Ru 24 (Ru 185 Rn))))))))) he hv (HSub.refl _)
        clear he hv
        unfold F170_j10 at h
        refine AWP.cond (t := x185) rfl (fun e => ?_) (fun e => ?_)
        ·replace h := ite2_t h e
         refine AWP.rgn (F170_r8 (upd (upd (upd E0 18 (sI x18)) 3 (sI x3)) 1 (sI x1)) x0a x0n x0c x2 x4 x20 x24 hp _) ?_ (Ru 0 (Ru 2 (Ru 4 (Ru 20 (Ru 24 (Ru 1 (Ru 3 (Ru 18 Rn)))))))) (Sc rfl (Sc rfl (Sc rfl (Sc rfl (Sc rfl (Sc rfl (Sc rfl (Sc rfl Sn)))))))) Sn
         refine mC h fun u_5 h_6 h => ?_
         exact ⟨x0a, x0n, x0c, x1, x3, x4, x18, x20, x24, (Sc rfl (Sc rfl (Sc rfl (Sc rfl (Sc rfl (Sc rfl (Sc rfl Sn))))))), Sn, h⟩
        ·replace h := ite2_f h e
         refine AWP.skip ?_
         exact ⟨x0a, x0n, x0c, x1, x3, x4, x18, x20, x24, (Sc rfl (Sc rfl (Sc rfl (Sc rfl (Sc rfl (Sc rfl (Sc rfl Sn))))))), Sn, h⟩
      ·rintro env pv hp ⟨x0a, x0n, x0c, x1, x3, x4, x18, x20, x24, he, hv, h⟩
       refine AWP.sub (env' := (upd (upd (upd (upd (upd (upd (upd E0 24 (sI x24)) 20 (sI x20)) 18 (sI x18)) 4 (sV x4)) 3 (sI x3)) 1 (sI x1)) 0 (sS x0a x0n x0c))) (pv' := V0) ?_ (Ru 0 (Ru 1 (Ru 3 (Ru 4 (Ru 18 (Ru 20 (Ru 24 Rn))))))) he hv (HSub.refl _)
       clear he hv
       unfold F170_j6 at h
       refine AWP.seq (fun env pv hp => ∃ (x0a : Option Addr) (x0n : Nat) (x0c : Nat) (x3 : Int) (x4 : Value) (x18 : Int) (x24 : Int), Sub (upd (upd (upd (upd (upd E0 24 (sI x24)) 18 (sI x18)) 4 (sV x4)) 3 (sI x3)) 0 (sS x0a x0n x0c)) env ∧ Sub V0 pv ∧ (F170_j7 x0a x0n x0c x3 x4 x18 x24 hp  K)) ?_ ?_
       ·refine AWP.seq (fun env pv hp => ∃ (x0a : Option Addr) (x0n : Nat) (x0c : Nat) (x1 : Int) (x3 : Int) (x4 : Value) (x18 : Int) (x20 : Int) (x24 : Int) (x199 : Bool), Sub (upd (upd (upd (upd (upd (upd (upd (upd E0 199 (sB x199)) 24 (sI x24)) 20 (sI x20)) 18 (sI x18)) 4 (sV x4)) 3 (sI x3)) 1 (sI x1)) 0 (sS x0a x0n x0c)) env ∧ Sub V0 pv ∧ (F170_j9 x0a x0n x0c x1 x3 x4 x18 x20 x24 x199 hp  K)) ?_ ?_
        ·refine AWP.rgn (F170_r7 (upd (upd (upd (upd E0 24 (sI x24)) 4 (sV x4)) 3 (sI x3)) 0 (sS x0a x0n x0c)) x1 x18 x20 hp _) ?_ (Ru 1 (Ru 18 (Ru 20 (Ru 0 (Ru 3 (Ru 4 (Ru 24 Rn))))))) (Sc rfl (Sc rfl (Sc rfl (Sc rfl (Sc rfl (Sc rfl (Sc rfl Sn))))))) Sn
         refine mt h (fun h => ?_) (fun h => ?_)
         ·exact ⟨x0a, x0n, x0c, x1, x3, x4, x18, x20, x24, (decide (x20 < x18)), (Sc rfl (Sc rfl (Sc rfl (Sc rfl (Sc rfl (Sc rfl (Sc rfl (Sc rfl Sn)))))))), Sn, h⟩
         ·exact ⟨x0a, x0n, x0c, x1, x3, x4, x18, x20, x24, false, (Sc rfl (Sc rfl (Sc rfl (Sc rfl (Sc rfl (Sc rfl (Sc rfl (Sc rfl Sn)))))))), Sn, h⟩
        ·rintro env pv hp ⟨x0a, x0n, x0c, x1, x3, x4, x18, x20, x24, x199, he, hv, h⟩
         refine AWP.sub (env' := (upd (upd (upd (upd (upd (upd (upd (upd E0 199 (sB x199)) 24 (sI x24)) 20 (sI x20)) 18 (sI x18)) 4 (sV x4)) 3 (sI x3)) 1 (sI x1)) 0 (sS x0a x0n x0c))) (pv' := V0) ?_ (Ru 0 (Ru 1 (Ru 3 (Ru 4 (Ru 18 (Ru 20 (Ru 24 (Ru 199 Rn)))))))) he hv (HSub.refl _)
         clear he hv
         unfold F170_j9 at h
         refine AWP.cond (t := x199) rfl (fun e => ?_) (fun e => ?_)
         ·replace h := ite2_t h e
          refine AWP.rgn (F170_r6 (upd (upd E0 24 (sI x24)) 3 (sI x3)) x0a x0n x0c x1 x4 x18 x20 hp _) ?_ (Ru 0 (Ru 1 (Ru 4 (Ru 18 (Ru 20 (Ru 3 (Ru 24 Rn))))))) (Sc rfl (Sc rfl (Sc rfl (Sc rfl (Sc rfl (Sc rfl (Sc rfl Sn))))))) Sn
          refine mC h fun u_3 h_4 h => ?_
          exact ⟨x0a, x0n, x0c, x3, x4, x18, x24, (Sc rfl (Sc rfl (Sc rfl (Sc rfl (Sc rfl Sn))))), Sn, h⟩
         ·replace h := ite2_f h e
          refine AWP.skip ?_
          exact ⟨x0a, x0n, x0c, x3, x4, x18, x24, (Sc rfl (Sc rfl (Sc rfl (Sc rfl (Sc rfl Sn))))), Sn, h⟩
       ·rintro env pv hp ⟨x0a, x0n, x0c, x3, x4, x18, x24, he, hv, h⟩
        refine AWP.sub (env' := (upd (upd (upd (upd (upd E0 24 (sI x24)) 18 (sI x18)) 4 (sV x4)) 3 (sI x3)) 0 (sS x0a x0n x0c))) (pv' := V0) ?_ (Ru 0 (Ru 3 (Ru 4 (Ru 18 (Ru 24 Rn))))) he hv (HSub.refl _)
        clear he hv
        unfold F170_j7 at h
        refine AWP.seq (fun env pv hp => ∃ (x0a : Option Addr) (x0n : Nat) (x0c : Nat) (x3 : Int) (x4 : Value) (x18 : Int) (x24 : Int) (x213 : Bool), Sub (upd (upd (upd (upd (upd (upd E0 213 (sB x213)) 24 (sI x24)) 18 (sI x18)) 4 (sV x4)) 3 (sI x3)) 0 (sS x0a x0n x0c)) env ∧ Sub V0 pv ∧ (F170_j8 x0a x0n x0c x3 x4 x18 x24 x213 hp  K)) ?_ ?_
        ·refine AWP.rgn (F170_r5 (upd (upd E0 4 (sV x4)) 0 (sS x0a x0n x0c)) x3 x18 x24 hp _) ?_ (Ru 3 (Ru 18 (Ru 24 (Ru 0 (Ru 4 Rn))))) (Sc rfl (Sc rfl (Sc rfl (Sc rfl (Sc rfl Sn))))) Sn
         refine mt h (fun h => ?_) (fun h => ?_)
         ·exact ⟨x0a, x0n, x0c, x3, x4, x18, x24, (decide (x24 < x3)), (Sc rfl (Sc rfl (Sc rfl (Sc rfl (Sc rfl (Sc rfl Sn)))))), Sn, h⟩
         ·exact ⟨x0a, x0n, x0c, x3, x4, x18, x24, false, (Sc rfl (Sc rfl (Sc rfl (Sc rfl (Sc rfl (Sc rfl Sn)))))), Sn, h⟩
        ·rintro env pv hp ⟨x0a, x0n, x0c, x3, x4, x18, x24, x213, he, hv, h⟩
         refine AWP.sub (env' := (upd (upd (upd (upd (upd (upd E0 213 (sB x213)) 24 (sI x24)) 18 (sI x18)) 4 (sV x4)) 3 (sI x3)) 0 (sS x0a x0n x0c))) (pv' := V0) ?_ (Ru 0 (Ru 3 (Ru 4 (Ru 18 (Ru 24 (Ru 213 Rn)))))) he hv (HSub.refl _)
         clear he hv
         unfold F170_j8 at h
         refine AWP.cond (t := x213) rfl (fun e => ?_) (fun e => ?_)
         ·replace h := ite2_t h e
          refine AWP.rgn (F170_r4 E0 x0a x0n x0c x3 x4 x18 x24 hp _) ?_ (Ru 0 (Ru 3 (Ru 4 (Ru 18 (Ru 24 Rn))))) (Sc rfl (Sc rfl (Sc rfl (Sc rfl (Sc rfl Sn))))) Sn
          refine mC h fun u_1 h_2 h => ?_
          exact h
         ·replace h := ite2_f h e
          refine AWP.skip ?_
          exact h
end
-- 188 slices.rotateCmpFunc[interpreter/frag.Piece]
section
variable (e : Env) (x0a : Option Addr) (x0n x0c : Nat) (x1 x2 x3 : Int) (x4 : Value) (x10 x11 : Int) (hp : HP) (K : Env → PV → HP → Prop)
abbrev R188 (p : List Nat) (n : Nat) := RW Try.prog 58 [] (opsAt Try.f188 p) (List.range n)
theorem F188_r0 : R188 [0] 4 (upd (upd e 2 (sI x2)) 1 (sI x1)) V0 hp K =
    (K (upd (upd (upd (upd (upd (upd e 2 (sI x2)) 1 (sI x1)) 12 (sI x2)) 13 (sI x1)) 14 (sI ((wr (x2 - x1))))) 10 (sI ((wr (x2 - x1))))) V0 hp) := by kernel_rfl
theorem F188_r1 : R188 [1, 1, 1] 8 (upd (upd (upd (upd e 10 (sI x10)) 4 (sV x4)) 2 (sI x2)) 0 (sS x0a x0n x0c)) V0 hp K =
    (CF Try.prog 195 [(.slice x0a x0n x0c), (.int .i64 (wr (x2 - x10))), (.int .i64 x2), (.int .i64 x10), x4] hp fun u1 h2 => (K (upd (upd (upd (upd (upd (upd (upd (upd (upd (upd (upd (upd e 10 (sI x10)) 4 (sV x4)) 2 (sI x2)) 0 (sS x0a x0n x0c)) 50 (sS x0a x0n x0c)) 51 (sI x2)) 52 (sI x10)) 53 (sI ((wr (x2 - x10))))) 54 (sI x2)) 55 (sI x10)) 56 (sV x4)) 57 (sV u1)) V0 h2)) := by kernel_rfl
def F188_j2 (x0a : Option Addr) (x0n : Nat) (x0c : Nat) (x2 : Int) (x4 : Value) (x10 : Int) (hp : HP) (K : Value → HP → Prop) : Prop :=
  (CF Try.prog 195 [(.slice x0a x0n x0c), (.int .i64 (IntKind.wrap .i64 (x2 - x10))), (.int .i64 x2), (.int .i64 x10), x4] hp fun u_1 h_2 => (K (.tuple ⟨[]⟩) h_2))
theorem F188_r2 : R188 [1, 1, 0, 0, 0, 0, 0] 3 (upd (upd e 11 (sI x11)) 10 (sI x10)) V0 hp K =
    (K (upd (upd (upd (upd (upd e 11 (sI x11)) 10 (sI x10)) 18 (sI x10)) 19 (sI x11)) 20 (sB ((x10 != x11)))) V0 hp) := by kernel_rfl
theorem F188_r3 : R188 [1, 1, 0, 0, 0, 1, 0, 0] 3 (upd (upd e 11 (sI x11)) 10 (sI x10)) V0 hp K =
    (K (upd (upd (upd (upd (upd e 11 (sI x11)) 10 (sI x10)) 21 (sI x10)) 22 (sI x11)) 23 (sB (decide (x10 > x11)))) V0 hp) := by kernel_rfl
theorem F188_r4 : R188 [1, 1, 0, 0, 0, 1, 0, 1, 0, 0] 8 (upd (upd (upd (upd (upd e 11 (sI x11)) 10 (sI x10)) 4 (sV x4)) 2 (sI x2)) 0 (sS x0a x0n x0c)) V0 hp K =
    (CF Try.prog 195 [(.slice x0a x0n x0c), (.int .i64 (wr (x2 - x10))), (.int .i64 x2), (.int .i64 x11), x4] hp fun u1 h2 => (K (upd (upd (upd (upd (upd (upd (upd (upd (upd (upd (upd (upd (upd e 11 (sI x11)) 10 (sI x10)) 4 (sV x4)) 2 (sI x2)) 0 (sS x0a x0n x0c)) 24 (sS x0a x0n x0c)) 25 (sI x2)) 26 (sI x10)) 27 (sI ((wr (x2 - x10))))) 28 (sI x2)) 29 (sI x11)) 30 (sV x4)) 31 (sV u1)) V0 h2)) := by kernel_rfl
theorem F188_r5 : R188 [1, 1, 0, 0, 0, 1, 0, 1, 0, 1] 4 (upd (upd e 11 (sI x11)) 10 (sI x10)) V0 hp K =
    (K (upd (upd (upd (upd (upd (upd e 11 (sI x11)) 10 (sI x10)) 32 (sI x10)) 33 (sI x11)) 34 (sI ((wr (x10 - x11))))) 10 (sI ((wr (x10 - x11))))) V0 hp) := by kernel_rfl
theorem F188_r6 : R188 [1, 1, 0, 0, 0, 1, 0, 1, 1, 0] 12 (upd (upd (upd (upd (upd e 11 (sI x11)) 10 (sI x10)) 4 (sV x4)) 2 (sI x2)) 0 (sS x0a x0n x0c)) V0 hp K =
    (CF Try.prog 195 [(.slice x0a x0n x0c), (.int .i64 (wr (x2 - x10))), (.int .i64 (wr ((wr (x2 + x11)) - x10))), (.int .i64 x10), x4] hp fun u1 h2 => (K (upd (upd (upd (upd (upd (upd (upd (upd (upd (upd (upd (upd (upd (upd (upd (upd (upd e 11 (sI x11)) 10 (sI x10)) 4 (sV x4)) 2 (sI x2)) 0 (sS x0a x0n x0c)) 35 (sS x0a x0n x0c)) 36 (sI x2)) 37 (sI x10)) 38 (sI ((wr (x2 - x10))))) 39 (sI x2)) 40 (sI x11)) 41 (sI ((wr (x2 + x11))))) 42 (sI x10)) 43 (sI ((wr ((wr (x2 + x11)) - x10))))) 44 (sI x10)) 45 (sV x4)) 46 (sV u1)) V0 h2)) := by kernel_rfl
theorem F188_r7 : R188 [1, 1, 0, 0, 0, 1, 0, 1, 1, 1] 4 (upd (upd e 11 (sI x11)) 10 (sI x10)) V0 hp K =
    (K (upd (upd (upd (upd (upd (upd e 11 (sI x11)) 10 (sI x10)) 47 (sI x11)) 48 (sI x10)) 49 (sI ((wr (x11 - x10))))) 11 (sI ((wr (x11 - x10))))) V0 hp) := by kernel_rfl
def F188_l3 (x0a : Option Addr) (x0n : Nat) (x0c : Nat) (x2 : Int) (x4 : Value) (K : Value → HP → Prop) (I3 : (Int × Int) → HP → Prop) (x10 : Int) (x11 : Int) (hp : HP) : Prop :=
  (ite2 (x10 != x11) (ite2 (decide (x10 > x11)) (CF Try.prog 195 [(.slice x0a x0n x0c), (.int .i64 (IntKind.wrap .i64 (x2 - x10))), (.int .i64 x2), (.int .i64 x11), x4] hp fun u_3 h_4 => (I3 ((IntKind.wrap .i64 (x10 - x11)), x11) h_4)) (CF Try.prog 195 [(.slice x0a x0n x0c), (.int .i64 (IntKind.wrap .i64 (x2 - x10))), (.int .i64 (IntKind.wrap .i64 ((IntKind.wrap .i64 (x2 + x11)) - x10))), (.int .i64 x10), x4] hp fun u_5 h_6 => (I3 (x10, (IntKind.wrap .i64 (x11 - x10))) h_6))) (F188_j2 x0a x0n x0c x2 x4 x10 hp  K))
def F188_j1 (x0a : Option Addr) (x0n : Nat) (x0c : Nat) (x2 : Int) (x4 : Value) (x10 : Int) (x11 : Int) (hp : HP) (K : Value → HP → Prop) : Prop :=
  (LoopP (σ := Int × Int) (fun I s hp => F188_l3 x0a x0n x0c x2 x4  K I s.1 s.2 hp) (x10, x11) hp)
theorem F188_r8 : R188 [1, 0] 4 (upd (upd e 3 (sI x3)) 2 (sI x2)) V0 hp K =
    (K (upd (upd (upd (upd (upd (upd e 3 (sI x3)) 2 (sI x2)) 15 (sI x3)) 16 (sI x2)) 17 (sI ((wr (x3 - x2))))) 11 (sI ((wr (x3 - x2))))) V0 hp) := by kernel_rfl
def F188 (x0a : Option Addr) (x0n : Nat) (x0c : Nat) (x1 : Int) (x2 : Int) (x3 : Int) (x4 : Value) (hp : HP) (K : Value → HP → Prop) : Prop :=
  (F188_j1 x0a x0n x0c x2 x4 (IntKind.wrap .i64 (x2 - x1)) (IntKind.wrap .i64 (x3 - x2)) hp  K)
noncomputable def F188_code : Code := (.seq (.region 0 (opsAt Try.f188 [0]) false) (.seq (.region 1 (opsAt Try.f188 [1, 0]) false) (.seq (.block 0 (.loop (.seq (.seq (.region 2 (opsAt Try.f188 [1, 1, 0, 0, 0, 0, 0]) false) (.cond (.tmp 20) .skip (.exit 0))) (.block 1 (.seq (.region 3 (opsAt Try.f188 [1, 1, 0, 0, 0, 1, 0, 0]) false) (.cond (.tmp 23) (.seq (.region 4 (opsAt Try.f188 [1, 1, 0, 0, 0, 1, 0, 1, 0, 0]) false) (.region 5 (opsAt Try.f188 [1, 1, 0, 0, 0, 1, 0, 1, 0, 1]) false)) (.seq (.region 6 (opsAt Try.f188 [1, 1, 0, 0, 0, 1, 0, 1, 1, 0]) false) (.region 7 (opsAt Try.f188 [1, 1, 0, 0, 0, 1, 0, 1, 1, 1]) false)))))))) (.region 8 (opsAt Try.f188 [1, 1, 1]) false))))
theorem F188_body : Try.f188.body = some F188_code := by kernel_rfl
theorem F188_ok (x0a : Option Addr) (x0n : Nat) (x0c : Nat) (x1 : Int) (x2 : Int) (x3 : Int) (x4 : Value) (hp : HP) (K : Value → HP → Prop) (h : F188 x0a x0n x0c x1 x2 x3 x4 hp K) : CF Try.prog 188 [(.slice x0a x0n x0c), (.int .i64 x1), (.int .i64 x2), (.int .i64 x3), x4] hp K := by
 refine .inl ⟨by kernel_rfl, AC.intro (N := 58) Try.func188 F188_body rfl (Nat.le_of_ble_eq_true rfl) ?_⟩
 unfold F188 at h
 unfold F188_code
 refine AWP.seq' ?_
 refine AWP.rgn (F188_r0 (upd (upd (upd E0 4 (sV x4)) 3 (sI x3)) 0 (sS x0a x0n x0c)) x1 x2 hp _) ?_ (Ru 1 (Ru 2 (Ru 0 (Ru 3 (Ru 4 Rn))))) (Sc rfl (Sc rfl (Sc rfl (Sc rfl (Sc rfl Sn))))) Sn
 refine AWP.seq (fun env pv hp => ∃ (x0a : Option Addr) (x0n : Nat) (x0c : Nat) (x2 : Int) (x4 : Value) (x10 : Int) (x11 : Int), Sub (upd (upd (upd (upd (upd E0 11 (sI x11)) 10 (sI x10)) 4 (sV x4)) 2 (sI x2)) 0 (sS x0a x0n x0c)) env ∧ Sub V0 pv ∧ (F188_j1 x0a x0n x0c x2 x4 x10 x11 hp  K)) ?_ ?_
 ·refine AWP.rgn (F188_r8 (upd (upd (upd E0 10 (sI ((wr (x2 - x1))))) 4 (sV x4)) 0 (sS x0a x0n x0c)) x2 x3 hp _) ?_ (Ru 2 (Ru 3 (Ru 0 (Ru 4 (Ru 10 Rn))))) (Sc rfl (Sc rfl (Sc rfl (Sc rfl (Sc rfl Sn))))) Sn
  exact ⟨x0a, x0n, x0c, x2, x4, (wr (x2 - x1)), (wr (x3 - x2)), (Sc rfl (Sc rfl (Sc rfl (Sc rfl (Sc rfl Sn))))), Sn, h⟩
 ·rintro env pv hp ⟨x0a, x0n, x0c, x2, x4, x10, x11, he, hv, h⟩
  refine AWP.sub (env' := (upd (upd (upd (upd (upd E0 11 (sI x11)) 10 (sI x10)) 4 (sV x4)) 2 (sI x2)) 0 (sS x0a x0n x0c))) (pv' := V0) ?_ (Ru 0 (Ru 2 (Ru 4 (Ru 10 (Ru 11 Rn))))) he hv (HSub.refl _)
  clear he hv
  unfold F188_j1 at h
  refine AWP.seq (fun env pv hp => ∃ (x0a : Option Addr) (x0n : Nat) (x0c : Nat) (x2 : Int) (x4 : Value) (x10 : Int), Sub (upd (upd (upd (upd E0 10 (sI x10)) 4 (sV x4)) 2 (sI x2)) 0 (sS x0a x0n x0c)) env ∧ Sub V0 pv ∧ (F188_j2 x0a x0n x0c x2 x4 x10 hp  K)) ?_ ?_
  ·refine AWP.block ?_
   refine AWP.loop (σ := Int × Int) (fun I s hp => F188_l3 x0a x0n x0c x2 x4  K I s.1 s.2 hp) (fun s => (upd (upd (upd (upd (upd E0 11 (sI (s.2))) 10 (sI (s.1))) 4 (sV x4)) 2 (sI x2)) 0 (sS x0a x0n x0c))) (fun s => V0) (x10, x11) h (fun s => (Ru 0 (Ru 2 (Ru 4 (Ru 10 (Ru 11 Rn)))))) (Sc rfl (Sc rfl (Sc rfl (Sc rfl (Sc rfl Sn))))) Sn ?_
   intro I3 s hp h
   obtain ⟨x10, x11⟩ := s
   replace h : F188_l3 x0a x0n x0c x2 x4  K I3 x10 x11 hp := h
   unfold F188_l3 at h
   refine AWP.seq' ?_
   refine AWP.seq' ?_
   refine AWP.rgn (F188_r2 (upd (upd (upd E0 4 (sV x4)) 2 (sI x2)) 0 (sS x0a x0n x0c)) x10 x11 hp _) ?_ (Ru 10 (Ru 11 (Ru 0 (Ru 2 (Ru 4 Rn))))) (Sc rfl (Sc rfl (Sc rfl (Sc rfl (Sc rfl Sn))))) Sn
   refine AWP.cond (t := (x10 != x11)) rfl (fun e => ?_) (fun e => ?_)
   ·replace h := ite2_t h e
    refine AWP.skip ?_
    refine AWP.block ?_
    refine AWP.seq' ?_
    refine AWP.rgn (F188_r3 (upd (upd (upd E0 4 (sV x4)) 2 (sI x2)) 0 (sS x0a x0n x0c)) x10 x11 hp _) ?_ (Ru 10 (Ru 11 (Ru 0 (Ru 2 (Ru 4 Rn))))) (Sc rfl (Sc rfl (Sc rfl (Sc rfl (Sc rfl Sn))))) Sn
    refine AWP.cond (t := (decide (x10 > x11))) rfl (fun e => ?_) (fun e => ?_)
    ·replace h := ite2_t h e
     refine AWP.seq' ?_
     refine AWP.rgn (F188_r4 E0 x0a x0n x0c x2 x4 x10 x11 hp _) ?_ (Ru 0 (Ru 2 (Ru 4 (Ru 10 (Ru 11 Rn))))) (Sc rfl (Sc rfl (Sc rfl (Sc rfl (Sc rfl Sn))))) Sn
     refine mC h fun u_3 h_4 h => ?_
     refine AWP.rgn (F188_r5 (upd (upd (upd E0 4 (sV x4)) 2 (sI x2)) 0 (sS x0a x0n x0c)) x10 x11 h_4 _) ?_ (Ru 10 (Ru 11 (Ru 0 (Ru 2 (Ru 4 Rn))))) (Sc rfl (Sc rfl (Sc rfl (Sc rfl (Sc rfl Sn))))) Sn
     exact ⟨((wr (x10 - x11)), x11), (Sc rfl (Sc rfl (Sc rfl (Sc rfl (Sc rfl Sn))))), Sn, h⟩
    ·replace h := ite2_f h e
     refine AWP.seq' ?_
     refine AWP.rgn (F188_r6 E0 x0a x0n x0c x2 x4 x10 x11 hp _) ?_ (Ru 0 (Ru 2 (Ru 4 (Ru 10 (Ru 11 Rn))))) (Sc rfl (Sc rfl (Sc rfl (Sc rfl (Sc rfl Sn))))) Sn
     refine mC h fun u_5 h_6 h => ?_
     refine AWP.rgn (F188_r7 (upd (upd (upd E0 4 (sV x4)) 2 (sI x2)) 0 (sS x0a x0n x0c)) x10 x11 h_6 _) ?_ (Ru 10 (Ru 11 (Ru 0 (Ru 2 (Ru 4 Rn))))) (Sc rfl (Sc rfl (Sc rfl (Sc rfl (Sc rfl Sn))))) Sn
     exact ⟨(x10, (wr (x11 - x10))), (Sc rfl (Sc rfl (Sc rfl (Sc rfl (Sc rfl Sn))))), Sn, h⟩
   ·replace h := ite2_f h e
    refine AWP.exit ?_
    exact ⟨x0a, x0n, x0c, x2, x4, x10, (Sc rfl (Sc rfl (Sc rfl (Sc rfl Sn)))), Sn, h⟩
  ·rintro env pv hp ⟨x0a, x0n, x0c, x2, x4, x10, he, hv, h⟩
   refine AWP.sub (env' := (upd (upd (upd (upd E0 10 (sI x10)) 4 (sV x4)) 2 (sI x2)) 0 (sS x0a x0n x0c))) (pv' := V0) ?_ (Ru 0 (Ru 2 (Ru 4 (Ru 10 Rn)))) he hv (HSub.refl _)
   clear he hv
   unfold F188_j2 at h
   refine AWP.rgn (F188_r1 E0 x0a x0n x0c x2 x4 x10 hp _) ?_ (Ru 0 (Ru 2 (Ru 4 (Ru 10 Rn)))) (Sc rfl (Sc rfl (Sc rfl (Sc rfl Sn)))) Sn
   refine mC h fun u_1 h_2 h => ?_
   exact h
end
-- 195 slices.swapRangeCmpFunc[interpreter/frag.Piece]
section
variable (e : Env) (x0a : Option Addr) (x0n x0c : Nat) (x1 x2 x3 x10 : Int) (hp : HP) (K : Env → PV → HP → Prop)
abbrev R195 (p : List Nat) (n : Nat) := RW Try.prog 38 [] (opsAt Try.f195 p) (List.range n)
theorem F195_r0 : R195 [1, 0, 0, 0, 0] 3 (upd (upd e 10 (sI x10)) 3 (sI x3)) V0 hp K =
    (K (upd (upd (upd (upd (upd e 10 (sI x10)) 3 (sI x3)) 11 (sI x10)) 12 (sI x3)) 13 (sB (decide (x10 < x3)))) V0 hp) := by kernel_rfl
theorem F195_r1 : R195 [1, 0, 0, 1, 0, 0] 24 (upd (upd (upd (upd e 10 (sI x10)) 2 (sI x2)) 1 (sI x1)) 0 (sS x0a x0n x0c)) V0 hp K =
    ((0 ≤ ((wr (x2 + x10)) : Int)) ∧ (((wr (x2 + x10)) : Int) < x0n) ∧ (ptrN x0a fun b1 o2 => (ldL (HP.cellN hp b1 (o2 + Int.toNat (wr (x2 + x10)) * 6) 6) fun l3 => ((0 ≤ ((wr (x1 + x10)) : Int)) ∧ (((wr (x1 + x10)) : Int) < x0n) ∧ (ptrN x0a fun b4 o5 => (ldL (HP.cellN hp b4 (o5 + Int.toNat (wr (x1 + x10)) * 6) 6) fun l6 => ((0 ≤ ((wr (x1 + x10)) : Int)) ∧ (((wr (x1 + x10)) : Int) < x0n) ∧ (ptrN x0a fun b7 o8 => ((List.length l3 = 6) ∧ (HP.stN hp b7 (o8 + Int.toNat (wr (x1 + x10)) * 6) l3 fun h9 => ((0 ≤ ((wr (x2 + x10)) : Int)) ∧ (((wr (x2 + x10)) : Int) < x0n) ∧ (ptrN x0a fun b10 o11 => ((List.length l6 = 6) ∧ (HP.stN h9 b10 (o11 + Int.toNat (wr (x2 + x10)) * 6) l6 fun h12 => (K (upd (upd (upd (upd (upd (upd (upd (upd (upd (upd (upd (upd (upd (upd (upd (upd (upd (upd (upd (upd (upd (upd (upd (upd (upd (upd e 10 (sI x10)) 2 (sI x2)) 1 (sI x1)) 0 (sS x0a x0n x0c)) 16 (sS x0a x0n x0c)) 17 (sI x1)) 18 (sI x10)) 19 (sI ((wr (x1 + x10))))) 20 (sS x0a x0n x0c)) 21 (sI x2)) 22 (sI x10)) 23 (sI ((wr (x2 + x10))))) 24 (sS x0a x0n x0c)) 25 (sI x2)) 26 (sI x10)) 27 (sI ((wr (x2 + x10))))) 28 (sV (ptr b1 (o2 + Int.toNat (wr (x2 + x10)) * 6)))) 29 (sA l3)) 30 (sS x0a x0n x0c)) 31 (sI x1)) 32 (sI x10)) 33 (sI ((wr (x1 + x10))))) 34 (sV (ptr b4 (o5 + Int.toNat (wr (x1 + x10)) * 6)))) 35 (sA l6)) 36 (sV (ptr b7 (o8 + Int.toNat (wr (x1 + x10)) * 6)))) 37 (sV (ptr b10 (o11 + Int.toNat (wr (x2 + x10)) * 6)))) V0 h12))))))))))))))) := by kernel_rfl
theorem F195_r2 : R195 [1, 0, 0, 1, 1] 3 (upd e 10 (sI x10)) V0 hp K =
    (K (upd (upd (upd (upd e 10 (sI x10)) 14 (sI x10)) 15 (sI ((wr (x10 + 1))))) 10 (sI ((wr (x10 + 1))))) V0 hp) := by kernel_rfl
def F195_l2 (x0a : Option Addr) (x0n : Nat) (x0c : Nat) (x1 : Int) (x2 : Int) (x3 : Int) (K : Value → HP → Prop) (I2 : (Int) → HP → Prop) (x10 : Int) (hp : HP) : Prop :=
  (ite2 (decide (x10 < x3)) ((0 ≤ ((IntKind.wrap .i64 (x2 + x10)) : Int)) ∧ (((IntKind.wrap .i64 (x2 + x10)) : Int) < x0n) ∧ (ptrN x0a fun b_1 o_2 => (ldL (HP.cellN hp b_1 (o_2 + Int.toNat (IntKind.wrap .i64 (x2 + x10)) * 6) 6) fun l_3 => ((0 ≤ ((IntKind.wrap .i64 (x1 + x10)) : Int)) ∧ (((IntKind.wrap .i64 (x1 + x10)) : Int) < x0n) ∧ (ptrN x0a fun b_4 o_5 => (ldL (HP.cellN hp b_4 (o_5 + Int.toNat (IntKind.wrap .i64 (x1 + x10)) * 6) 6) fun l_6 => ((0 ≤ ((IntKind.wrap .i64 (x1 + x10)) : Int)) ∧ (((IntKind.wrap .i64 (x1 + x10)) : Int) < x0n) ∧ (ptrN x0a fun b_7 o_8 => ((List.length l_3 = 6) ∧ (HP.stN hp b_7 (o_8 + Int.toNat (IntKind.wrap .i64 (x1 + x10)) * 6) l_3 fun h_9 => ((0 ≤ ((IntKind.wrap .i64 (x2 + x10)) : Int)) ∧ (((IntKind.wrap .i64 (x2 + x10)) : Int) < x0n) ∧ (ptrN x0a fun b_10 o_11 => ((List.length l_6 = 6) ∧ (HP.stN h_9 b_10 (o_11 + Int.toNat (IntKind.wrap .i64 (x2 + x10)) * 6) l_6 fun h_12 => (I2 (IntKind.wrap .i64 (x10 + 1)) h_12))))))))))))))) (K (.tuple ⟨[]⟩) hp))
def F195_j1 (x0a : Option Addr) (x0n : Nat) (x0c : Nat) (x1 : Int) (x2 : Int) (x3 : Int) (x10 : Int) (hp : HP) (K : Value → HP → Prop) : Prop :=
  (LoopP (σ := Int) (fun I s hp => F195_l2 x0a x0n x0c x1 x2 x3  K I s hp) x10 hp)
theorem F195_r3 : R195 [0] 1 e V0 hp K =
    (K (upd e 10 (sI 0)) V0 hp) := by kernel_rfl
def F195 (x0a : Option Addr) (x0n : Nat) (x0c : Nat) (x1 : Int) (x2 : Int) (x3 : Int) (x4 : Value) (hp : HP) (K : Value → HP → Prop) : Prop :=
  (F195_j1 x0a x0n x0c x1 x2 x3 0 hp  K)
noncomputable def F195_code : Code := (.seq (.region 0 (opsAt Try.f195 [0]) false) (.block 0 (.loop (.seq (.seq (.region 1 (opsAt Try.f195 [1, 0, 0, 0, 0]) false) (.cond (.tmp 13) .skip (.exit 0))) (.seq (.block 1 (.region 3 (opsAt Try.f195 [1, 0, 0, 1, 0, 0]) true)) (.region 2 (opsAt Try.f195 [1, 0, 0, 1, 1]) false))))))
theorem F195_body : Try.f195.body = some F195_code := by kernel_rfl
theorem F195_ok (x0a : Option Addr) (x0n : Nat) (x0c : Nat) (x1 : Int) (x2 : Int) (x3 : Int) (x4 : Value) (hp : HP) (K : Value → HP → Prop) (h : F195 x0a x0n x0c x1 x2 x3 x4 hp K) : CF Try.prog 195 [(.slice x0a x0n x0c), (.int .i64 x1), (.int .i64 x2), (.int .i64 x3), x4] hp K := by
 refine .inl ⟨by kernel_rfl, AC.intro (N := 38) Try.func195 F195_body rfl (Nat.le_of_ble_eq_true rfl) ?_⟩
 unfold F195 at h
 unfold F195_code
 refine AWP.seq (fun env pv hp => ∃ (x0a : Option Addr) (x0n : Nat) (x0c : Nat) (x1 : Int) (x2 : Int) (x3 : Int) (x10 : Int), Sub (upd (upd (upd (upd (upd E0 10 (sI x10)) 3 (sI x3)) 2 (sI x2)) 1 (sI x1)) 0 (sS x0a x0n x0c)) env ∧ Sub V0 pv ∧ (F195_j1 x0a x0n x0c x1 x2 x3 x10 hp  K)) ?_ ?_
 ·refine AWP.rgn (F195_r3 (upd (upd (upd (upd E0 3 (sI x3)) 2 (sI x2)) 1 (sI x1)) 0 (sS x0a x0n x0c))  hp _) ?_ (Ru 0 (Ru 1 (Ru 2 (Ru 3 Rn)))) (Sc rfl (Sc rfl (Sc rfl (Sc rfl Sn)))) Sn
  exact ⟨x0a, x0n, x0c, x1, x2, x3, 0, (Sc rfl (Sc rfl (Sc rfl (Sc rfl (Sc rfl Sn))))), Sn, h⟩
 ·rintro env pv hp ⟨x0a, x0n, x0c, x1, x2, x3, x10, he, hv, h⟩
  refine AWP.sub (env' := (upd (upd (upd (upd (upd E0 10 (sI x10)) 3 (sI x3)) 2 (sI x2)) 1 (sI x1)) 0 (sS x0a x0n x0c))) (pv' := V0) ?_ (Ru 0 (Ru 1 (Ru 2 (Ru 3 (Ru 10 Rn))))) he hv (HSub.refl _)
  clear he hv
  unfold F195_j1 at h
  refine AWP.block ?_
  refine AWP.loop (σ := Int) (fun I s hp => F195_l2 x0a x0n x0c x1 x2 x3  K I s hp) (fun s => (upd (upd (upd (upd (upd E0 10 (sI s)) 3 (sI x3)) 2 (sI x2)) 1 (sI x1)) 0 (sS x0a x0n x0c))) (fun s => V0) x10 h (fun s => (Ru 0 (Ru 1 (Ru 2 (Ru 3 (Ru 10 Rn)))))) (Sc rfl (Sc rfl (Sc rfl (Sc rfl (Sc rfl Sn))))) Sn ?_
  intro I2 s hp h
  obtain ⟨x10, hs⟩ : ∃ x, x = s := ⟨s, rfl⟩
  subst hs
  replace h : F195_l2 x0a x0n x0c x1 x2 x3  K I2 x10 hp := h
  unfold F195_l2 at h
  refine AWP.seq' ?_
  refine AWP.seq' ?_
  refine AWP.rgn (F195_r0 (upd (upd (upd E0 2 (sI x2)) 1 (sI x1)) 0 (sS x0a x0n x0c)) x3 x10 hp _) ?_ (Ru 3 (Ru 10 (Ru 0 (Ru 1 (Ru 2 Rn))))) (Sc rfl (Sc rfl (Sc rfl (Sc rfl (Sc rfl Sn))))) Sn
  refine AWP.cond (t := (decide (x10 < x3))) rfl (fun e => ?_) (fun e => ?_)
  ·replace h := ite2_t h e
   refine AWP.skip ?_
   refine AWP.seq' ?_
   refine AWP.block ?_
   refine AWP.rgnD (by kernel_rfl) (by kernel_rfl) (F195_r1 (upd E0 3 (sI x3)) x0a x0n x0c x1 x2 x10 hp _) ?_ (Ru 0 (Ru 1 (Ru 2 (Ru 10 (Ru 3 Rn))))) (Sc rfl (Sc rfl (Sc rfl (Sc rfl (Sc rfl Sn))))) Sn
   refine ⟨h.1, h.2.1, mN h.2.2 (fun b_1 o_2 h => mL h (fun l_3 h => ⟨h.1, h.2.1, mN h.2.2 (fun b_4 o_5 h => mL h (fun l_6 h => ⟨h.1, h.2.1, mN h.2.2 (fun b_7 o_8 h => ⟨h.1, mW h.2 (fun h_9 h => ⟨h.1, h.2.1, mN h.2.2 (fun b_10 o_11 h => ⟨h.1, mW h.2 fun h_12 h => ?_⟩)⟩)⟩)⟩))⟩))⟩
   refine AWP.rgn (F195_r2 (upd (upd (upd (upd E0 3 (sI x3)) 2 (sI x2)) 1 (sI x1)) 0 (sS x0a x0n x0c)) x10 h_12 _) ?_ (Ru 10 (Ru 0 (Ru 1 (Ru 2 (Ru 3 Rn))))) (Sc rfl (Sc rfl (Sc rfl (Sc rfl (Sc rfl Sn))))) Sn
   exact ⟨(wr (x10 + 1)), (Sc rfl (Sc rfl (Sc rfl (Sc rfl (Sc rfl Sn))))), Sn, h⟩
  ·replace h := ite2_f h e
   refine AWP.exit ?_
   exact h
end
end Go.Proofs

namespace Go.HL
open Go

/-- The comparison that a sort is handed: whatever the row holds. -/
def CmpOk {α : Type} [Inhabited α] (P : Program) (f : FuncId) (ga gb : List Value) (hp0 : HP) (b : Nat) (e : TypeId) (sp : Nat) (en : α → List Value) (n : Nat) (cf : α → α → Int) : Prop :=
  ∀ (d : Array α) (x y : α) (K : Value → HP → Prop), d.size = n → K (.int .i64 (cf x y)) (HA hp0 b e sp en d) → CF P f (ga ++ [.agg ⟨en x⟩, .agg ⟨en y⟩] ++ gb) (HA hp0 b e sp en d) K

def ltC {α : Type} (cf : α → α → Int) (x y : α) : Bool := decide (cf x y < 0)
theorem swp_size {α : Type} [Inhabited α] (d : Array α) (i j : Nat) : (Sort.swp d i j).size = d.size := by simp [Sort.swp]
end Go.HL

set_option linter.unusedVariables false
set_option maxRecDepth 20000
namespace Go.Proofs
open Go Go.HL
-- 96 cmp.Or[int]
section
variable (e : Env) (x0a : Option Addr) (x0n x0c : Nat) (x3 x5 : Int) (x6a : Option Addr) (x6n x6c : Nat) (x7 x8 : Int) (hp : HP) (K : Env → PV → HP → Prop)
abbrev R96 (p : List Nat) (n : Nat) := RW Try.prog 18 [] (opsAt Try.f96 p) (List.range n)
theorem F96_r0 : R96 [0] 1 e V0 hp K =
    (K (upd e 2 (sI 0)) V0 hp) := by kernel_rfl
theorem F96_r1 : R96 [1, 0] 1 e V0 hp K =
    (K (upd e 3 (sI 0)) V0 hp) := by kernel_rfl
theorem F96_r2 : R96 [1, 1, 1, 0] 2 (upd e 3 (sI x3)) V0 hp K =
    (K (upd (upd (upd e 3 (sI x3)) 17 (sI x3)) 2 (sI x3)) V0 hp) := by kernel_rfl
def F96_j1 (x3 : Int) (hp : HP) (K : Value → HP → Prop) : Prop :=
  (K (.int .i64 x3) hp)
theorem F96_r3 : R96 [1, 1, 0, 1, 0, 0, 0] 1 (upd (upd e 8 (sI x8)) 7 (sI x7)) V0 hp K =
    (K (upd (upd (upd e 8 (sI x8)) 7 (sI x7)) 9 (sB (decide (x8 < x7)))) V0 hp) := by kernel_rfl
theorem F96_r4 : R96 [1, 1, 0, 1, 0, 0, 1, 1, 0, 0, 0] 3 (upd (upd e 8 (sI x8)) 6 (sS x6a x6n x6c)) V0 hp K =
    ((0 ≤ x8) ∧ (x8 < x6n) ∧ (ptrN x6a fun b1 o2 => (ldV (HP.cell hp b1 (o2 + Int.toNat x8 * 1)) fun v3 => (intV v3 .i64 fun i4 => (K (upd (upd (upd (upd (upd e 8 (sI x8)) 6 (sS x6a x6n x6c)) 10 (sQ b1 (o2 + Int.toNat x8 * 1))) 11 (sI i4)) 5 (sI i4)) V0 hp))))) := by kernel_rfl
theorem F96_r5 : R96 [1, 1, 0, 1, 0, 0, 1, 1, 0, 0, 1, 0] 3 (upd (upd e 5 (sI x5)) 3 (sI x3)) V0 hp K =
    (K (upd (upd (upd (upd (upd e 5 (sI x5)) 3 (sI x3)) 12 (sI x5)) 13 (sI x3)) 14 (sB ((x5 != x3)))) V0 hp) := by kernel_rfl
theorem F96_r6 : R96 [1, 1, 0, 1, 0, 0, 1, 1, 0, 0, 1, 1, 0, 0] 2 (upd e 5 (sI x5)) V0 hp K =
    (K (upd (upd (upd e 5 (sI x5)) 15 (sI x5)) 2 (sI x5)) V0 hp) := by kernel_rfl
theorem F96_r7 : R96 [1, 1, 0, 1, 0, 0, 1, 1, 1] 2 (upd e 8 (sI x8)) V0 hp K =
    (K (upd (upd (upd e 8 (sI x8)) 16 (sI ((wr (x8 + 1))))) 8 (sI ((wr (x8 + 1))))) V0 hp) := by kernel_rfl
def F96_l3 (x3 : Int) (x6a : Option Addr) (x6n : Nat) (x6c : Nat) (x7 : Int) (K : Value → HP → Prop) (I3 : (Int) → HP → Prop) (x8 : Int) (hp : HP) : Prop :=
  (ite2 (decide (x8 < x7)) ((0 ≤ x8) ∧ (x8 < x6n) ∧ (ptrN x6a fun b_1 o_2 => (ldV (HP.cell hp b_1 (o_2 + Int.toNat x8 * 1)) fun v_3 => (intV v_3 .i64 fun i_4 => (ite2 (i_4 != x3) (K (.int .i64 i_4) hp) (I3 (IntKind.wrap .i64 (x8 + 1)) hp)))))) (F96_j1 x3 hp  K))
def F96_j2 (x3 : Int) (x6a : Option Addr) (x6n : Nat) (x6c : Nat) (x7 : Int) (x8 : Int) (hp : HP) (K : Value → HP → Prop) : Prop :=
  (LoopP (σ := Int) (fun I s hp => F96_l3 x3 x6a x6n x6c x7  K I s hp) x8 hp)
theorem F96_r8 : R96 [1, 1, 0, 0] 3 (upd e 0 (sS x0a x0n x0c)) V0 hp K =
    (K (upd (upd (upd (upd e 0 (sS x0a x0n x0c)) 6 (sS x0a x0n x0c)) 7 (sI ((x0n : Nat)))) 8 (sI 0)) V0 hp) := by kernel_rfl
def F96 (x0a : Option Addr) (x0n : Nat) (x0c : Nat) (hp : HP) (K : Value → HP → Prop) : Prop :=
  (F96_j2 0 x0a x0n x0c (x0n : Nat) 0 hp  K)
noncomputable def F96_code : Code := (.seq (.region 0 (opsAt Try.f96 [0]) false) (.seq (.region 1 (opsAt Try.f96 [1, 0]) false) (.seq (.seq (.region 2 (opsAt Try.f96 [1, 1, 0, 0]) false) (.block 0 (.loop (.seq (.region 3 (opsAt Try.f96 [1, 1, 0, 1, 0, 0, 0]) false) (.seq (.cond (.tmp 9) .skip (.exit 0)) (.seq (.block 1 (.seq (.region 4 (opsAt Try.f96 [1, 1, 0, 1, 0, 0, 1, 1, 0, 0, 0]) false) (.seq (.region 5 (opsAt Try.f96 [1, 1, 0, 1, 0, 0, 1, 1, 0, 0, 1, 0]) false) (.cond (.tmp 14) (.seq (.region 6 (opsAt Try.f96 [1, 1, 0, 1, 0, 0, 1, 1, 0, 0, 1, 1, 0, 0]) false) .ret) .skip)))) (.region 7 (opsAt Try.f96 [1, 1, 0, 1, 0, 0, 1, 1, 1]) false))))))) (.seq (.region 8 (opsAt Try.f96 [1, 1, 1, 0]) false) .ret))))
theorem F96_body : Try.f96.body = some F96_code := by kernel_rfl
theorem F96_ok (x0a : Option Addr) (x0n : Nat) (x0c : Nat) (hp : HP) (K : Value → HP → Prop) (h : F96 x0a x0n x0c hp K) : CF Try.prog 96 [(.slice x0a x0n x0c)] hp K := by
 refine .inl ⟨by kernel_rfl, AC.intro (N := 18) Try.func96 F96_body rfl (Nat.le_of_ble_eq_true rfl) ?_⟩
 unfold F96 at h
 unfold F96_code
 refine AWP.seq' ?_
 refine AWP.rgn (F96_r0 (upd E0 0 (sS x0a x0n x0c))  hp _) ?_ (Ru 0 Rn) (Sc rfl Sn) Sn
 refine AWP.seq' ?_
 refine AWP.rgn (F96_r1 (upd E0 0 (sS x0a x0n x0c))  hp _) ?_ (Ru 0 Rn) (Sc rfl Sn) Sn
 refine AWP.seq (fun env pv hp => ∃ (x3 : Int), Sub (upd E0 3 (sI x3)) env ∧ Sub V0 pv ∧ (F96_j1 x3 hp  K)) ?_ ?_
 ·refine AWP.seq (fun env pv hp => ∃ (x3 : Int) (x6a : Option Addr) (x6n : Nat) (x6c : Nat) (x7 : Int) (x8 : Int), Sub (upd (upd (upd (upd E0 8 (sI x8)) 7 (sI x7)) 6 (sS x6a x6n x6c)) 3 (sI x3)) env ∧ Sub V0 pv ∧ (F96_j2 x3 x6a x6n x6c x7 x8 hp  K)) ?_ ?_
  ·refine AWP.rgn (F96_r8 (upd E0 3 (sI 0)) x0a x0n x0c hp _) ?_ (Ru 0 (Ru 3 Rn)) (Sc rfl (Sc rfl Sn)) Sn
   exact ⟨0, x0a, x0n, x0c, (x0n : Nat), 0, (Sc rfl (Sc rfl (Sc rfl (Sc rfl Sn)))), Sn, h⟩
  ·rintro env pv hp ⟨x3, x6a, x6n, x6c, x7, x8, he, hv, h⟩
   refine AWP.sub (env' := (upd (upd (upd (upd E0 8 (sI x8)) 7 (sI x7)) 6 (sS x6a x6n x6c)) 3 (sI x3))) (pv' := V0) ?_ (Ru 3 (Ru 6 (Ru 7 (Ru 8 Rn)))) he hv (HSub.refl _)
   clear he hv
   unfold F96_j2 at h
   refine AWP.block ?_
   refine AWP.loop (σ := Int) (fun I s hp => F96_l3 x3 x6a x6n x6c x7  K I s hp) (fun s => (upd (upd (upd (upd E0 8 (sI s)) 7 (sI x7)) 6 (sS x6a x6n x6c)) 3 (sI x3))) (fun s => V0) x8 h (fun s => (Ru 3 (Ru 6 (Ru 7 (Ru 8 Rn))))) (Sc rfl (Sc rfl (Sc rfl (Sc rfl Sn)))) Sn ?_
   intro I3 s hp h
   obtain ⟨x8, hs⟩ : ∃ x, x = s := ⟨s, rfl⟩
   subst hs
   replace h : F96_l3 x3 x6a x6n x6c x7  K I3 x8 hp := h
   unfold F96_l3 at h
   refine AWP.seq' ?_
   refine AWP.rgn (F96_r3 (upd (upd E0 6 (sS x6a x6n x6c)) 3 (sI x3)) x7 x8 hp _) ?_ (Ru 7 (Ru 8 (Ru 3 (Ru 6 Rn)))) (Sc rfl (Sc rfl (Sc rfl (Sc rfl Sn)))) Sn
   refine AWP.seq' ?_
   refine AWP.cond (t := (decide (x8 < x7))) rfl (fun e => ?_) (fun e => ?_)
   ·replace h := ite2_t h e
    refine AWP.skip ?_
    refine AWP.seq' ?_
    refine AWP.block ?_
    refine AWP.seq' ?_
    refine AWP.rgn (F96_r4 (upd (upd E0 7 (sI x7)) 3 (sI x3)) x6a x6n x6c x8 hp _) ?_ (Ru 6 (Ru 8 (Ru 3 (Ru 7 Rn)))) (Sc rfl (Sc rfl (Sc rfl (Sc rfl Sn)))) Sn
    refine ⟨h.1, h.2.1, mN h.2.2 fun b_1 o_2 h => mV h fun v_3 h => mI h fun i_4 h => ?_⟩
    refine AWP.seq' ?_
    refine AWP.rgn (F96_r5 (upd (upd (upd E0 8 (sI x8)) 7 (sI x7)) 6 (sS x6a x6n x6c)) x3 i_4 hp _) ?_ (Ru 3 (Ru 5 (Ru 6 (Ru 7 (Ru 8 Rn))))) (Sc rfl (Sc rfl (Sc rfl (Sc rfl (Sc rfl Sn))))) Sn
    refine AWP.cond (t := (i_4 != x3)) rfl (fun e => ?_) (fun e => ?_)
    ·replace h := ite2_t h e
     refine AWP.seq' ?_
     refine AWP.rgn (F96_r6 E0 i_4 hp _) ?_ (Ru 5 Rn) (Sc rfl Sn) Sn
     refine AWP.ret ?_
     exact h
    ·replace h := ite2_f h e
     refine AWP.skip ?_
     refine AWP.rgn (F96_r7 (upd (upd (upd E0 7 (sI x7)) 6 (sS x6a x6n x6c)) 3 (sI x3)) x8 hp _) ?_ (Ru 8 (Ru 3 (Ru 6 (Ru 7 Rn)))) (Sc rfl (Sc rfl (Sc rfl (Sc rfl Sn)))) Sn
     exact ⟨(wr (x8 + 1)), (Sc rfl (Sc rfl (Sc rfl (Sc rfl Sn)))), Sn, h⟩
   ·replace h := ite2_f h e
    refine AWP.exit ?_
    exact ⟨x3, (Sc rfl Sn), Sn, h⟩
 ·rintro env pv hp ⟨x3, he, hv, h⟩
  refine AWP.sub (env' := (upd E0 3 (sI x3))) (pv' := V0) ?_ (Ru 3 Rn) he hv (HSub.refl _)
  clear he hv
  unfold F96_j1 at h
  refine AWP.seq' ?_
  refine AWP.rgn (F96_r2 E0 x3 hp _) ?_ (Ru 3 Rn) (Sc rfl Sn) Sn
  refine AWP.ret ?_
  exact h
end
-- 97 cmp.Compare[int]
section
variable (e : Env) (x0 x1 : Int) (x5 x6 : Bool) (hp : HP) (K : Env → PV → HP → Prop)
abbrev R97 (p : List Nat) (n : Nat) := RW Try.prog 20 [] (opsAt Try.f97 p) (List.range n)
theorem F97_r0 : R97 [0] 1 e V0 hp K =
    (K (upd e 4 (sI 0)) V0 hp) := by kernel_rfl
theorem F97_r1 : R97 [1, 0] 3 (upd e 0 (sI x0)) V0 hp K =
    (CF Try.prog 131 [(.int .i64 x0)] hp fun u1 h2 => (boolV u1 fun q3 => (K (upd (upd (upd (upd e 0 (sI x0)) 7 (sI x0)) 8 (sB q3)) 5 (sB q3)) V0 h2))) := by kernel_rfl
theorem F97_r2 : R97 [1, 1, 0] 3 (upd e 1 (sI x1)) V0 hp K =
    (CF Try.prog 131 [(.int .i64 x1)] hp fun u1 h2 => (boolV u1 fun q3 => (K (upd (upd (upd (upd e 1 (sI x1)) 9 (sI x1)) 10 (sB q3)) 6 (sB q3)) V0 h2))) := by kernel_rfl
theorem F97_r3 : R97 [1, 1, 1, 0, 0] 1 (upd e 5 (sB x5)) V0 hp K =
    (K (upd (upd e 5 (sB x5)) 11 (sB x5)) V0 hp) := by kernel_rfl
theorem F97_r4 : R97 [1, 1, 1, 0, 1, 0, 0, 0] 1 (upd e 6 (sB x6)) V0 hp K =
    (K (upd (upd e 6 (sB x6)) 12 (sB x6)) V0 hp) := by kernel_rfl
theorem F97_r5 : R97 [1, 1, 1, 0, 1, 0, 0, 1, 0, 0] 1 e V0 hp K =
    (K (upd e 4 (sI 0)) V0 hp) := by kernel_rfl
theorem F97_r6 : R97 [1, 1, 1, 0, 1, 0, 1, 0] 1 e V0 hp K =
    (K (upd e 4 (sI ((-1)))) V0 hp) := by kernel_rfl
theorem F97_r7 : R97 [1, 1, 1, 1, 0, 0] 1 (upd e 6 (sB x6)) V0 hp K =
    (K (upd (upd e 6 (sB x6)) 13 (sB x6)) V0 hp) := by kernel_rfl
theorem F97_r8 : R97 [1, 1, 1, 1, 0, 1, 0, 0] 1 e V0 hp K =
    (K (upd e 4 (sI 1)) V0 hp) := by kernel_rfl
theorem F97_r9 : R97 [1, 1, 1, 1, 1, 0, 0] 3 (upd (upd e 1 (sI x1)) 0 (sI x0)) V0 hp K =
    (K (upd (upd (upd (upd (upd e 1 (sI x1)) 0 (sI x0)) 14 (sI x0)) 15 (sI x1)) 16 (sB (decide (x0 < x1)))) V0 hp) := by kernel_rfl
theorem F97_r10 : R97 [1, 1, 1, 1, 1, 0, 1, 0, 0] 1 e V0 hp K =
    (K (upd e 4 (sI ((-1)))) V0 hp) := by kernel_rfl
theorem F97_r11 : R97 [1, 1, 1, 1, 1, 1, 0, 0] 3 (upd (upd e 1 (sI x1)) 0 (sI x0)) V0 hp K =
    (K (upd (upd (upd (upd (upd e 1 (sI x1)) 0 (sI x0)) 17 (sI x0)) 18 (sI x1)) 19 (sB (decide (x0 > x1)))) V0 hp) := by kernel_rfl
theorem F97_r12 : R97 [1, 1, 1, 1, 1, 1, 0, 1, 0, 0] 1 e V0 hp K =
    (K (upd e 4 (sI 1)) V0 hp) := by kernel_rfl
theorem F97_r13 : R97 [1, 1, 1, 1, 1, 1, 1, 0] 1 e V0 hp K =
    (K (upd e 4 (sI 0)) V0 hp) := by kernel_rfl
def F97 (x0 : Int) (x1 : Int) (hp : HP) (K : Value → HP → Prop) : Prop :=
  (CF Try.prog 131 [(.int .i64 x0)] hp fun u_1 h_2 => (boolV u_1 fun q_3 => (CF Try.prog 131 [(.int .i64 x1)] h_2 fun u_4 h_5 => (boolV u_4 fun q_6 => (ite2 q_3 (ite2 q_6 (K (.int .i64 0) h_5) (K (.int .i64 (-1)) h_5)) (ite2 q_6 (K (.int .i64 1) h_5) (ite2 (decide (x0 < x1)) (K (.int .i64 (-1)) h_5) (ite2 (decide (x0 > x1)) (K (.int .i64 1) h_5) (K (.int .i64 0) h_5)))))))))
noncomputable def F97_code : Code := (.seq (.region 0 (opsAt Try.f97 [0]) false) (.seq (.region 1 (opsAt Try.f97 [1, 0]) false) (.seq (.region 2 (opsAt Try.f97 [1, 1, 0]) false) (.seq (.seq (.region 3 (opsAt Try.f97 [1, 1, 1, 0, 0]) false) (.cond (.tmp 11) (.seq (.seq (.region 4 (opsAt Try.f97 [1, 1, 1, 0, 1, 0, 0, 0]) false) (.cond (.tmp 12) (.seq (.region 5 (opsAt Try.f97 [1, 1, 1, 0, 1, 0, 0, 1, 0, 0]) false) .ret) .skip)) (.seq (.region 6 (opsAt Try.f97 [1, 1, 1, 0, 1, 0, 1, 0]) false) .ret)) .skip)) (.seq (.seq (.region 7 (opsAt Try.f97 [1, 1, 1, 1, 0, 0]) false) (.cond (.tmp 13) (.seq (.region 8 (opsAt Try.f97 [1, 1, 1, 1, 0, 1, 0, 0]) false) .ret) .skip)) (.seq (.seq (.region 9 (opsAt Try.f97 [1, 1, 1, 1, 1, 0, 0]) false) (.cond (.tmp 16) (.seq (.region 10 (opsAt Try.f97 [1, 1, 1, 1, 1, 0, 1, 0, 0]) false) .ret) .skip)) (.seq (.seq (.region 11 (opsAt Try.f97 [1, 1, 1, 1, 1, 1, 0, 0]) false) (.cond (.tmp 19) (.seq (.region 12 (opsAt Try.f97 [1, 1, 1, 1, 1, 1, 0, 1, 0, 0]) false) .ret) .skip)) (.seq (.region 13 (opsAt Try.f97 [1, 1, 1, 1, 1, 1, 1, 0]) false) .ret))))))))
theorem F97_body : Try.f97.body = some F97_code := by kernel_rfl
theorem F97_ok (x0 : Int) (x1 : Int) (hp : HP) (K : Value → HP → Prop) (h : F97 x0 x1 hp K) : CF Try.prog 97 [(.int .i64 x0), (.int .i64 x1)] hp K := by
 refine .inl ⟨by kernel_rfl, AC.intro (N := 20) Try.func97 F97_body rfl (Nat.le_of_ble_eq_true rfl) ?_⟩
 unfold F97 at h
 unfold F97_code
 refine AWP.seq' ?_
 refine AWP.rgn (F97_r0 (upd (upd E0 1 (sI x1)) 0 (sI x0))  hp _) ?_ (Ru 0 (Ru 1 Rn)) (Sc rfl (Sc rfl Sn)) Sn
 refine AWP.seq' ?_
 refine AWP.rgn (F97_r1 (upd E0 1 (sI x1)) x0 hp _) ?_ (Ru 0 (Ru 1 Rn)) (Sc rfl (Sc rfl Sn)) Sn
 refine mC h fun u_1 h_2 h => mB h fun q_3 h => ?_
 refine AWP.seq' ?_
 refine AWP.rgn (F97_r2 (upd (upd E0 5 (sB q_3)) 0 (sI x0)) x1 h_2 _) ?_ (Ru 1 (Ru 0 (Ru 5 Rn))) (Sc rfl (Sc rfl (Sc rfl Sn))) Sn
 refine mC h fun u_4 h_5 h => mB h fun q_6 h => ?_
 refine AWP.seq' ?_
 refine AWP.seq' ?_
 refine AWP.rgn (F97_r3 (upd (upd (upd E0 6 (sB q_6)) 1 (sI x1)) 0 (sI x0)) q_3 h_5 _) ?_ (Ru 5 (Ru 0 (Ru 1 (Ru 6 Rn)))) (Sc rfl (Sc rfl (Sc rfl (Sc rfl Sn)))) Sn
 refine AWP.cond (t := q_3) rfl (fun e => ?_) (fun e => ?_)
 ·replace h := ite2_t h e
  refine AWP.seq' ?_
  refine AWP.seq' ?_
  refine AWP.rgn (F97_r4 E0 q_6 h_5 _) ?_ (Ru 6 Rn) (Sc rfl Sn) Sn
  refine AWP.cond (t := q_6) rfl (fun e => ?_) (fun e => ?_)
  ·replace h := ite2_t h e
   refine AWP.seq' ?_
   refine AWP.rgn (F97_r5 E0  h_5 _) ?_ Rn Sn Sn
   refine AWP.ret ?_
   exact h
  ·replace h := ite2_f h e
   refine AWP.skip ?_
   refine AWP.seq' ?_
   refine AWP.rgn (F97_r6 E0  h_5 _) ?_ Rn Sn Sn
   refine AWP.ret ?_
   exact h
 ·replace h := ite2_f h e
  refine AWP.skip ?_
  refine AWP.seq' ?_
  refine AWP.seq' ?_
  refine AWP.rgn (F97_r7 (upd (upd E0 1 (sI x1)) 0 (sI x0)) q_6 h_5 _) ?_ (Ru 6 (Ru 0 (Ru 1 Rn))) (Sc rfl (Sc rfl (Sc rfl Sn))) Sn
  refine AWP.cond (t := q_6) rfl (fun e => ?_) (fun e => ?_)
  ·replace h := ite2_t h e
   refine AWP.seq' ?_
   refine AWP.rgn (F97_r8 E0  h_5 _) ?_ Rn Sn Sn
   refine AWP.ret ?_
   exact h
  ·replace h := ite2_f h e
   refine AWP.skip ?_
   refine AWP.seq' ?_
   refine AWP.seq' ?_
   refine AWP.rgn (F97_r9 E0 x0 x1 h_5 _) ?_ (Ru 0 (Ru 1 Rn)) (Sc rfl (Sc rfl Sn)) Sn
   refine AWP.cond (t := (decide (x0 < x1))) rfl (fun e => ?_) (fun e => ?_)
   ·replace h := ite2_t h e
    refine AWP.seq' ?_
    refine AWP.rgn (F97_r10 E0  h_5 _) ?_ Rn Sn Sn
    refine AWP.ret ?_
    exact h
   ·replace h := ite2_f h e
    refine AWP.skip ?_
    refine AWP.seq' ?_
    refine AWP.seq' ?_
    refine AWP.rgn (F97_r11 E0 x0 x1 h_5 _) ?_ (Ru 0 (Ru 1 Rn)) (Sc rfl (Sc rfl Sn)) Sn
    refine AWP.cond (t := (decide (x0 > x1))) rfl (fun e => ?_) (fun e => ?_)
    ·replace h := ite2_t h e
     refine AWP.seq' ?_
     refine AWP.rgn (F97_r12 E0  h_5 _) ?_ Rn Sn Sn
     refine AWP.ret ?_
     exact h
    ·replace h := ite2_f h e
     refine AWP.skip ?_
     refine AWP.seq' ?_
     refine AWP.rgn (F97_r13 E0  h_5 _) ?_ Rn Sn Sn
     refine AWP.ret ?_
     exact h
end
-- 131 cmp.isNaN[int]
section
variable (e : Env) (x0 : Int) (hp : HP) (K : Env → PV → HP → Prop)
abbrev R131 (p : List Nat) (n : Nat) := RW Try.prog 6 [] (opsAt Try.f131 p) (List.range n)
theorem F131_r0 : R131 [0] 1 e V0 hp K =
    (K (upd e 2 (sB false)) V0 hp) := by kernel_rfl
theorem F131_r1 : R131 [1, 0] 4 (upd e 0 (sI x0)) V0 hp K =
    (K (upd (upd (upd (upd (upd e 0 (sI x0)) 3 (sI x0)) 4 (sI x0)) 5 (sB ((x0 != x0)))) 2 (sB ((x0 != x0)))) V0 hp) := by kernel_rfl
def F131 (x0 : Int) (hp : HP) (K : Value → HP → Prop) : Prop :=
  (K (.bool (x0 != x0)) hp)
noncomputable def F131_code : Code := (.seq (.region 0 (opsAt Try.f131 [0]) false) (.seq (.region 1 (opsAt Try.f131 [1, 0]) false) .ret))
theorem F131_body : Try.f131.body = some F131_code := by kernel_rfl
theorem F131_ok (x0 : Int) (hp : HP) (K : Value → HP → Prop) (h : F131 x0 hp K) : CF Try.prog 131 [(.int .i64 x0)] hp K := by
 refine .inl ⟨by kernel_rfl, AC.intro (N := 6) Try.func131 F131_body rfl (Nat.le_of_ble_eq_true rfl) ?_⟩
 unfold F131 at h
 unfold F131_code
 refine AWP.seq' ?_
 refine AWP.rgn (F131_r0 (upd E0 0 (sI x0))  hp _) ?_ (Ru 0 Rn) (Sc rfl Sn) Sn
 refine AWP.seq' ?_
 refine AWP.rgn (F131_r1 E0 x0 hp _) ?_ (Ru 0 Rn) (Sc rfl Sn) Sn
 refine AWP.ret ?_
 exact h
end
end Go.Proofs

