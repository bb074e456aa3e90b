/- Parts of the proof of KnownProof: the logic of what is known of memory, functions' contracts. -/
import Derived.Test.YtidoceleobdkmaaKnD
import Derived.Test.YtidoceleobdkmaaHlAbb
import Derived.Test.YtidoceleobdkmaaProg
set_option linter.unusedVariables false
set_option maxRecDepth 20000
namespace Go.Proofs
open Go Go.HL
-- 11 interpreter/interpreterlaw18.PoolKnown
theorem F11_r0 (e : Env) (hp : HP) (K : Env → PV → HP → Prop) : RW Try.prog 247 [5, 7, 9, 11, 15, 28] (opsAt Try.f11 [0]) (List.range 1) e V0 hp K =
    (K (upd e 0 (sB (false))) V0 hp) := by kernel_rfl
theorem F11_r1 (e : Env) (hp : HP) (K : Env → PV → HP → Prop) : RW Try.prog 247 [5, 7, 9, 11, 15, 28] (opsAt Try.f11 [1, 0]) (List.range 9) e V0 hp K =
    (CF Try.prog 52 [] hp fun u1 h2 => (aggV u1 fun l3 => (CF Try.prog 53 [] h2 fun u4 h5 => (aggV u4 fun l6 => (if List.length l3 = 4 then (if List.length l6 = 4 then (∀ b7 : Nat, h5 b7 = .none → (CF Try.prog 44 [(Value.slice (some ⟨b7, 0, none⟩) 2 2), (Value.int .i64 1020), (Value.int .i64 1027)] (HP.set h5 b7 (.cells 73 (splice (splice [(Value.int .u8 0), (Value.int .u8 0), (Value.int .u8 0), (Value.int .u8 0), (Value.int .u8 0), (Value.int .u8 0), (Value.int .u8 0), (Value.int .u8 0)] 0 l3) 4 l6) 0)) fun u8 h9 => (tup2V u8 fun u10 u11 => (ptrV u10 fun p12 => (intV u11 .i64 fun i13 => (K (upd (upd (upd (upd (upd (upd (upd (upd (upd e 31 (sV (Value.agg ⟨l3⟩))) 32 (sV (Value.agg ⟨l6⟩))) 33 (sV (Value.slice (some ⟨b7, 0, none⟩) 2 2))) 34 (sV (Value.tuple ⟨[(Value.pointer p12), (Value.int .i64 i13)]⟩))) 30 (sV (Value.tuple ⟨[(Value.pointer p12), (Value.int .i64 i13)]⟩))) 35 (sV (Value.pointer p12))) 36 (sI (i13))) 1 (sV (Value.pointer p12))) 2 (sI (i13))) V0 h9)))))) else False) else False))))) := by kernel_rfl
theorem F11_r2 (e : Env) (hp : HP) (K : Env → PV → HP → Prop) : RW Try.prog 247 [5, 7, 9, 11, 15, 28] (opsAt Try.f11 [1, 1, 0, 1, 0, 0]) (List.range 1) e V0 hp K =
    (K (upd e 0 (sB (false))) V0 hp) := by kernel_rfl
theorem F11_r3 (e : Env) (hp : HP) (K : Env → PV → HP → Prop) : RW Try.prog 247 [5, 7, 9, 11, 15, 28] (opsAt Try.f11 [1, 1, 1, 0]) (List.range 10) e V0 hp K =
    (CF Try.prog 52 [] hp fun u1 h2 => (aggV u1 fun l3 => (if List.length l3 = 4 then (CF Try.prog 52 [] h2 fun u4 h5 => (aggV u4 fun l6 => (if List.length l6 = 4 then (CF Try.prog 53 [] h5 fun u7 h8 => (aggV u7 fun l9 => (if List.length l9 = 4 then (CF Try.prog 53 [] h8 fun u10 h11 => (aggV u10 fun l12 => (if List.length l12 = 4 then (if List.length (List.set (splice [(Value.int .u8 0), (Value.int .u8 0), (Value.int .u8 0), (Value.int .u8 0), (Value.int .i64 0)] 0 l3) 4 (Value.int .i64 1020)) = 5 then (if List.length (List.set (splice [(Value.int .u8 0), (Value.int .u8 0), (Value.int .u8 0), (Value.int .u8 0), (Value.int .i64 0)] 0 l6) 4 (Value.int .i64 1022)) = 5 then (if List.length (List.set (splice [(Value.int .u8 0), (Value.int .u8 0), (Value.int .u8 0), (Value.int .u8 0), (Value.int .i64 0)] 0 l9) 4 (Value.int .i64 1020)) = 5 then (if List.length (List.set (splice [(Value.int .u8 0), (Value.int .u8 0), (Value.int .u8 0), (Value.int .u8 0), (Value.int .i64 0)] 0 l12) 4 (Value.int .i64 1022)) = 5 then (∀ b13 : Nat, h11 b13 = .none → (K (upd (upd (upd (upd (upd (upd (upd (upd (upd (upd e 43 (sV (Value.agg ⟨l3⟩))) 44 (sV (Value.agg ⟨(List.set (splice [(Value.int .u8 0), (Value.int .u8 0), (Value.int .u8 0), (Value.int .u8 0), (Value.int .i64 0)] 0 l3) 4 (Value.int .i64 1020))⟩))) 45 (sV (Value.agg ⟨l6⟩))) 46 (sV (Value.agg ⟨(List.set (splice [(Value.int .u8 0), (Value.int .u8 0), (Value.int .u8 0), (Value.int .u8 0), (Value.int .i64 0)] 0 l6) 4 (Value.int .i64 1022))⟩))) 47 (sV (Value.agg ⟨l9⟩))) 48 (sV (Value.agg ⟨(List.set (splice [(Value.int .u8 0), (Value.int .u8 0), (Value.int .u8 0), (Value.int .u8 0), (Value.int .i64 0)] 0 l9) 4 (Value.int .i64 1020))⟩))) 49 (sV (Value.agg ⟨l12⟩))) 50 (sV (Value.agg ⟨(List.set (splice [(Value.int .u8 0), (Value.int .u8 0), (Value.int .u8 0), (Value.int .u8 0), (Value.int .i64 0)] 0 l12) 4 (Value.int .i64 1022))⟩))) 51 (sV (Value.slice (some ⟨b13, 0, none⟩) 4 4))) 3 (sV (Value.slice (some ⟨b13, 0, none⟩) 4 4))) V0 (HP.set h11 b13 (.cells 75 (splice (splice (splice (splice [(Value.int .u8 0), (Value.int .u8 0), (Value.int .u8 0), (Value.int .u8 0), (Value.int .i64 0), (Value.int .u8 0), (Value.int .u8 0), (Value.int .u8 0), (Value.int .u8 0), (Value.int .i64 0), (Value.int .u8 0), (Value.int .u8 0), (Value.int .u8 0), (Value.int .u8 0), (Value.int .i64 0), (Value.int .u8 0), (Value.int .u8 0), (Value.int .u8 0), (Value.int .u8 0), (Value.int .i64 0)] 0 (List.set (splice [(Value.int .u8 0), (Value.int .u8 0), (Value.int .u8 0), (Value.int .u8 0), (Value.int .i64 0)] 0 l3) 4 (Value.int .i64 1020))) 5 (List.set (splice [(Value.int .u8 0), (Value.int .u8 0), (Value.int .u8 0), (Value.int .u8 0), (Value.int .i64 0)] 0 l6) 4 (Value.int .i64 1022))) 10 (List.set (splice [(Value.int .u8 0), (Value.int .u8 0), (Value.int .u8 0), (Value.int .u8 0), (Value.int .i64 0)] 0 l9) 4 (Value.int .i64 1020))) 15 (List.set (splice [(Value.int .u8 0), (Value.int .u8 0), (Value.int .u8 0), (Value.int .u8 0), (Value.int .i64 0)] 0 l12) 4 (Value.int .i64 1022))) 0)))) else False) else False) else False) else False) else False))) else False))) else False))) else False))) := by kernel_rfl
theorem F11_r4 (e : Env) (x1 : Option Addr) (hp : HP) (K : Env → PV → HP → Prop) : RW Try.prog 247 [5, 7, 9, 11, 15, 28] (opsAt Try.f11 [1, 1, 1, 1, 1, 0]) (List.range 9) (upd e 1 (sV (Value.pointer x1))) V0 hp K =
    (CF Try.prog 46 [(Value.pointer x1), (Value.agg ⟨[(Value.int .u8 9), (Value.int .u8 0), (Value.int .u8 0), (Value.int .u8 0)]⟩), (Value.int .i64 80), (Value.bool false)] hp fun u1 h2 => (tup2V u1 fun u3 u4 => (aggV u3 fun l5 => (intV u4 .i64 fun i6 => (if List.length l5 = 5 then (if List.all l5 one = true then (if 0 + List.length l5 ≤ List.length [(Value.int .u8 0), (Value.int .u8 0), (Value.int .u8 0), (Value.int .u8 0), (Value.int .i64 0)] then (K (upd (upd (upd (upd (upd (upd (upd (upd (upd e 1 (sV (Value.pointer x1))) 73 (sV (Value.pointer x1))) 74 (sV (Value.agg ⟨[(Value.int .u8 9), (Value.int .u8 0), (Value.int .u8 0), (Value.int .u8 0)]⟩))) 75 (sV (Value.tuple ⟨[(Value.agg ⟨l5⟩), (Value.int .i64 i6)]⟩))) 72 (sV (Value.tuple ⟨[(Value.agg ⟨l5⟩), (Value.int .i64 i6)]⟩))) 76 (sV (Value.agg ⟨l5⟩))) 77 (sI (i6))) 7 (SV.priv 7 0)) 8 (sI (i6))) (upd (upd V0 7 (75, [(Value.int .u8 0), (Value.int .u8 0), (Value.int .u8 0), (Value.int .u8 0), (Value.int .i64 0)])) 7 (75, (splice [(Value.int .u8 0), (Value.int .u8 0), (Value.int .u8 0), (Value.int .u8 0), (Value.int .i64 0)] 0 l5))) h2) else False) else False) else False))))) := by kernel_rfl
theorem F11_r5 (e : Env) (x1 : Option Addr) (hp : HP) (K : Env → PV → HP → Prop) : RW Try.prog 247 [5, 7, 9, 11, 15, 28] (opsAt Try.f11 [1, 1, 1, 1, 1, 1, 0]) (List.range 9) (upd e 1 (sV (Value.pointer x1))) V0 hp K =
    (CF Try.prog 53 [] hp fun u1 h2 => (aggV u1 fun l3 => (CF Try.prog 46 [(Value.pointer x1), (Value.agg ⟨l3⟩), (Value.int .i64 5001), (Value.bool false)] h2 fun u4 h5 => (tup2V u4 fun u6 u7 => (aggV u6 fun l8 => (intV u7 .i64 fun i9 => (if List.length l8 = 5 then (if List.all l8 one = true then (if 0 + List.length l8 ≤ List.length [(Value.int .u8 0), (Value.int .u8 0), (Value.int .u8 0), (Value.int .u8 0), (Value.int .i64 0)] then (K (upd (upd (upd (upd (upd (upd (upd (upd (upd e 1 (sV (Value.pointer x1))) 79 (sV (Value.pointer x1))) 80 (sV (Value.agg ⟨l3⟩))) 81 (sV (Value.tuple ⟨[(Value.agg ⟨l8⟩), (Value.int .i64 i9)]⟩))) 78 (sV (Value.tuple ⟨[(Value.agg ⟨l8⟩), (Value.int .i64 i9)]⟩))) 82 (sV (Value.agg ⟨l8⟩))) 83 (sI (i9))) 9 (SV.priv 9 0)) 10 (sI (i9))) (upd (upd V0 9 (75, [(Value.int .u8 0), (Value.int .u8 0), (Value.int .u8 0), (Value.int .u8 0), (Value.int .i64 0)])) 9 (75, (splice [(Value.int .u8 0), (Value.int .u8 0), (Value.int .u8 0), (Value.int .u8 0), (Value.int .i64 0)] 0 l8))) h5) else False) else False) else False))))))) := by kernel_rfl
theorem F11_r6 (e : Env) (x1 : Option Addr) (k9 : List Value) (hp : HP) (K : Env → PV → HP → Prop) : RW Try.prog 247 [5, 7, 9, 11, 15, 28] (opsAt Try.f11 [1, 1, 1, 1, 1, 1, 1, 0]) (List.range 9) (upd e 1 (sV (Value.pointer x1))) (upd V0 9 (75, k9)) hp K =
    (CF Try.prog 53 [] hp fun u1 h2 => (aggV u1 fun l3 => (CF Try.prog 46 [(Value.pointer x1), (Value.agg ⟨l3⟩), (Value.int .i64 0), (Value.bool true)] h2 fun u4 h5 => (tup2V u4 fun u6 u7 => (aggV u6 fun l8 => (intV u7 .i64 fun i9 => (if List.length l8 = 5 then (if List.all l8 one = true then (if 0 + List.length l8 ≤ List.length [(Value.int .u8 0), (Value.int .u8 0), (Value.int .u8 0), (Value.int .u8 0), (Value.int .i64 0)] then (K (upd (upd (upd (upd (upd (upd (upd (upd (upd e 1 (sV (Value.pointer x1))) 85 (sV (Value.pointer x1))) 86 (sV (Value.agg ⟨l3⟩))) 87 (sV (Value.tuple ⟨[(Value.agg ⟨l8⟩), (Value.int .i64 i9)]⟩))) 84 (sV (Value.tuple ⟨[(Value.agg ⟨l8⟩), (Value.int .i64 i9)]⟩))) 88 (sV (Value.agg ⟨l8⟩))) 89 (sI (i9))) 11 (SV.priv 11 0)) 12 (sI (i9))) (upd (upd (upd V0 9 (75, k9)) 11 (75, [(Value.int .u8 0), (Value.int .u8 0), (Value.int .u8 0), (Value.int .u8 0), (Value.int .i64 0)])) 11 (75, (splice [(Value.int .u8 0), (Value.int .u8 0), (Value.int .u8 0), (Value.int .u8 0), (Value.int .i64 0)] 0 l8))) h5) else False) else False) else False))))))) := by kernel_rfl
theorem F11_r7 (e : Env) (x1 : Option Addr) (k9 : List Value) (k11 : List Value) (hp : HP) (K : Env → PV → HP → Prop) : RW Try.prog 247 [5, 7, 9, 11, 15, 28] (opsAt Try.f11 [1, 1, 1, 1, 1, 1, 1, 1, 0]) (List.range 4) (upd (upd e 11 (SV.priv 11 0)) 1 (sV (Value.pointer x1))) (upd (upd V0 11 (75, k11)) 9 (75, k9)) hp K =
    (ldL (cellsN k11 0 5) fun l1 => (CF Try.prog 49 [(Value.pointer x1), (Value.agg ⟨l1⟩)] hp fun u2 h3 => (intV u2 .i64 fun i4 => (K (upd (upd (upd (upd (upd (upd e 11 (SV.priv 11 0)) 1 (sV (Value.pointer x1))) 90 (sV (Value.pointer x1))) 91 (sV (Value.agg ⟨l1⟩))) 92 (sI (i4))) 13 (sI (i4))) (upd (upd V0 11 (75, k11)) 9 (75, k9)) h3)))) := by kernel_rfl
theorem F11_r8 (e : Env) (x1 : Option Addr) (k9 : List Value) (k11 : List Value) (hp : HP) (K : Env → PV → HP → Prop) : RW Try.prog 247 [5, 7, 9, 11, 15, 28] (opsAt Try.f11 [1, 1, 1, 1, 1, 1, 1, 1, 1, 0]) (List.range 4) (upd (upd e 11 (SV.priv 11 0)) 1 (sV (Value.pointer x1))) (upd (upd V0 11 (75, k11)) 9 (75, k9)) hp K =
    (ldL (cellsN k11 0 5) fun l1 => (CF Try.prog 49 [(Value.pointer x1), (Value.agg ⟨l1⟩)] hp fun u2 h3 => (intV u2 .i64 fun i4 => (K (upd (upd (upd (upd (upd (upd e 11 (SV.priv 11 0)) 1 (sV (Value.pointer x1))) 93 (sV (Value.pointer x1))) 94 (sV (Value.agg ⟨l1⟩))) 95 (sI (i4))) 14 (sI (i4))) (upd (upd V0 11 (75, k11)) 9 (75, k9)) h3)))) := by kernel_rfl
theorem F11_r9 (e : Env) (k9 : List Value) (k11 : List Value) (hp : HP) (K : Env → PV → HP → Prop) : RW Try.prog 247 [5, 7, 9, 11, 15, 28] (opsAt Try.f11 [1, 1, 1, 1, 1, 1, 1, 1, 1, 1, 0]) (List.range 4) e (upd (upd V0 11 (75, k11)) 9 (75, k9)) hp K =
    (CF Try.prog 52 [] hp fun u1 h2 => (aggV u1 fun l3 => (if List.length l3 = 4 then (if List.length (List.set (splice [(Value.int .u8 0), (Value.int .u8 0), (Value.int .u8 0), (Value.int .u8 0), (Value.int .i64 0)] 0 l3) 4 (Value.int .i64 9)) = 5 then (if List.all (List.set (splice [(Value.int .u8 0), (Value.int .u8 0), (Value.int .u8 0), (Value.int .u8 0), (Value.int .i64 0)] 0 l3) 4 (Value.int .i64 9)) one = true then (if 0 + List.length (List.set (splice [(Value.int .u8 0), (Value.int .u8 0), (Value.int .u8 0), (Value.int .u8 0), (Value.int .i64 0)] 0 l3) 4 (Value.int .i64 9)) ≤ List.length [(Value.int .u8 0), (Value.int .u8 0), (Value.int .u8 0), (Value.int .u8 0), (Value.int .i64 0)] then (K (upd (upd (upd e 96 (sV (Value.agg ⟨l3⟩))) 97 (sV (Value.agg ⟨(List.set (splice [(Value.int .u8 0), (Value.int .u8 0), (Value.int .u8 0), (Value.int .u8 0), (Value.int .i64 0)] 0 l3) 4 (Value.int .i64 9))⟩))) 15 (SV.priv 15 0)) (upd (upd (upd (upd V0 11 (75, k11)) 9 (75, k9)) 15 (75, [(Value.int .u8 0), (Value.int .u8 0), (Value.int .u8 0), (Value.int .u8 0), (Value.int .i64 0)])) 15 (75, (splice [(Value.int .u8 0), (Value.int .u8 0), (Value.int .u8 0), (Value.int .u8 0), (Value.int .i64 0)] 0 (List.set (splice [(Value.int .u8 0), (Value.int .u8 0), (Value.int .u8 0), (Value.int .u8 0), (Value.int .i64 0)] 0 l3) 4 (Value.int .i64 9))))) h2) else False) else False) else False) else False))) := by kernel_rfl
theorem F11_r10 (e : Env) (hp : HP) (K : Env → PV → HP → Prop) : RW Try.prog 247 [5, 7, 9, 11, 15, 28] (opsAt Try.f11 [1, 1, 1, 1, 1, 1, 1, 1, 1, 1, 1, 1, 1, 0]) (List.range 6) e V0 hp K =
    (CF Try.prog 44 [(Value.slice none 0 0), (Value.int .i64 1), (Value.int .i64 2)] hp fun u1 h2 => (tup2V u1 fun u3 u4 => (ptrV u3 fun p5 => (intV u4 .i64 fun i6 => (K (upd (upd (upd (upd (upd (upd e 171 (sV (Value.tuple ⟨[(Value.pointer p5), (Value.int .i64 i6)]⟩))) 170 (sV (Value.tuple ⟨[(Value.pointer p5), (Value.int .i64 i6)]⟩))) 172 (sV (Value.pointer p5))) 173 (sI (i6))) 18 (sV (Value.pointer p5))) 19 (sI (i6))) V0 h2))))) := by kernel_rfl
theorem F11_r11 (e : Env) (hp : HP) (K : Env → PV → HP → Prop) : RW Try.prog 247 [5, 7, 9, 11, 15, 28] (opsAt Try.f11 [1, 1, 1, 1, 1, 1, 1, 1, 1, 1, 1, 1, 1, 1, 0]) (List.range 9) e V0 hp K =
    (CF Try.prog 52 [] hp fun u1 h2 => (aggV u1 fun l3 => (CF Try.prog 52 [] h2 fun u4 h5 => (aggV u4 fun l6 => (if List.length l3 = 4 then (if List.length l6 = 4 then (∀ b7 : Nat, h5 b7 = .none → (CF Try.prog 44 [(Value.slice (some ⟨b7, 0, none⟩) 2 2), (Value.int .i64 1), (Value.int .i64 2)] (HP.set h5 b7 (.cells 73 (splice (splice [(Value.int .u8 0), (Value.int .u8 0), (Value.int .u8 0), (Value.int .u8 0), (Value.int .u8 0), (Value.int .u8 0), (Value.int .u8 0), (Value.int .u8 0)] 0 l3) 4 l6) 0)) fun u8 h9 => (tup2V u8 fun u10 u11 => (ptrV u10 fun p12 => (intV u11 .i64 fun i13 => (K (upd (upd (upd (upd (upd (upd (upd (upd (upd e 175 (sV (Value.agg ⟨l3⟩))) 176 (sV (Value.agg ⟨l6⟩))) 177 (sV (Value.slice (some ⟨b7, 0, none⟩) 2 2))) 178 (sV (Value.tuple ⟨[(Value.pointer p12), (Value.int .i64 i13)]⟩))) 174 (sV (Value.tuple ⟨[(Value.pointer p12), (Value.int .i64 i13)]⟩))) 179 (sV (Value.pointer p12))) 180 (sI (i13))) 20 (sV (Value.pointer p12))) 21 (sI (i13))) V0 h9)))))) else False) else False))))) := by kernel_rfl
theorem F11_r12 (e : Env) (hp : HP) (K : Env → PV → HP → Prop) : RW Try.prog 247 [5, 7, 9, 11, 15, 28] (opsAt Try.f11 [1, 1, 1, 1, 1, 1, 1, 1, 1, 1, 1, 1, 1, 1, 1, 0]) (List.range 8) e V0 hp K =
    (CF Try.prog 52 [] hp fun u1 h2 => (aggV u1 fun l3 => (if List.length l3 = 4 then (∀ b4 : Nat, h2 b4 = .none → (CF Try.prog 44 [(Value.slice (some ⟨b4, 0, none⟩) 1 1), (Value.int .i64 2), (Value.int .i64 1)] (HP.set h2 b4 (.cells 73 (splice [(Value.int .u8 0), (Value.int .u8 0), (Value.int .u8 0), (Value.int .u8 0)] 0 l3) 0)) fun u5 h6 => (tup2V u5 fun u7 u8 => (ptrV u7 fun p9 => (intV u8 .i64 fun i10 => (K (upd (upd (upd (upd (upd (upd (upd (upd e 182 (sV (Value.agg ⟨l3⟩))) 183 (sV (Value.slice (some ⟨b4, 0, none⟩) 1 1))) 184 (sV (Value.tuple ⟨[(Value.pointer p9), (Value.int .i64 i10)]⟩))) 181 (sV (Value.tuple ⟨[(Value.pointer p9), (Value.int .i64 i10)]⟩))) 185 (sV (Value.pointer p9))) 186 (sI (i10))) 22 (sV (Value.pointer p9))) 23 (sI (i10))) V0 h6)))))) else False))) := by kernel_rfl
theorem F11_r13 (e : Env) (hp : HP) (K : Env → PV → HP → Prop) : RW Try.prog 247 [5, 7, 9, 11, 15, 28] (opsAt Try.f11 [1, 1, 1, 1, 1, 1, 1, 1, 1, 1, 1, 1, 1, 1, 1, 1, 0]) (List.range 8) e V0 hp K =
    (CF Try.prog 52 [] hp fun u1 h2 => (aggV u1 fun l3 => (if List.length l3 = 4 then (∀ b4 : Nat, h2 b4 = .none → (CF Try.prog 44 [(Value.slice (some ⟨b4, 0, none⟩) 1 1), (Value.int .i64 0), (Value.int .i64 1024)] (HP.set h2 b4 (.cells 73 (splice [(Value.int .u8 0), (Value.int .u8 0), (Value.int .u8 0), (Value.int .u8 0)] 0 l3) 0)) fun u5 h6 => (tup2V u5 fun u7 u8 => (ptrV u7 fun p9 => (intV u8 .i64 fun i10 => (K (upd (upd (upd (upd (upd (upd (upd (upd e 188 (sV (Value.agg ⟨l3⟩))) 189 (sV (Value.slice (some ⟨b4, 0, none⟩) 1 1))) 190 (sV (Value.tuple ⟨[(Value.pointer p9), (Value.int .i64 i10)]⟩))) 187 (sV (Value.tuple ⟨[(Value.pointer p9), (Value.int .i64 i10)]⟩))) 191 (sV (Value.pointer p9))) 192 (sI (i10))) 24 (sV (Value.pointer p9))) 25 (sI (i10))) V0 h6)))))) else False))) := by kernel_rfl
theorem F11_r14 (e : Env) (hp : HP) (K : Env → PV → HP → Prop) : RW Try.prog 247 [5, 7, 9, 11, 15, 28] (opsAt Try.f11 [1, 1, 1, 1, 1, 1, 1, 1, 1, 1, 1, 1, 1, 1, 1, 1, 1, 0]) (List.range 8) e V0 hp K =
    (CF Try.prog 52 [] hp fun u1 h2 => (aggV u1 fun l3 => (if List.length l3 = 4 then (∀ b4 : Nat, h2 b4 = .none → (CF Try.prog 44 [(Value.slice (some ⟨b4, 0, none⟩) 1 1), (Value.int .i64 65000), (Value.int .i64 65536)] (HP.set h2 b4 (.cells 73 (splice [(Value.int .u8 0), (Value.int .u8 0), (Value.int .u8 0), (Value.int .u8 0)] 0 l3) 0)) fun u5 h6 => (tup2V u5 fun u7 u8 => (ptrV u7 fun p9 => (intV u8 .i64 fun i10 => (K (upd (upd (upd (upd (upd (upd (upd (upd e 194 (sV (Value.agg ⟨l3⟩))) 195 (sV (Value.slice (some ⟨b4, 0, none⟩) 1 1))) 196 (sV (Value.tuple ⟨[(Value.pointer p9), (Value.int .i64 i10)]⟩))) 193 (sV (Value.tuple ⟨[(Value.pointer p9), (Value.int .i64 i10)]⟩))) 197 (sV (Value.pointer p9))) 198 (sI (i10))) 26 (sV (Value.pointer p9))) 27 (sI (i10))) V0 h6)))))) else False))) := by kernel_rfl
theorem F11_r15 (e : Env) (x1 : Option Addr) (hp : HP) (K : Env → PV → HP → Prop) : RW Try.prog 247 [5, 7, 9, 11, 15, 28] (opsAt Try.f11 [1, 1, 1, 1, 1, 1, 1, 1, 1, 1, 1, 1, 1, 1, 1, 1, 1, 1, 0]) (List.range 9) (upd e 1 (sV (Value.pointer x1))) V0 hp K =
    (CF Try.prog 52 [] hp fun u1 h2 => (aggV u1 fun l3 => (CF Try.prog 46 [(Value.pointer x1), (Value.agg ⟨l3⟩), (Value.int .i64 65536), (Value.bool true)] h2 fun u4 h5 => (tup2V u4 fun u6 u7 => (aggV u6 fun l8 => (intV u7 .i64 fun i9 => (if List.length l8 = 5 then (if List.all l8 one = true then (if 0 + List.length l8 ≤ List.length [(Value.int .u8 0), (Value.int .u8 0), (Value.int .u8 0), (Value.int .u8 0), (Value.int .i64 0)] then (K (upd (upd (upd (upd (upd (upd (upd (upd (upd e 1 (sV (Value.pointer x1))) 200 (sV (Value.pointer x1))) 201 (sV (Value.agg ⟨l3⟩))) 202 (sV (Value.tuple ⟨[(Value.agg ⟨l8⟩), (Value.int .i64 i9)]⟩))) 199 (sV (Value.tuple ⟨[(Value.agg ⟨l8⟩), (Value.int .i64 i9)]⟩))) 203 (sV (Value.agg ⟨l8⟩))) 204 (sI (i9))) 28 (SV.priv 28 0)) 29 (sI (i9))) (upd (upd V0 28 (75, [(Value.int .u8 0), (Value.int .u8 0), (Value.int .u8 0), (Value.int .u8 0), (Value.int .i64 0)])) 28 (75, (splice [(Value.int .u8 0), (Value.int .u8 0), (Value.int .u8 0), (Value.int .u8 0), (Value.int .i64 0)] 0 l8))) h5) else False) else False) else False))))))) := by kernel_rfl
theorem F11_r16 (e : Env) (x1 : Option Addr) (x16 : Bool) (x17 : Bool) (x19 : Int) (x21 : Int) (x23 : Int) (x25 : Int) (x27 : Int) (x29 : Int) (hp : HP) (K : Env → PV → HP → Prop) : RW Try.prog 247 [5, 7, 9, 11, 15, 28] (opsAt Try.f11 [1, 1, 1, 1, 1, 1, 1, 1, 1, 1, 1, 1, 1, 1, 1, 1, 1, 1, 1, 0]) (List.range 43) (upd (upd (upd (upd (upd (upd (upd (upd (upd e 29 (sI (x29))) 27 (sI (x27))) 25 (sI (x25))) 23 (sI (x23))) 21 (sI (x21))) 19 (sI (x19))) 17 (sB (x17))) 16 (sB (x16))) 1 (sV (Value.pointer x1))) V0 hp K =
    (ite2 x17 (ite2 x16 (CF Try.prog 54 [(Value.pointer x1)] hp fun u1 h2 => (intV u1 .i64 fun i3 => (ite2 ((i3 : Int) == 11) (CF Try.prog 45 [(Value.pointer x1)] h2 fun u4 h5 => (slcV u4 fun a6 n7 c8 => (ite2 (((n7 : Nat) : Int) == 5) (ite2 ((x19 : Int) == 1) (ite2 ((x21 : Int) == 1) (ite2 ((x23 : Int) == 1) (ite2 ((x25 : Int) == 1) (ite2 ((x27 : Int) == 1) (ite2 ((x29 : Int) == 1) (CF Try.prog 21 [] h5 fun u9 h10 => (boolV u9 fun q11 => (K (upd (upd (upd (upd (upd (upd (upd (upd (upd (upd (upd (upd (upd (upd (upd (upd (upd (upd (upd (upd (upd (upd (upd (upd (upd (upd (upd (upd (upd (upd (upd (upd (upd (upd (upd (upd (upd (upd (upd (upd (upd (upd (upd (upd (upd (upd (upd (upd (upd (upd (upd (upd e 29 (sI (x29))) 27 (sI (x27))) 25 (sI (x25))) 23 (sI (x23))) 21 (sI (x21))) 19 (sI (x19))) 17 (sB (x17))) 16 (sB (x16))) 1 (sV (Value.pointer x1))) 205 (sB (x17))) 206 (sB (true))) 207 (sB (x16))) 208 (sB (x16))) 209 (sB (true))) 210 (sV (Value.pointer x1))) 211 (sI (i3))) 212 (sB (((i3 : Int) == 11)))) 213 (sB (((i3 : Int) == 11)))) 214 (sB (true))) 215 (sV (Value.pointer x1))) 216 (sV (Value.slice a6 n7 c8))) 217 (sI ((n7 : Nat)))) 218 (sB ((((n7 : Nat) : Int) == 5)))) 219 (sB ((((n7 : Nat) : Int) == 5)))) 220 (sB (true))) 221 (sI (x19))) 222 (sB (((x19 : Int) == 1)))) 223 (sB (((x19 : Int) == 1)))) 224 (sB (true))) 225 (sI (x21))) 226 (sB (((x21 : Int) == 1)))) 227 (sB (((x21 : Int) == 1)))) 228 (sB (true))) 229 (sI (x23))) 230 (sB (((x23 : Int) == 1)))) 231 (sB (((x23 : Int) == 1)))) 232 (sB (true))) 233 (sI (x25))) 234 (sB (((x25 : Int) == 1)))) 235 (sB (((x25 : Int) == 1)))) 236 (sB (true))) 237 (sI (x27))) 238 (sB (((x27 : Int) == 1)))) 239 (sB (((x27 : Int) == 1)))) 240 (sB (true))) 241 (sI (x29))) 242 (sB (((x29 : Int) == 1)))) 243 (sB (((x29 : Int) == 1)))) 244 (sB (true))) 245 (sB (q11))) 246 (sB (q11))) 0 (sB (q11))) V0 h10))) (K (upd (upd (upd (upd (upd (upd (upd (upd (upd (upd (upd (upd (upd (upd (upd (upd (upd (upd (upd (upd (upd (upd (upd (upd (upd (upd (upd (upd (upd (upd (upd (upd (upd (upd (upd (upd (upd (upd (upd (upd (upd (upd (upd (upd (upd (upd (upd (upd (upd (upd (upd (upd e 29 (sI (x29))) 27 (sI (x27))) 25 (sI (x25))) 23 (sI (x23))) 21 (sI (x21))) 19 (sI (x19))) 17 (sB (x17))) 16 (sB (x16))) 1 (sV (Value.pointer x1))) 205 (sB (x17))) 206 (sB (true))) 207 (sB (x16))) 208 (sB (x16))) 209 (sB (true))) 210 (sV (Value.pointer x1))) 211 (sI (i3))) 212 (sB (((i3 : Int) == 11)))) 213 (sB (((i3 : Int) == 11)))) 214 (sB (true))) 215 (sV (Value.pointer x1))) 216 (sV (Value.slice a6 n7 c8))) 217 (sI ((n7 : Nat)))) 218 (sB ((((n7 : Nat) : Int) == 5)))) 219 (sB ((((n7 : Nat) : Int) == 5)))) 220 (sB (true))) 221 (sI (x19))) 222 (sB (((x19 : Int) == 1)))) 223 (sB (((x19 : Int) == 1)))) 224 (sB (true))) 225 (sI (x21))) 226 (sB (((x21 : Int) == 1)))) 227 (sB (((x21 : Int) == 1)))) 228 (sB (true))) 229 (sI (x23))) 230 (sB (((x23 : Int) == 1)))) 231 (sB (((x23 : Int) == 1)))) 232 (sB (true))) 233 (sI (x25))) 234 (sB (((x25 : Int) == 1)))) 235 (sB (((x25 : Int) == 1)))) 236 (sB (true))) 237 (sI (x27))) 238 (sB (((x27 : Int) == 1)))) 239 (sB (((x27 : Int) == 1)))) 240 (sB (true))) 241 (sI (x29))) 242 (sB (((x29 : Int) == 1)))) 243 (sB (((x29 : Int) == 1)))) 244 (sB (false))) 245 (sV undef)) 246 (sB (false))) 0 (sB (false))) V0 h5)) (K (upd (upd (upd (upd (upd (upd (upd (upd (upd (upd (upd (upd (upd (upd (upd (upd (upd (upd (upd (upd (upd (upd (upd (upd (upd (upd (upd (upd (upd (upd (upd (upd (upd (upd (upd (upd (upd (upd (upd (upd (upd (upd (upd (upd (upd (upd (upd (upd (upd (upd (upd (upd e 29 (sI (x29))) 27 (sI (x27))) 25 (sI (x25))) 23 (sI (x23))) 21 (sI (x21))) 19 (sI (x19))) 17 (sB (x17))) 16 (sB (x16))) 1 (sV (Value.pointer x1))) 205 (sB (x17))) 206 (sB (true))) 207 (sB (x16))) 208 (sB (x16))) 209 (sB (true))) 210 (sV (Value.pointer x1))) 211 (sI (i3))) 212 (sB (((i3 : Int) == 11)))) 213 (sB (((i3 : Int) == 11)))) 214 (sB (true))) 215 (sV (Value.pointer x1))) 216 (sV (Value.slice a6 n7 c8))) 217 (sI ((n7 : Nat)))) 218 (sB ((((n7 : Nat) : Int) == 5)))) 219 (sB ((((n7 : Nat) : Int) == 5)))) 220 (sB (true))) 221 (sI (x19))) 222 (sB (((x19 : Int) == 1)))) 223 (sB (((x19 : Int) == 1)))) 224 (sB (true))) 225 (sI (x21))) 226 (sB (((x21 : Int) == 1)))) 227 (sB (((x21 : Int) == 1)))) 228 (sB (true))) 229 (sI (x23))) 230 (sB (((x23 : Int) == 1)))) 231 (sB (((x23 : Int) == 1)))) 232 (sB (true))) 233 (sI (x25))) 234 (sB (((x25 : Int) == 1)))) 235 (sB (((x25 : Int) == 1)))) 236 (sB (true))) 237 (sI (x27))) 238 (sB (((x27 : Int) == 1)))) 239 (sB (((x27 : Int) == 1)))) 240 (sB (false))) 241 (sV undef)) 242 (sV undef)) 243 (sB (false))) 244 (sB (false))) 245 (sV undef)) 246 (sB (false))) 0 (sB (false))) V0 h5)) (K (upd (upd (upd (upd (upd (upd (upd (upd (upd (upd (upd (upd (upd (upd (upd (upd (upd (upd (upd (upd (upd (upd (upd (upd (upd (upd (upd (upd (upd (upd (upd (upd (upd (upd (upd (upd (upd (upd (upd (upd (upd (upd (upd (upd (upd (upd (upd (upd (upd (upd (upd (upd e 29 (sI (x29))) 27 (sI (x27))) 25 (sI (x25))) 23 (sI (x23))) 21 (sI (x21))) 19 (sI (x19))) 17 (sB (x17))) 16 (sB (x16))) 1 (sV (Value.pointer x1))) 205 (sB (x17))) 206 (sB (true))) 207 (sB (x16))) 208 (sB (x16))) 209 (sB (true))) 210 (sV (Value.pointer x1))) 211 (sI (i3))) 212 (sB (((i3 : Int) == 11)))) 213 (sB (((i3 : Int) == 11)))) 214 (sB (true))) 215 (sV (Value.pointer x1))) 216 (sV (Value.slice a6 n7 c8))) 217 (sI ((n7 : Nat)))) 218 (sB ((((n7 : Nat) : Int) == 5)))) 219 (sB ((((n7 : Nat) : Int) == 5)))) 220 (sB (true))) 221 (sI (x19))) 222 (sB (((x19 : Int) == 1)))) 223 (sB (((x19 : Int) == 1)))) 224 (sB (true))) 225 (sI (x21))) 226 (sB (((x21 : Int) == 1)))) 227 (sB (((x21 : Int) == 1)))) 228 (sB (true))) 229 (sI (x23))) 230 (sB (((x23 : Int) == 1)))) 231 (sB (((x23 : Int) == 1)))) 232 (sB (true))) 233 (sI (x25))) 234 (sB (((x25 : Int) == 1)))) 235 (sB (((x25 : Int) == 1)))) 236 (sB (false))) 237 (sV undef)) 238 (sV undef)) 239 (sB (false))) 240 (sB (false))) 241 (sV undef)) 242 (sV undef)) 243 (sB (false))) 244 (sB (false))) 245 (sV undef)) 246 (sB (false))) 0 (sB (false))) V0 h5)) (K (upd (upd (upd (upd (upd (upd (upd (upd (upd (upd (upd (upd (upd (upd (upd (upd (upd (upd (upd (upd (upd (upd (upd (upd (upd (upd (upd (upd (upd (upd (upd (upd (upd (upd (upd (upd (upd (upd (upd (upd (upd (upd (upd (upd (upd (upd (upd (upd (upd (upd (upd (upd e 29 (sI (x29))) 27 (sI (x27))) 25 (sI (x25))) 23 (sI (x23))) 21 (sI (x21))) 19 (sI (x19))) 17 (sB (x17))) 16 (sB (x16))) 1 (sV (Value.pointer x1))) 205 (sB (x17))) 206 (sB (true))) 207 (sB (x16))) 208 (sB (x16))) 209 (sB (true))) 210 (sV (Value.pointer x1))) 211 (sI (i3))) 212 (sB (((i3 : Int) == 11)))) 213 (sB (((i3 : Int) == 11)))) 214 (sB (true))) 215 (sV (Value.pointer x1))) 216 (sV (Value.slice a6 n7 c8))) 217 (sI ((n7 : Nat)))) 218 (sB ((((n7 : Nat) : Int) == 5)))) 219 (sB ((((n7 : Nat) : Int) == 5)))) 220 (sB (true))) 221 (sI (x19))) 222 (sB (((x19 : Int) == 1)))) 223 (sB (((x19 : Int) == 1)))) 224 (sB (true))) 225 (sI (x21))) 226 (sB (((x21 : Int) == 1)))) 227 (sB (((x21 : Int) == 1)))) 228 (sB (true))) 229 (sI (x23))) 230 (sB (((x23 : Int) == 1)))) 231 (sB (((x23 : Int) == 1)))) 232 (sB (false))) 233 (sV undef)) 234 (sV undef)) 235 (sB (false))) 236 (sB (false))) 237 (sV undef)) 238 (sV undef)) 239 (sB (false))) 240 (sB (false))) 241 (sV undef)) 242 (sV undef)) 243 (sB (false))) 244 (sB (false))) 245 (sV undef)) 246 (sB (false))) 0 (sB (false))) V0 h5)) (K (upd (upd (upd (upd (upd (upd (upd (upd (upd (upd (upd (upd (upd (upd (upd (upd (upd (upd (upd (upd (upd (upd (upd (upd (upd (upd (upd (upd (upd (upd (upd (upd (upd (upd (upd (upd (upd (upd (upd (upd (upd (upd (upd (upd (upd (upd (upd (upd (upd (upd (upd (upd e 29 (sI (x29))) 27 (sI (x27))) 25 (sI (x25))) 23 (sI (x23))) 21 (sI (x21))) 19 (sI (x19))) 17 (sB (x17))) 16 (sB (x16))) 1 (sV (Value.pointer x1))) 205 (sB (x17))) 206 (sB (true))) 207 (sB (x16))) 208 (sB (x16))) 209 (sB (true))) 210 (sV (Value.pointer x1))) 211 (sI (i3))) 212 (sB (((i3 : Int) == 11)))) 213 (sB (((i3 : Int) == 11)))) 214 (sB (true))) 215 (sV (Value.pointer x1))) 216 (sV (Value.slice a6 n7 c8))) 217 (sI ((n7 : Nat)))) 218 (sB ((((n7 : Nat) : Int) == 5)))) 219 (sB ((((n7 : Nat) : Int) == 5)))) 220 (sB (true))) 221 (sI (x19))) 222 (sB (((x19 : Int) == 1)))) 223 (sB (((x19 : Int) == 1)))) 224 (sB (true))) 225 (sI (x21))) 226 (sB (((x21 : Int) == 1)))) 227 (sB (((x21 : Int) == 1)))) 228 (sB (false))) 229 (sV undef)) 230 (sV undef)) 231 (sB (false))) 232 (sB (false))) 233 (sV undef)) 234 (sV undef)) 235 (sB (false))) 236 (sB (false))) 237 (sV undef)) 238 (sV undef)) 239 (sB (false))) 240 (sB (false))) 241 (sV undef)) 242 (sV undef)) 243 (sB (false))) 244 (sB (false))) 245 (sV undef)) 246 (sB (false))) 0 (sB (false))) V0 h5)) (K (upd (upd (upd (upd (upd (upd (upd (upd (upd (upd (upd (upd (upd (upd (upd (upd (upd (upd (upd (upd (upd (upd (upd (upd (upd (upd (upd (upd (upd (upd (upd (upd (upd (upd (upd (upd (upd (upd (upd (upd (upd (upd (upd (upd (upd (upd (upd (upd (upd (upd (upd (upd e 29 (sI (x29))) 27 (sI (x27))) 25 (sI (x25))) 23 (sI (x23))) 21 (sI (x21))) 19 (sI (x19))) 17 (sB (x17))) 16 (sB (x16))) 1 (sV (Value.pointer x1))) 205 (sB (x17))) 206 (sB (true))) 207 (sB (x16))) 208 (sB (x16))) 209 (sB (true))) 210 (sV (Value.pointer x1))) 211 (sI (i3))) 212 (sB (((i3 : Int) == 11)))) 213 (sB (((i3 : Int) == 11)))) 214 (sB (true))) 215 (sV (Value.pointer x1))) 216 (sV (Value.slice a6 n7 c8))) 217 (sI ((n7 : Nat)))) 218 (sB ((((n7 : Nat) : Int) == 5)))) 219 (sB ((((n7 : Nat) : Int) == 5)))) 220 (sB (true))) 221 (sI (x19))) 222 (sB (((x19 : Int) == 1)))) 223 (sB (((x19 : Int) == 1)))) 224 (sB (false))) 225 (sV undef)) 226 (sV undef)) 227 (sB (false))) 228 (sB (false))) 229 (sV undef)) 230 (sV undef)) 231 (sB (false))) 232 (sB (false))) 233 (sV undef)) 234 (sV undef)) 235 (sB (false))) 236 (sB (false))) 237 (sV undef)) 238 (sV undef)) 239 (sB (false))) 240 (sB (false))) 241 (sV undef)) 242 (sV undef)) 243 (sB (false))) 244 (sB (false))) 245 (sV undef)) 246 (sB (false))) 0 (sB (false))) V0 h5)) (K (upd (upd (upd (upd (upd (upd (upd (upd (upd (upd (upd (upd (upd (upd (upd (upd (upd (upd (upd (upd (upd (upd (upd (upd (upd (upd (upd (upd (upd (upd (upd (upd (upd (upd (upd (upd (upd (upd (upd (upd (upd (upd (upd (upd (upd (upd (upd (upd (upd (upd (upd (upd e 29 (sI (x29))) 27 (sI (x27))) 25 (sI (x25))) 23 (sI (x23))) 21 (sI (x21))) 19 (sI (x19))) 17 (sB (x17))) 16 (sB (x16))) 1 (sV (Value.pointer x1))) 205 (sB (x17))) 206 (sB (true))) 207 (sB (x16))) 208 (sB (x16))) 209 (sB (true))) 210 (sV (Value.pointer x1))) 211 (sI (i3))) 212 (sB (((i3 : Int) == 11)))) 213 (sB (((i3 : Int) == 11)))) 214 (sB (true))) 215 (sV (Value.pointer x1))) 216 (sV (Value.slice a6 n7 c8))) 217 (sI ((n7 : Nat)))) 218 (sB ((((n7 : Nat) : Int) == 5)))) 219 (sB ((((n7 : Nat) : Int) == 5)))) 220 (sB (false))) 221 (sV undef)) 222 (sV undef)) 223 (sB (false))) 224 (sB (false))) 225 (sV undef)) 226 (sV undef)) 227 (sB (false))) 228 (sB (false))) 229 (sV undef)) 230 (sV undef)) 231 (sB (false))) 232 (sB (false))) 233 (sV undef)) 234 (sV undef)) 235 (sB (false))) 236 (sB (false))) 237 (sV undef)) 238 (sV undef)) 239 (sB (false))) 240 (sB (false))) 241 (sV undef)) 242 (sV undef)) 243 (sB (false))) 244 (sB (false))) 245 (sV undef)) 246 (sB (false))) 0 (sB (false))) V0 h5)))) (K (upd (upd (upd (upd (upd (upd (upd (upd (upd (upd (upd (upd (upd (upd (upd (upd (upd (upd (upd (upd (upd (upd (upd (upd (upd (upd (upd (upd (upd (upd (upd (upd (upd (upd (upd (upd (upd (upd (upd (upd (upd (upd (upd (upd (upd (upd (upd (upd (upd (upd (upd (upd e 29 (sI (x29))) 27 (sI (x27))) 25 (sI (x25))) 23 (sI (x23))) 21 (sI (x21))) 19 (sI (x19))) 17 (sB (x17))) 16 (sB (x16))) 1 (sV (Value.pointer x1))) 205 (sB (x17))) 206 (sB (true))) 207 (sB (x16))) 208 (sB (x16))) 209 (sB (true))) 210 (sV (Value.pointer x1))) 211 (sI (i3))) 212 (sB (((i3 : Int) == 11)))) 213 (sB (((i3 : Int) == 11)))) 214 (sB (false))) 215 (sV undef)) 216 (sV undef)) 217 (sV undef)) 218 (sV undef)) 219 (sB (false))) 220 (sB (false))) 221 (sV undef)) 222 (sV undef)) 223 (sB (false))) 224 (sB (false))) 225 (sV undef)) 226 (sV undef)) 227 (sB (false))) 228 (sB (false))) 229 (sV undef)) 230 (sV undef)) 231 (sB (false))) 232 (sB (false))) 233 (sV undef)) 234 (sV undef)) 235 (sB (false))) 236 (sB (false))) 237 (sV undef)) 238 (sV undef)) 239 (sB (false))) 240 (sB (false))) 241 (sV undef)) 242 (sV undef)) 243 (sB (false))) 244 (sB (false))) 245 (sV undef)) 246 (sB (false))) 0 (sB (false))) V0 h2)))) (K (upd (upd (upd (upd (upd (upd (upd (upd (upd (upd (upd (upd (upd (upd (upd (upd (upd (upd (upd (upd (upd (upd (upd (upd (upd (upd (upd (upd (upd (upd (upd (upd (upd (upd (upd (upd (upd (upd (upd (upd (upd (upd (upd (upd (upd (upd (upd (upd (upd (upd (upd (upd e 29 (sI (x29))) 27 (sI (x27))) 25 (sI (x25))) 23 (sI (x23))) 21 (sI (x21))) 19 (sI (x19))) 17 (sB (x17))) 16 (sB (x16))) 1 (sV (Value.pointer x1))) 205 (sB (x17))) 206 (sB (true))) 207 (sB (x16))) 208 (sB (x16))) 209 (sB (false))) 210 (sV undef)) 211 (sV undef)) 212 (sV undef)) 213 (sB (false))) 214 (sB (false))) 215 (sV undef)) 216 (sV undef)) 217 (sV undef)) 218 (sV undef)) 219 (sB (false))) 220 (sB (false))) 221 (sV undef)) 222 (sV undef)) 223 (sB (false))) 224 (sB (false))) 225 (sV undef)) 226 (sV undef)) 227 (sB (false))) 228 (sB (false))) 229 (sV undef)) 230 (sV undef)) 231 (sB (false))) 232 (sB (false))) 233 (sV undef)) 234 (sV undef)) 235 (sB (false))) 236 (sB (false))) 237 (sV undef)) 238 (sV undef)) 239 (sB (false))) 240 (sB (false))) 241 (sV undef)) 242 (sV undef)) 243 (sB (false))) 244 (sB (false))) 245 (sV undef)) 246 (sB (false))) 0 (sB (false))) V0 hp)) (K (upd (upd (upd (upd (upd (upd (upd (upd (upd (upd (upd (upd (upd (upd (upd (upd (upd (upd (upd (upd (upd (upd (upd (upd (upd (upd (upd (upd (upd (upd (upd (upd (upd (upd (upd (upd (upd (upd (upd (upd (upd (upd (upd (upd (upd (upd (upd (upd (upd (upd (upd (upd e 29 (sI (x29))) 27 (sI (x27))) 25 (sI (x25))) 23 (sI (x23))) 21 (sI (x21))) 19 (sI (x19))) 17 (sB (x17))) 16 (sB (x16))) 1 (sV (Value.pointer x1))) 205 (sB (x17))) 206 (sB (false))) 207 (sV undef)) 208 (sB (false))) 209 (sB (false))) 210 (sV undef)) 211 (sV undef)) 212 (sV undef)) 213 (sB (false))) 214 (sB (false))) 215 (sV undef)) 216 (sV undef)) 217 (sV undef)) 218 (sV undef)) 219 (sB (false))) 220 (sB (false))) 221 (sV undef)) 222 (sV undef)) 223 (sB (false))) 224 (sB (false))) 225 (sV undef)) 226 (sV undef)) 227 (sB (false))) 228 (sB (false))) 229 (sV undef)) 230 (sV undef)) 231 (sB (false))) 232 (sB (false))) 233 (sV undef)) 234 (sV undef)) 235 (sB (false))) 236 (sB (false))) 237 (sV undef)) 238 (sV undef)) 239 (sB (false))) 240 (sB (false))) 241 (sV undef)) 242 (sV undef)) 243 (sB (false))) 244 (sB (false))) 245 (sV undef)) 246 (sB (false))) 0 (sB (false))) V0 hp)) := by kernel_rfl
def F11_j4 (x1 : Option Addr) (x16 : Bool) (x17 : Bool) (hp : HP) (K : Value → HP → Prop) : Prop :=
  (CF Try.prog 44 [(Value.slice none 0 0), (Value.int .i64 1), (Value.int .i64 2)] hp fun u_62 h_63 => (tup2V u_62 fun u_64 u_65 => (ptrV u_64 fun p_66 => (intV u_65 .i64 fun i_67 => (CF Try.prog 52 [] h_63 fun u_68 h_69 => (aggV u_68 fun l_70 => (CF Try.prog 52 [] h_69 fun u_71 h_72 => (aggV u_71 fun l_73 => (if List.length l_70 = 4 then (if List.length l_73 = 4 then (∀ b_74 : Nat, h_72 b_74 = .none → (CF Try.prog 44 [(Value.slice (some ⟨b_74, 0, none⟩) 2 2), (Value.int .i64 1), (Value.int .i64 2)] (HP.set h_72 b_74 (.cells 73 (splice (splice [(Value.int .u8 0), (Value.int .u8 0), (Value.int .u8 0), (Value.int .u8 0), (Value.int .u8 0), (Value.int .u8 0), (Value.int .u8 0), (Value.int .u8 0)] 0 l_70) 4 l_73) 0)) fun u_75 h_76 => (tup2V u_75 fun u_77 u_78 => (ptrV u_77 fun p_79 => (intV u_78 .i64 fun i_80 => (CF Try.prog 52 [] h_76 fun u_81 h_82 => (aggV u_81 fun l_83 => (if List.length l_83 = 4 then (∀ b_84 : Nat, h_82 b_84 = .none → (CF Try.prog 44 [(Value.slice (some ⟨b_84, 0, none⟩) 1 1), (Value.int .i64 2), (Value.int .i64 1)] (HP.set h_82 b_84 (.cells 73 (splice [(Value.int .u8 0), (Value.int .u8 0), (Value.int .u8 0), (Value.int .u8 0)] 0 l_83) 0)) fun u_85 h_86 => (tup2V u_85 fun u_87 u_88 => (ptrV u_87 fun p_89 => (intV u_88 .i64 fun i_90 => (CF Try.prog 52 [] h_86 fun u_91 h_92 => (aggV u_91 fun l_93 => (if List.length l_93 = 4 then (∀ b_94 : Nat, h_92 b_94 = .none → (CF Try.prog 44 [(Value.slice (some ⟨b_94, 0, none⟩) 1 1), (Value.int .i64 0), (Value.int .i64 1024)] (HP.set h_92 b_94 (.cells 73 (splice [(Value.int .u8 0), (Value.int .u8 0), (Value.int .u8 0), (Value.int .u8 0)] 0 l_93) 0)) fun u_95 h_96 => (tup2V u_95 fun u_97 u_98 => (ptrV u_97 fun p_99 => (intV u_98 .i64 fun i_100 => (CF Try.prog 52 [] h_96 fun u_101 h_102 => (aggV u_101 fun l_103 => (if List.length l_103 = 4 then (∀ b_104 : Nat, h_102 b_104 = .none → (CF Try.prog 44 [(Value.slice (some ⟨b_104, 0, none⟩) 1 1), (Value.int .i64 65000), (Value.int .i64 65536)] (HP.set h_102 b_104 (.cells 73 (splice [(Value.int .u8 0), (Value.int .u8 0), (Value.int .u8 0), (Value.int .u8 0)] 0 l_103) 0)) fun u_105 h_106 => (tup2V u_105 fun u_107 u_108 => (ptrV u_107 fun p_109 => (intV u_108 .i64 fun i_110 => (CF Try.prog 52 [] h_106 fun u_111 h_112 => (aggV u_111 fun l_113 => (CF Try.prog 46 [(Value.pointer x1), (Value.agg ⟨l_113⟩), (Value.int .i64 65536), (Value.bool true)] h_112 fun u_114 h_115 => (tup2V u_114 fun u_116 u_117 => (aggV u_116 fun l_118 => (intV u_117 .i64 fun i_119 => (if List.length l_118 = 5 then (if List.all l_118 one = true then (if 0 + List.length l_118 ≤ List.length [(Value.int .u8 0), (Value.int .u8 0), (Value.int .u8 0), (Value.int .u8 0), (Value.int .i64 0)] then (ite2 x17 (ite2 x16 (CF Try.prog 54 [(Value.pointer x1)] h_115 fun u_120 h_121 => (intV u_120 .i64 fun i_122 => (ite2 ((i_122 : Int) == 11) (CF Try.prog 45 [(Value.pointer x1)] h_121 fun u_123 h_124 => (slcV u_123 fun a_125 n_126 c_127 => (ite2 (((n_126 : Nat) : Int) == 5) (ite2 ((i_67 : Int) == 1) (ite2 ((i_80 : Int) == 1) (ite2 ((i_90 : Int) == 1) (ite2 ((i_100 : Int) == 1) (ite2 ((i_110 : Int) == 1) (ite2 ((i_119 : Int) == 1) (CF Try.prog 21 [] h_124 fun u_128 h_129 => (boolV u_128 fun q_130 => (K (Value.bool q_130) h_129))) (K (Value.bool false) h_124)) (K (Value.bool false) h_124)) (K (Value.bool false) h_124)) (K (Value.bool false) h_124)) (K (Value.bool false) h_124)) (K (Value.bool false) h_124)) (K (Value.bool false) h_124)))) (K (Value.bool false) h_121)))) (K (Value.bool false) h_115)) (K (Value.bool false) h_115)) else False) else False) else False)))))))))))) else False)))))))) else False)))))))) else False)))))))) else False) else False)))))))))
theorem F11_r17 (e : Env) (x8 : Int) (x10 : Int) (x12 : Int) (x13 : Int) (x14 : Int) (k9 : List Value) (k11 : List Value) (hp : HP) (K : Env → PV → HP → Prop) : RW Try.prog 247 [5, 7, 9, 11, 15, 28] (opsAt Try.f11 [1, 1, 1, 1, 1, 1, 1, 1, 1, 1, 1, 1, 0]) (List.range 31) (upd (upd (upd (upd (upd (upd (upd e 14 (sI (x14))) 13 (sI (x13))) 12 (sI (x12))) 11 (SV.priv 11 0)) 10 (sI (x10))) 9 (SV.priv 9 0)) 8 (sI (x8))) (upd (upd V0 11 (75, k11)) 9 (75, k9)) hp K =
    (ite2 ((x8 : Int) == 6) (ldL (cellsN k9 0 5) fun l1 => (CF Try.prog 53 [] hp fun u2 h3 => (aggV u2 fun l4 => (if List.length l4 = 4 then (eqAgg Try.prog 75 l1 (List.set (splice [(Value.int .u8 0), (Value.int .u8 0), (Value.int .u8 0), (Value.int .u8 0), (Value.int .i64 0)] 0 l4) 4 (Value.int .i64 1025)) fun q5 => (ite2 q5 (ite2 ((x10 : Int) == 0) (ldL (cellsN k11 0 5) fun l6 => (CF Try.prog 53 [] h3 fun u7 h8 => (aggV u7 fun l9 => (if List.length l9 = 4 then (eqAgg Try.prog 75 l6 (List.set (splice [(Value.int .u8 0), (Value.int .u8 0), (Value.int .u8 0), (Value.int .u8 0), (Value.int .i64 0)] 0 l9) 4 (Value.int .i64 1021)) fun q10 => (ite2 q10 (ite2 ((x12 : Int) == 0) (ite2 ((x13 : Int) == 0) (K (upd (upd (upd (upd (upd (upd (upd (upd (upd (upd (upd (upd (upd (upd (upd (upd (upd (upd (upd (upd (upd (upd (upd (upd (upd (upd (upd (upd (upd (upd (upd (upd (upd (upd (upd (upd (upd (upd e 14 (sI (x14))) 13 (sI (x13))) 12 (sI (x12))) 11 (SV.priv 11 0)) 10 (sI (x10))) 9 (SV.priv 9 0)) 8 (sI (x8))) 140 (sI (x8))) 141 (sB (((x8 : Int) == 6)))) 142 (sB (true))) 143 (sV (Value.agg ⟨l1⟩))) 144 (sV (Value.agg ⟨l4⟩))) 145 (sV (Value.agg ⟨(List.set (splice [(Value.int .u8 0), (Value.int .u8 0), (Value.int .u8 0), (Value.int .u8 0), (Value.int .i64 0)] 0 l4) 4 (Value.int .i64 1025))⟩))) 146 (sB (q5))) 147 (sB (q5))) 148 (sB (true))) 149 (sI (x10))) 150 (sB (((x10 : Int) == 0)))) 151 (sB (((x10 : Int) == 0)))) 152 (sB (true))) 153 (sV (Value.agg ⟨l6⟩))) 154 (sV (Value.agg ⟨l9⟩))) 155 (sV (Value.agg ⟨(List.set (splice [(Value.int .u8 0), (Value.int .u8 0), (Value.int .u8 0), (Value.int .u8 0), (Value.int .i64 0)] 0 l9) 4 (Value.int .i64 1021))⟩))) 156 (sB (q10))) 157 (sB (q10))) 158 (sB (true))) 159 (sI (x12))) 160 (sB (((x12 : Int) == 0)))) 161 (sB (((x12 : Int) == 0)))) 162 (sB (true))) 163 (sI (x13))) 164 (sB (((x13 : Int) == 0)))) 165 (sB (((x13 : Int) == 0)))) 166 (sB (true))) 167 (sI (x14))) 168 (sB (((x14 : Int) == 4)))) 169 (sB (((x14 : Int) == 4)))) 17 (sB (((x14 : Int) == 4)))) (upd (upd V0 11 (75, k11)) 9 (75, k9)) h8) (K (upd (upd (upd (upd (upd (upd (upd (upd (upd (upd (upd (upd (upd (upd (upd (upd (upd (upd (upd (upd (upd (upd (upd (upd (upd (upd (upd (upd (upd (upd (upd (upd (upd (upd (upd (upd (upd (upd e 14 (sI (x14))) 13 (sI (x13))) 12 (sI (x12))) 11 (SV.priv 11 0)) 10 (sI (x10))) 9 (SV.priv 9 0)) 8 (sI (x8))) 140 (sI (x8))) 141 (sB (((x8 : Int) == 6)))) 142 (sB (true))) 143 (sV (Value.agg ⟨l1⟩))) 144 (sV (Value.agg ⟨l4⟩))) 145 (sV (Value.agg ⟨(List.set (splice [(Value.int .u8 0), (Value.int .u8 0), (Value.int .u8 0), (Value.int .u8 0), (Value.int .i64 0)] 0 l4) 4 (Value.int .i64 1025))⟩))) 146 (sB (q5))) 147 (sB (q5))) 148 (sB (true))) 149 (sI (x10))) 150 (sB (((x10 : Int) == 0)))) 151 (sB (((x10 : Int) == 0)))) 152 (sB (true))) 153 (sV (Value.agg ⟨l6⟩))) 154 (sV (Value.agg ⟨l9⟩))) 155 (sV (Value.agg ⟨(List.set (splice [(Value.int .u8 0), (Value.int .u8 0), (Value.int .u8 0), (Value.int .u8 0), (Value.int .i64 0)] 0 l9) 4 (Value.int .i64 1021))⟩))) 156 (sB (q10))) 157 (sB (q10))) 158 (sB (true))) 159 (sI (x12))) 160 (sB (((x12 : Int) == 0)))) 161 (sB (((x12 : Int) == 0)))) 162 (sB (true))) 163 (sI (x13))) 164 (sB (((x13 : Int) == 0)))) 165 (sB (((x13 : Int) == 0)))) 166 (sB (false))) 167 (sV undef)) 168 (sV undef)) 169 (sB (false))) 17 (sB (false))) (upd (upd V0 11 (75, k11)) 9 (75, k9)) h8)) (K (upd (upd (upd (upd (upd (upd (upd (upd (upd (upd (upd (upd (upd (upd (upd (upd (upd (upd (upd (upd (upd (upd (upd (upd (upd (upd (upd (upd (upd (upd (upd (upd (upd (upd (upd (upd (upd (upd e 14 (sI (x14))) 13 (sI (x13))) 12 (sI (x12))) 11 (SV.priv 11 0)) 10 (sI (x10))) 9 (SV.priv 9 0)) 8 (sI (x8))) 140 (sI (x8))) 141 (sB (((x8 : Int) == 6)))) 142 (sB (true))) 143 (sV (Value.agg ⟨l1⟩))) 144 (sV (Value.agg ⟨l4⟩))) 145 (sV (Value.agg ⟨(List.set (splice [(Value.int .u8 0), (Value.int .u8 0), (Value.int .u8 0), (Value.int .u8 0), (Value.int .i64 0)] 0 l4) 4 (Value.int .i64 1025))⟩))) 146 (sB (q5))) 147 (sB (q5))) 148 (sB (true))) 149 (sI (x10))) 150 (sB (((x10 : Int) == 0)))) 151 (sB (((x10 : Int) == 0)))) 152 (sB (true))) 153 (sV (Value.agg ⟨l6⟩))) 154 (sV (Value.agg ⟨l9⟩))) 155 (sV (Value.agg ⟨(List.set (splice [(Value.int .u8 0), (Value.int .u8 0), (Value.int .u8 0), (Value.int .u8 0), (Value.int .i64 0)] 0 l9) 4 (Value.int .i64 1021))⟩))) 156 (sB (q10))) 157 (sB (q10))) 158 (sB (true))) 159 (sI (x12))) 160 (sB (((x12 : Int) == 0)))) 161 (sB (((x12 : Int) == 0)))) 162 (sB (false))) 163 (sV undef)) 164 (sV undef)) 165 (sB (false))) 166 (sB (false))) 167 (sV undef)) 168 (sV undef)) 169 (sB (false))) 17 (sB (false))) (upd (upd V0 11 (75, k11)) 9 (75, k9)) h8)) (K (upd (upd (upd (upd (upd (upd (upd (upd (upd (upd (upd (upd (upd (upd (upd (upd (upd (upd (upd (upd (upd (upd (upd (upd (upd (upd (upd (upd (upd (upd (upd (upd (upd (upd (upd (upd (upd (upd e 14 (sI (x14))) 13 (sI (x13))) 12 (sI (x12))) 11 (SV.priv 11 0)) 10 (sI (x10))) 9 (SV.priv 9 0)) 8 (sI (x8))) 140 (sI (x8))) 141 (sB (((x8 : Int) == 6)))) 142 (sB (true))) 143 (sV (Value.agg ⟨l1⟩))) 144 (sV (Value.agg ⟨l4⟩))) 145 (sV (Value.agg ⟨(List.set (splice [(Value.int .u8 0), (Value.int .u8 0), (Value.int .u8 0), (Value.int .u8 0), (Value.int .i64 0)] 0 l4) 4 (Value.int .i64 1025))⟩))) 146 (sB (q5))) 147 (sB (q5))) 148 (sB (true))) 149 (sI (x10))) 150 (sB (((x10 : Int) == 0)))) 151 (sB (((x10 : Int) == 0)))) 152 (sB (true))) 153 (sV (Value.agg ⟨l6⟩))) 154 (sV (Value.agg ⟨l9⟩))) 155 (sV (Value.agg ⟨(List.set (splice [(Value.int .u8 0), (Value.int .u8 0), (Value.int .u8 0), (Value.int .u8 0), (Value.int .i64 0)] 0 l9) 4 (Value.int .i64 1021))⟩))) 156 (sB (q10))) 157 (sB (q10))) 158 (sB (false))) 159 (sV undef)) 160 (sV undef)) 161 (sB (false))) 162 (sB (false))) 163 (sV undef)) 164 (sV undef)) 165 (sB (false))) 166 (sB (false))) 167 (sV undef)) 168 (sV undef)) 169 (sB (false))) 17 (sB (false))) (upd (upd V0 11 (75, k11)) 9 (75, k9)) h8))) else False)))) (K (upd (upd (upd (upd (upd (upd (upd (upd (upd (upd (upd (upd (upd (upd (upd (upd (upd (upd (upd (upd (upd (upd (upd (upd (upd (upd (upd (upd (upd (upd (upd (upd (upd (upd (upd (upd (upd (upd e 14 (sI (x14))) 13 (sI (x13))) 12 (sI (x12))) 11 (SV.priv 11 0)) 10 (sI (x10))) 9 (SV.priv 9 0)) 8 (sI (x8))) 140 (sI (x8))) 141 (sB (((x8 : Int) == 6)))) 142 (sB (true))) 143 (sV (Value.agg ⟨l1⟩))) 144 (sV (Value.agg ⟨l4⟩))) 145 (sV (Value.agg ⟨(List.set (splice [(Value.int .u8 0), (Value.int .u8 0), (Value.int .u8 0), (Value.int .u8 0), (Value.int .i64 0)] 0 l4) 4 (Value.int .i64 1025))⟩))) 146 (sB (q5))) 147 (sB (q5))) 148 (sB (true))) 149 (sI (x10))) 150 (sB (((x10 : Int) == 0)))) 151 (sB (((x10 : Int) == 0)))) 152 (sB (false))) 153 (sV undef)) 154 (sV undef)) 155 (sV undef)) 156 (sV undef)) 157 (sB (false))) 158 (sB (false))) 159 (sV undef)) 160 (sV undef)) 161 (sB (false))) 162 (sB (false))) 163 (sV undef)) 164 (sV undef)) 165 (sB (false))) 166 (sB (false))) 167 (sV undef)) 168 (sV undef)) 169 (sB (false))) 17 (sB (false))) (upd (upd V0 11 (75, k11)) 9 (75, k9)) h3)) (K (upd (upd (upd (upd (upd (upd (upd (upd (upd (upd (upd (upd (upd (upd (upd (upd (upd (upd (upd (upd (upd (upd (upd (upd (upd (upd (upd (upd (upd (upd (upd (upd (upd (upd (upd (upd (upd (upd e 14 (sI (x14))) 13 (sI (x13))) 12 (sI (x12))) 11 (SV.priv 11 0)) 10 (sI (x10))) 9 (SV.priv 9 0)) 8 (sI (x8))) 140 (sI (x8))) 141 (sB (((x8 : Int) == 6)))) 142 (sB (true))) 143 (sV (Value.agg ⟨l1⟩))) 144 (sV (Value.agg ⟨l4⟩))) 145 (sV (Value.agg ⟨(List.set (splice [(Value.int .u8 0), (Value.int .u8 0), (Value.int .u8 0), (Value.int .u8 0), (Value.int .i64 0)] 0 l4) 4 (Value.int .i64 1025))⟩))) 146 (sB (q5))) 147 (sB (q5))) 148 (sB (false))) 149 (sV undef)) 150 (sV undef)) 151 (sB (false))) 152 (sB (false))) 153 (sV undef)) 154 (sV undef)) 155 (sV undef)) 156 (sV undef)) 157 (sB (false))) 158 (sB (false))) 159 (sV undef)) 160 (sV undef)) 161 (sB (false))) 162 (sB (false))) 163 (sV undef)) 164 (sV undef)) 165 (sB (false))) 166 (sB (false))) 167 (sV undef)) 168 (sV undef)) 169 (sB (false))) 17 (sB (false))) (upd (upd V0 11 (75, k11)) 9 (75, k9)) h3))) else False)))) (K (upd (upd (upd (upd (upd (upd (upd (upd (upd (upd (upd (upd (upd (upd (upd (upd (upd (upd (upd (upd (upd (upd (upd (upd (upd (upd (upd (upd (upd (upd (upd (upd (upd (upd (upd (upd (upd (upd e 14 (sI (x14))) 13 (sI (x13))) 12 (sI (x12))) 11 (SV.priv 11 0)) 10 (sI (x10))) 9 (SV.priv 9 0)) 8 (sI (x8))) 140 (sI (x8))) 141 (sB (((x8 : Int) == 6)))) 142 (sB (false))) 143 (sV undef)) 144 (sV undef)) 145 (sV undef)) 146 (sV undef)) 147 (sB (false))) 148 (sB (false))) 149 (sV undef)) 150 (sV undef)) 151 (sB (false))) 152 (sB (false))) 153 (sV undef)) 154 (sV undef)) 155 (sV undef)) 156 (sV undef)) 157 (sB (false))) 158 (sB (false))) 159 (sV undef)) 160 (sV undef)) 161 (sB (false))) 162 (sB (false))) 163 (sV undef)) 164 (sV undef)) 165 (sB (false))) 166 (sB (false))) 167 (sV undef)) 168 (sV undef)) 169 (sB (false))) 17 (sB (false))) (upd (upd V0 11 (75, k11)) 9 (75, k9)) hp)) := by kernel_rfl
def F11_j3 (x1 : Option Addr) (x8 : Int) (x10 : Int) (x12 : Int) (x13 : Int) (x14 : Int) (x16 : Bool) (k9 : List Value) (k11 : List Value) (hp : HP) (K : Value → HP → Prop) : Prop :=
  (ite2 ((x8 : Int) == 6) (ldL (cellsN k9 0 5) fun l_131 => (CF Try.prog 53 [] hp fun u_132 h_133 => (aggV u_132 fun l_134 => (if List.length l_134 = 4 then (eqAgg Try.prog 75 l_131 (List.set (splice [(Value.int .u8 0), (Value.int .u8 0), (Value.int .u8 0), (Value.int .u8 0), (Value.int .i64 0)] 0 l_134) 4 (Value.int .i64 1025)) fun q_135 => (ite2 q_135 (ite2 ((x10 : Int) == 0) (ldL (cellsN k11 0 5) fun l_136 => (CF Try.prog 53 [] h_133 fun u_137 h_138 => (aggV u_137 fun l_139 => (if List.length l_139 = 4 then (eqAgg Try.prog 75 l_136 (List.set (splice [(Value.int .u8 0), (Value.int .u8 0), (Value.int .u8 0), (Value.int .u8 0), (Value.int .i64 0)] 0 l_139) 4 (Value.int .i64 1021)) fun q_140 => (ite2 q_140 (ite2 ((x12 : Int) == 0) (ite2 ((x13 : Int) == 0) (F11_j4 x1 x16 ((x14 : Int) == 4) h_138  K) (F11_j4 x1 x16 false h_138  K)) (F11_j4 x1 x16 false h_138  K)) (F11_j4 x1 x16 false h_138  K))) else False)))) (F11_j4 x1 x16 false h_133  K)) (F11_j4 x1 x16 false h_133  K))) else False)))) (F11_j4 x1 x16 false hp  K))
theorem F11_r18 (e : Env) (x1 : Option Addr) (k9 : List Value) (k11 : List Value) (k15 : List Value) (hp : HP) (K : Env → PV → HP → Prop) : RW Try.prog 247 [5, 7, 9, 11, 15, 28] (opsAt Try.f11 [1, 1, 1, 1, 1, 1, 1, 1, 1, 1, 1, 0]) (List.range 43) (upd (upd e 15 (SV.priv 15 0)) 1 (sV (Value.pointer x1))) (upd (upd (upd V0 15 (75, k15)) 11 (75, k11)) 9 (75, k9)) hp K =
    (ldL (cellsN k15 0 5) fun l1 => (CF Try.prog 50 [(Value.pointer x1), (Value.agg ⟨l1⟩)] hp fun u2 h3 => (intV u2 .i64 fun i4 => (ite2 ((i4 : Int) == 0) (ldL (cellsN k15 0 5) fun l5 => (CF Try.prog 50 [(Value.pointer x1), (Value.agg ⟨l5⟩)] h3 fun u6 h7 => (intV u6 .i64 fun i8 => (ite2 ((i8 : Int) == 5) (ldL (cellsN k15 0 5) fun l9 => (CF Try.prog 49 [(Value.pointer x1), (Value.agg ⟨l9⟩)] h7 fun u10 h11 => (intV u10 .i64 fun i12 => (ite2 ((i12 : Int) == 11) (ldL (cellsN k15 0 5) fun l13 => (CF Try.prog 51 [(Value.pointer x1), (Value.agg ⟨l13⟩)] h11 fun u14 h15 => (intV u14 .i64 fun i16 => (ite2 ((i16 : Int) == 0) (ldL (cellsN k15 0 5) fun l17 => (CF Try.prog 51 [(Value.pointer x1), (Value.agg ⟨l17⟩)] h15 fun u18 h19 => (intV u18 .i64 fun i20 => (ite2 ((i20 : Int) == 4) (if List.length [(Value.int .u8 2), (Value.int .u8 0), (Value.int .u8 0), (Value.int .u8 1)] = 4 then (CF Try.prog 50 [(Value.pointer x1), (Value.agg ⟨(List.set (splice [(Value.int .u8 0), (Value.int .u8 0), (Value.int .u8 0), (Value.int .u8 0), (Value.int .i64 0)] 0 [(Value.int .u8 2), (Value.int .u8 0), (Value.int .u8 0), (Value.int .u8 1)]) 4 (Value.int .i64 9))⟩)] h19 fun u21 h22 => (intV u21 .i64 fun i23 => (ite2 ((i23 : Int) == 1) (CF Try.prog 52 [] h22 fun u24 h25 => (aggV u24 fun l26 => (if List.length l26 = 4 then (CF Try.prog 50 [(Value.pointer x1), (Value.agg ⟨(List.set (splice [(Value.int .u8 0), (Value.int .u8 0), (Value.int .u8 0), (Value.int .u8 0), (Value.int .i64 0)] 0 l26) 4 (Value.int .i64 65536))⟩)] h25 fun u27 h28 => (intV u27 .i64 fun i29 => (K (upd (upd (upd (upd (upd (upd (upd (upd (upd (upd (upd (upd (upd (upd (upd (upd (upd (upd (upd (upd (upd (upd (upd (upd (upd (upd (upd (upd (upd (upd (upd (upd (upd (upd (upd (upd (upd (upd (upd (upd (upd (upd (upd (upd (upd e 15 (SV.priv 15 0)) 1 (sV (Value.pointer x1))) 98 (sV (Value.pointer x1))) 99 (sV (Value.agg ⟨l1⟩))) 100 (sI (i4))) 101 (sB (((i4 : Int) == 0)))) 102 (sB (true))) 103 (sV (Value.pointer x1))) 104 (sV (Value.agg ⟨l5⟩))) 105 (sI (i8))) 106 (sB (((i8 : Int) == 5)))) 107 (sB (((i8 : Int) == 5)))) 108 (sB (true))) 109 (sV (Value.pointer x1))) 110 (sV (Value.agg ⟨l9⟩))) 111 (sI (i12))) 112 (sB (((i12 : Int) == 11)))) 113 (sB (((i12 : Int) == 11)))) 114 (sB (true))) 115 (sV (Value.pointer x1))) 116 (sV (Value.agg ⟨l13⟩))) 117 (sI (i16))) 118 (sB (((i16 : Int) == 0)))) 119 (sB (((i16 : Int) == 0)))) 120 (sB (true))) 121 (sV (Value.pointer x1))) 122 (sV (Value.agg ⟨l17⟩))) 123 (sI (i20))) 124 (sB (((i20 : Int) == 4)))) 125 (sB (((i20 : Int) == 4)))) 126 (sB (true))) 127 (sV (Value.pointer x1))) 128 (sV (Value.agg ⟨[(Value.int .u8 2), (Value.int .u8 0), (Value.int .u8 0), (Value.int .u8 1)]⟩))) 129 (sV (Value.agg ⟨(List.set (splice [(Value.int .u8 0), (Value.int .u8 0), (Value.int .u8 0), (Value.int .u8 0), (Value.int .i64 0)] 0 [(Value.int .u8 2), (Value.int .u8 0), (Value.int .u8 0), (Value.int .u8 1)]) 4 (Value.int .i64 9))⟩))) 130 (sI (i23))) 131 (sB (((i23 : Int) == 1)))) 132 (sB (((i23 : Int) == 1)))) 133 (sB (true))) 134 (sV (Value.pointer x1))) 135 (sV (Value.agg ⟨l26⟩))) 136 (sV (Value.agg ⟨(List.set (splice [(Value.int .u8 0), (Value.int .u8 0), (Value.int .u8 0), (Value.int .u8 0), (Value.int .i64 0)] 0 l26) 4 (Value.int .i64 65536))⟩))) 137 (sI (i29))) 138 (sB (((i29 : Int) == 1)))) 139 (sB (((i29 : Int) == 1)))) 16 (sB (((i29 : Int) == 1)))) (upd (upd (upd V0 15 (75, k15)) 11 (75, k11)) 9 (75, k9)) h28))) else False))) (K (upd (upd (upd (upd (upd (upd (upd (upd (upd (upd (upd (upd (upd (upd (upd (upd (upd (upd (upd (upd (upd (upd (upd (upd (upd (upd (upd (upd (upd (upd (upd (upd (upd (upd (upd (upd (upd (upd (upd (upd (upd (upd (upd (upd (upd e 15 (SV.priv 15 0)) 1 (sV (Value.pointer x1))) 98 (sV (Value.pointer x1))) 99 (sV (Value.agg ⟨l1⟩))) 100 (sI (i4))) 101 (sB (((i4 : Int) == 0)))) 102 (sB (true))) 103 (sV (Value.pointer x1))) 104 (sV (Value.agg ⟨l5⟩))) 105 (sI (i8))) 106 (sB (((i8 : Int) == 5)))) 107 (sB (((i8 : Int) == 5)))) 108 (sB (true))) 109 (sV (Value.pointer x1))) 110 (sV (Value.agg ⟨l9⟩))) 111 (sI (i12))) 112 (sB (((i12 : Int) == 11)))) 113 (sB (((i12 : Int) == 11)))) 114 (sB (true))) 115 (sV (Value.pointer x1))) 116 (sV (Value.agg ⟨l13⟩))) 117 (sI (i16))) 118 (sB (((i16 : Int) == 0)))) 119 (sB (((i16 : Int) == 0)))) 120 (sB (true))) 121 (sV (Value.pointer x1))) 122 (sV (Value.agg ⟨l17⟩))) 123 (sI (i20))) 124 (sB (((i20 : Int) == 4)))) 125 (sB (((i20 : Int) == 4)))) 126 (sB (true))) 127 (sV (Value.pointer x1))) 128 (sV (Value.agg ⟨[(Value.int .u8 2), (Value.int .u8 0), (Value.int .u8 0), (Value.int .u8 1)]⟩))) 129 (sV (Value.agg ⟨(List.set (splice [(Value.int .u8 0), (Value.int .u8 0), (Value.int .u8 0), (Value.int .u8 0), (Value.int .i64 0)] 0 [(Value.int .u8 2), (Value.int .u8 0), (Value.int .u8 0), (Value.int .u8 1)]) 4 (Value.int .i64 9))⟩))) 130 (sI (i23))) 131 (sB (((i23 : Int) == 1)))) 132 (sB (((i23 : Int) == 1)))) 133 (sB (false))) 134 (sV undef)) 135 (sV undef)) 136 (sV undef)) 137 (sV undef)) 138 (sV undef)) 139 (sB (false))) 16 (sB (false))) (upd (upd (upd V0 15 (75, k15)) 11 (75, k11)) 9 (75, k9)) h22)))) else False) (K (upd (upd (upd (upd (upd (upd (upd (upd (upd (upd (upd (upd (upd (upd (upd (upd (upd (upd (upd (upd (upd (upd (upd (upd (upd (upd (upd (upd (upd (upd (upd (upd (upd (upd (upd (upd (upd (upd (upd (upd (upd (upd (upd (upd (upd e 15 (SV.priv 15 0)) 1 (sV (Value.pointer x1))) 98 (sV (Value.pointer x1))) 99 (sV (Value.agg ⟨l1⟩))) 100 (sI (i4))) 101 (sB (((i4 : Int) == 0)))) 102 (sB (true))) 103 (sV (Value.pointer x1))) 104 (sV (Value.agg ⟨l5⟩))) 105 (sI (i8))) 106 (sB (((i8 : Int) == 5)))) 107 (sB (((i8 : Int) == 5)))) 108 (sB (true))) 109 (sV (Value.pointer x1))) 110 (sV (Value.agg ⟨l9⟩))) 111 (sI (i12))) 112 (sB (((i12 : Int) == 11)))) 113 (sB (((i12 : Int) == 11)))) 114 (sB (true))) 115 (sV (Value.pointer x1))) 116 (sV (Value.agg ⟨l13⟩))) 117 (sI (i16))) 118 (sB (((i16 : Int) == 0)))) 119 (sB (((i16 : Int) == 0)))) 120 (sB (true))) 121 (sV (Value.pointer x1))) 122 (sV (Value.agg ⟨l17⟩))) 123 (sI (i20))) 124 (sB (((i20 : Int) == 4)))) 125 (sB (((i20 : Int) == 4)))) 126 (sB (false))) 127 (sV undef)) 128 (sV undef)) 129 (sV undef)) 130 (sV undef)) 131 (sV undef)) 132 (sB (false))) 133 (sB (false))) 134 (sV undef)) 135 (sV undef)) 136 (sV undef)) 137 (sV undef)) 138 (sV undef)) 139 (sB (false))) 16 (sB (false))) (upd (upd (upd V0 15 (75, k15)) 11 (75, k11)) 9 (75, k9)) h19))))) (K (upd (upd (upd (upd (upd (upd (upd (upd (upd (upd (upd (upd (upd (upd (upd (upd (upd (upd (upd (upd (upd (upd (upd (upd (upd (upd (upd (upd (upd (upd (upd (upd (upd (upd (upd (upd (upd (upd (upd (upd (upd (upd (upd (upd (upd e 15 (SV.priv 15 0)) 1 (sV (Value.pointer x1))) 98 (sV (Value.pointer x1))) 99 (sV (Value.agg ⟨l1⟩))) 100 (sI (i4))) 101 (sB (((i4 : Int) == 0)))) 102 (sB (true))) 103 (sV (Value.pointer x1))) 104 (sV (Value.agg ⟨l5⟩))) 105 (sI (i8))) 106 (sB (((i8 : Int) == 5)))) 107 (sB (((i8 : Int) == 5)))) 108 (sB (true))) 109 (sV (Value.pointer x1))) 110 (sV (Value.agg ⟨l9⟩))) 111 (sI (i12))) 112 (sB (((i12 : Int) == 11)))) 113 (sB (((i12 : Int) == 11)))) 114 (sB (true))) 115 (sV (Value.pointer x1))) 116 (sV (Value.agg ⟨l13⟩))) 117 (sI (i16))) 118 (sB (((i16 : Int) == 0)))) 119 (sB (((i16 : Int) == 0)))) 120 (sB (false))) 121 (sV undef)) 122 (sV undef)) 123 (sV undef)) 124 (sV undef)) 125 (sB (false))) 126 (sB (false))) 127 (sV undef)) 128 (sV undef)) 129 (sV undef)) 130 (sV undef)) 131 (sV undef)) 132 (sB (false))) 133 (sB (false))) 134 (sV undef)) 135 (sV undef)) 136 (sV undef)) 137 (sV undef)) 138 (sV undef)) 139 (sB (false))) 16 (sB (false))) (upd (upd (upd V0 15 (75, k15)) 11 (75, k11)) 9 (75, k9)) h15))))) (K (upd (upd (upd (upd (upd (upd (upd (upd (upd (upd (upd (upd (upd (upd (upd (upd (upd (upd (upd (upd (upd (upd (upd (upd (upd (upd (upd (upd (upd (upd (upd (upd (upd (upd (upd (upd (upd (upd (upd (upd (upd (upd (upd (upd (upd e 15 (SV.priv 15 0)) 1 (sV (Value.pointer x1))) 98 (sV (Value.pointer x1))) 99 (sV (Value.agg ⟨l1⟩))) 100 (sI (i4))) 101 (sB (((i4 : Int) == 0)))) 102 (sB (true))) 103 (sV (Value.pointer x1))) 104 (sV (Value.agg ⟨l5⟩))) 105 (sI (i8))) 106 (sB (((i8 : Int) == 5)))) 107 (sB (((i8 : Int) == 5)))) 108 (sB (true))) 109 (sV (Value.pointer x1))) 110 (sV (Value.agg ⟨l9⟩))) 111 (sI (i12))) 112 (sB (((i12 : Int) == 11)))) 113 (sB (((i12 : Int) == 11)))) 114 (sB (false))) 115 (sV undef)) 116 (sV undef)) 117 (sV undef)) 118 (sV undef)) 119 (sB (false))) 120 (sB (false))) 121 (sV undef)) 122 (sV undef)) 123 (sV undef)) 124 (sV undef)) 125 (sB (false))) 126 (sB (false))) 127 (sV undef)) 128 (sV undef)) 129 (sV undef)) 130 (sV undef)) 131 (sV undef)) 132 (sB (false))) 133 (sB (false))) 134 (sV undef)) 135 (sV undef)) 136 (sV undef)) 137 (sV undef)) 138 (sV undef)) 139 (sB (false))) 16 (sB (false))) (upd (upd (upd V0 15 (75, k15)) 11 (75, k11)) 9 (75, k9)) h11))))) (K (upd (upd (upd (upd (upd (upd (upd (upd (upd (upd (upd (upd (upd (upd (upd (upd (upd (upd (upd (upd (upd (upd (upd (upd (upd (upd (upd (upd (upd (upd (upd (upd (upd (upd (upd (upd (upd (upd (upd (upd (upd (upd (upd (upd (upd e 15 (SV.priv 15 0)) 1 (sV (Value.pointer x1))) 98 (sV (Value.pointer x1))) 99 (sV (Value.agg ⟨l1⟩))) 100 (sI (i4))) 101 (sB (((i4 : Int) == 0)))) 102 (sB (true))) 103 (sV (Value.pointer x1))) 104 (sV (Value.agg ⟨l5⟩))) 105 (sI (i8))) 106 (sB (((i8 : Int) == 5)))) 107 (sB (((i8 : Int) == 5)))) 108 (sB (false))) 109 (sV undef)) 110 (sV undef)) 111 (sV undef)) 112 (sV undef)) 113 (sB (false))) 114 (sB (false))) 115 (sV undef)) 116 (sV undef)) 117 (sV undef)) 118 (sV undef)) 119 (sB (false))) 120 (sB (false))) 121 (sV undef)) 122 (sV undef)) 123 (sV undef)) 124 (sV undef)) 125 (sB (false))) 126 (sB (false))) 127 (sV undef)) 128 (sV undef)) 129 (sV undef)) 130 (sV undef)) 131 (sV undef)) 132 (sB (false))) 133 (sB (false))) 134 (sV undef)) 135 (sV undef)) 136 (sV undef)) 137 (sV undef)) 138 (sV undef)) 139 (sB (false))) 16 (sB (false))) (upd (upd (upd V0 15 (75, k15)) 11 (75, k11)) 9 (75, k9)) h7))))) (K (upd (upd (upd (upd (upd (upd (upd (upd (upd (upd (upd (upd (upd (upd (upd (upd (upd (upd (upd (upd (upd (upd (upd (upd (upd (upd (upd (upd (upd (upd (upd (upd (upd (upd (upd (upd (upd (upd (upd (upd (upd (upd (upd (upd (upd e 15 (SV.priv 15 0)) 1 (sV (Value.pointer x1))) 98 (sV (Value.pointer x1))) 99 (sV (Value.agg ⟨l1⟩))) 100 (sI (i4))) 101 (sB (((i4 : Int) == 0)))) 102 (sB (false))) 103 (sV undef)) 104 (sV undef)) 105 (sV undef)) 106 (sV undef)) 107 (sB (false))) 108 (sB (false))) 109 (sV undef)) 110 (sV undef)) 111 (sV undef)) 112 (sV undef)) 113 (sB (false))) 114 (sB (false))) 115 (sV undef)) 116 (sV undef)) 117 (sV undef)) 118 (sV undef)) 119 (sB (false))) 120 (sB (false))) 121 (sV undef)) 122 (sV undef)) 123 (sV undef)) 124 (sV undef)) 125 (sB (false))) 126 (sB (false))) 127 (sV undef)) 128 (sV undef)) 129 (sV undef)) 130 (sV undef)) 131 (sV undef)) 132 (sB (false))) 133 (sB (false))) 134 (sV undef)) 135 (sV undef)) 136 (sV undef)) 137 (sV undef)) 138 (sV undef)) 139 (sB (false))) 16 (sB (false))) (upd (upd (upd V0 15 (75, k15)) 11 (75, k11)) 9 (75, k9)) h3))))) := by kernel_rfl
def F11_j2 (x1 : Option Addr) (hp : HP) (K : Value → HP → Prop) : Prop :=
  (CF Try.prog 46 [(Value.pointer x1), (Value.agg ⟨[(Value.int .u8 9), (Value.int .u8 0), (Value.int .u8 0), (Value.int .u8 0)]⟩), (Value.int .i64 80), (Value.bool false)] hp fun u_27 h_28 => (tup2V u_27 fun u_29 u_30 => (aggV u_29 fun l_31 => (intV u_30 .i64 fun i_32 => (if List.length l_31 = 5 then (if List.all l_31 one = true then (if 0 + List.length l_31 ≤ List.length [(Value.int .u8 0), (Value.int .u8 0), (Value.int .u8 0), (Value.int .u8 0), (Value.int .i64 0)] then (CF Try.prog 53 [] h_28 fun u_33 h_34 => (aggV u_33 fun l_35 => (CF Try.prog 46 [(Value.pointer x1), (Value.agg ⟨l_35⟩), (Value.int .i64 5001), (Value.bool false)] h_34 fun u_36 h_37 => (tup2V u_36 fun u_38 u_39 => (aggV u_38 fun l_40 => (intV u_39 .i64 fun i_41 => (if List.length l_40 = 5 then (if List.all l_40 one = true then (if 0 + List.length l_40 ≤ List.length [(Value.int .u8 0), (Value.int .u8 0), (Value.int .u8 0), (Value.int .u8 0), (Value.int .i64 0)] then (CF Try.prog 53 [] h_37 fun u_42 h_43 => (aggV u_42 fun l_44 => (CF Try.prog 46 [(Value.pointer x1), (Value.agg ⟨l_44⟩), (Value.int .i64 0), (Value.bool true)] h_43 fun u_45 h_46 => (tup2V u_45 fun u_47 u_48 => (aggV u_47 fun l_49 => (intV u_48 .i64 fun i_50 => (if List.length l_49 = 5 then (if List.all l_49 one = true then (if 0 + List.length l_49 ≤ List.length [(Value.int .u8 0), (Value.int .u8 0), (Value.int .u8 0), (Value.int .u8 0), (Value.int .i64 0)] then (ldL (cellsN (splice [(Value.int .u8 0), (Value.int .u8 0), (Value.int .u8 0), (Value.int .u8 0), (Value.int .i64 0)] 0 l_49) 0 5) fun l_51 => (CF Try.prog 49 [(Value.pointer x1), (Value.agg ⟨l_51⟩)] h_46 fun u_52 h_53 => (intV u_52 .i64 fun i_54 => (ldL (cellsN (splice [(Value.int .u8 0), (Value.int .u8 0), (Value.int .u8 0), (Value.int .u8 0), (Value.int .i64 0)] 0 l_49) 0 5) fun l_55 => (CF Try.prog 49 [(Value.pointer x1), (Value.agg ⟨l_55⟩)] h_53 fun u_56 h_57 => (intV u_56 .i64 fun i_58 => (CF Try.prog 52 [] h_57 fun u_59 h_60 => (aggV u_59 fun l_61 => (if List.length l_61 = 4 then (if List.length (List.set (splice [(Value.int .u8 0), (Value.int .u8 0), (Value.int .u8 0), (Value.int .u8 0), (Value.int .i64 0)] 0 l_61) 4 (Value.int .i64 9)) = 5 then (if List.all (List.set (splice [(Value.int .u8 0), (Value.int .u8 0), (Value.int .u8 0), (Value.int .u8 0), (Value.int .i64 0)] 0 l_61) 4 (Value.int .i64 9)) one = true then (if 0 + List.length (List.set (splice [(Value.int .u8 0), (Value.int .u8 0), (Value.int .u8 0), (Value.int .u8 0), (Value.int .i64 0)] 0 l_61) 4 (Value.int .i64 9)) ≤ List.length [(Value.int .u8 0), (Value.int .u8 0), (Value.int .u8 0), (Value.int .u8 0), (Value.int .i64 0)] then (ldL (cellsN (splice [(Value.int .u8 0), (Value.int .u8 0), (Value.int .u8 0), (Value.int .u8 0), (Value.int .i64 0)] 0 (List.set (splice [(Value.int .u8 0), (Value.int .u8 0), (Value.int .u8 0), (Value.int .u8 0), (Value.int .i64 0)] 0 l_61) 4 (Value.int .i64 9))) 0 5) fun l_141 => (CF Try.prog 50 [(Value.pointer x1), (Value.agg ⟨l_141⟩)] h_60 fun u_142 h_143 => (intV u_142 .i64 fun i_144 => (ite2 ((i_144 : Int) == 0) (ldL (cellsN (splice [(Value.int .u8 0), (Value.int .u8 0), (Value.int .u8 0), (Value.int .u8 0), (Value.int .i64 0)] 0 (List.set (splice [(Value.int .u8 0), (Value.int .u8 0), (Value.int .u8 0), (Value.int .u8 0), (Value.int .i64 0)] 0 l_61) 4 (Value.int .i64 9))) 0 5) fun l_145 => (CF Try.prog 50 [(Value.pointer x1), (Value.agg ⟨l_145⟩)] h_143 fun u_146 h_147 => (intV u_146 .i64 fun i_148 => (ite2 ((i_148 : Int) == 5) (ldL (cellsN (splice [(Value.int .u8 0), (Value.int .u8 0), (Value.int .u8 0), (Value.int .u8 0), (Value.int .i64 0)] 0 (List.set (splice [(Value.int .u8 0), (Value.int .u8 0), (Value.int .u8 0), (Value.int .u8 0), (Value.int .i64 0)] 0 l_61) 4 (Value.int .i64 9))) 0 5) fun l_149 => (CF Try.prog 49 [(Value.pointer x1), (Value.agg ⟨l_149⟩)] h_147 fun u_150 h_151 => (intV u_150 .i64 fun i_152 => (ite2 ((i_152 : Int) == 11) (ldL (cellsN (splice [(Value.int .u8 0), (Value.int .u8 0), (Value.int .u8 0), (Value.int .u8 0), (Value.int .i64 0)] 0 (List.set (splice [(Value.int .u8 0), (Value.int .u8 0), (Value.int .u8 0), (Value.int .u8 0), (Value.int .i64 0)] 0 l_61) 4 (Value.int .i64 9))) 0 5) fun l_153 => (CF Try.prog 51 [(Value.pointer x1), (Value.agg ⟨l_153⟩)] h_151 fun u_154 h_155 => (intV u_154 .i64 fun i_156 => (ite2 ((i_156 : Int) == 0) (ldL (cellsN (splice [(Value.int .u8 0), (Value.int .u8 0), (Value.int .u8 0), (Value.int .u8 0), (Value.int .i64 0)] 0 (List.set (splice [(Value.int .u8 0), (Value.int .u8 0), (Value.int .u8 0), (Value.int .u8 0), (Value.int .i64 0)] 0 l_61) 4 (Value.int .i64 9))) 0 5) fun l_157 => (CF Try.prog 51 [(Value.pointer x1), (Value.agg ⟨l_157⟩)] h_155 fun u_158 h_159 => (intV u_158 .i64 fun i_160 => (ite2 ((i_160 : Int) == 4) (if List.length [(Value.int .u8 2), (Value.int .u8 0), (Value.int .u8 0), (Value.int .u8 1)] = 4 then (CF Try.prog 50 [(Value.pointer x1), (Value.agg ⟨(List.set (splice [(Value.int .u8 0), (Value.int .u8 0), (Value.int .u8 0), (Value.int .u8 0), (Value.int .i64 0)] 0 [(Value.int .u8 2), (Value.int .u8 0), (Value.int .u8 0), (Value.int .u8 1)]) 4 (Value.int .i64 9))⟩)] h_159 fun u_161 h_162 => (intV u_161 .i64 fun i_163 => (ite2 ((i_163 : Int) == 1) (CF Try.prog 52 [] h_162 fun u_164 h_165 => (aggV u_164 fun l_166 => (if List.length l_166 = 4 then (CF Try.prog 50 [(Value.pointer x1), (Value.agg ⟨(List.set (splice [(Value.int .u8 0), (Value.int .u8 0), (Value.int .u8 0), (Value.int .u8 0), (Value.int .i64 0)] 0 l_166) 4 (Value.int .i64 65536))⟩)] h_165 fun u_167 h_168 => (intV u_167 .i64 fun i_169 => (F11_j3 x1 i_32 i_41 i_50 i_54 i_58 ((i_169 : Int) == 1) (splice [(Value.int .u8 0), (Value.int .u8 0), (Value.int .u8 0), (Value.int .u8 0), (Value.int .i64 0)] 0 l_40) (splice [(Value.int .u8 0), (Value.int .u8 0), (Value.int .u8 0), (Value.int .u8 0), (Value.int .i64 0)] 0 l_49) h_168  K))) else False))) (F11_j3 x1 i_32 i_41 i_50 i_54 i_58 false (splice [(Value.int .u8 0), (Value.int .u8 0), (Value.int .u8 0), (Value.int .u8 0), (Value.int .i64 0)] 0 l_40) (splice [(Value.int .u8 0), (Value.int .u8 0), (Value.int .u8 0), (Value.int .u8 0), (Value.int .i64 0)] 0 l_49) h_162  K)))) else False) (F11_j3 x1 i_32 i_41 i_50 i_54 i_58 false (splice [(Value.int .u8 0), (Value.int .u8 0), (Value.int .u8 0), (Value.int .u8 0), (Value.int .i64 0)] 0 l_40) (splice [(Value.int .u8 0), (Value.int .u8 0), (Value.int .u8 0), (Value.int .u8 0), (Value.int .i64 0)] 0 l_49) h_159  K))))) (F11_j3 x1 i_32 i_41 i_50 i_54 i_58 false (splice [(Value.int .u8 0), (Value.int .u8 0), (Value.int .u8 0), (Value.int .u8 0), (Value.int .i64 0)] 0 l_40) (splice [(Value.int .u8 0), (Value.int .u8 0), (Value.int .u8 0), (Value.int .u8 0), (Value.int .i64 0)] 0 l_49) h_155  K))))) (F11_j3 x1 i_32 i_41 i_50 i_54 i_58 false (splice [(Value.int .u8 0), (Value.int .u8 0), (Value.int .u8 0), (Value.int .u8 0), (Value.int .i64 0)] 0 l_40) (splice [(Value.int .u8 0), (Value.int .u8 0), (Value.int .u8 0), (Value.int .u8 0), (Value.int .i64 0)] 0 l_49) h_151  K))))) (F11_j3 x1 i_32 i_41 i_50 i_54 i_58 false (splice [(Value.int .u8 0), (Value.int .u8 0), (Value.int .u8 0), (Value.int .u8 0), (Value.int .i64 0)] 0 l_40) (splice [(Value.int .u8 0), (Value.int .u8 0), (Value.int .u8 0), (Value.int .u8 0), (Value.int .i64 0)] 0 l_49) h_147  K))))) (F11_j3 x1 i_32 i_41 i_50 i_54 i_58 false (splice [(Value.int .u8 0), (Value.int .u8 0), (Value.int .u8 0), (Value.int .u8 0), (Value.int .i64 0)] 0 l_40) (splice [(Value.int .u8 0), (Value.int .u8 0), (Value.int .u8 0), (Value.int .u8 0), (Value.int .i64 0)] 0 l_49) h_143  K))))) else False) else False) else False) else False))))))))) else False) else False) else False))))))) else False) else False) else False))))))) else False) else False) else False)))))
theorem F11_r19 (e : Env) (x4 : Int) (hp : HP) (K : Env → PV → HP → Prop) : RW Try.prog 247 [5, 7, 9, 11, 15, 28] (opsAt Try.f11 [1, 1, 1, 1, 0, 1, 0, 0, 0, 0]) (List.range 2) (upd e 4 (sI (x4))) V0 hp K =
    (K (upd (upd (upd e 4 (sI (x4))) 52 (sI (x4))) 53 (sB ((decide ((x4 : Int) < 4))))) V0 hp) := by kernel_rfl
theorem F11_r20 (e : Env) (x1 : Option Addr) (hp : HP) (K : Env → PV → HP → Prop) : RW Try.prog 247 [5, 7, 9, 11, 15, 28] (opsAt Try.f11 [1, 1, 1, 1, 0, 1, 0, 0, 1, 0, 0, 0]) (List.range 9) (upd e 1 (sV (Value.pointer x1))) V0 hp K =
    (CF Try.prog 46 [(Value.pointer x1), (Value.agg ⟨[(Value.int .u8 9), (Value.int .u8 0), (Value.int .u8 0), (Value.int .u8 0)]⟩), (Value.int .i64 80), (Value.bool false)] hp fun u1 h2 => (tup2V u1 fun u3 u4 => (aggV u3 fun l5 => (intV u4 .i64 fun i6 => (if List.length l5 = 5 then (if List.all l5 one = true then (if 0 + List.length l5 ≤ List.length [(Value.int .u8 0), (Value.int .u8 0), (Value.int .u8 0), (Value.int .u8 0), (Value.int .i64 0)] then (K (upd (upd (upd (upd (upd (upd (upd (upd (upd e 1 (sV (Value.pointer x1))) 57 (sV (Value.pointer x1))) 58 (sV (Value.agg ⟨[(Value.int .u8 9), (Value.int .u8 0), (Value.int .u8 0), (Value.int .u8 0)]⟩))) 59 (sV (Value.tuple ⟨[(Value.agg ⟨l5⟩), (Value.int .i64 i6)]⟩))) 56 (sV (Value.tuple ⟨[(Value.agg ⟨l5⟩), (Value.int .i64 i6)]⟩))) 60 (sV (Value.agg ⟨l5⟩))) 61 (sI (i6))) 5 (SV.priv 5 0)) 6 (sI (i6))) (upd (upd V0 5 (75, [(Value.int .u8 0), (Value.int .u8 0), (Value.int .u8 0), (Value.int .u8 0), (Value.int .i64 0)])) 5 (75, (splice [(Value.int .u8 0), (Value.int .u8 0), (Value.int .u8 0), (Value.int .u8 0), (Value.int .i64 0)] 0 l5))) h2) else False) else False) else False))))) := by kernel_rfl
theorem F11_r21 (e : Env) (hp : HP) (K : Env → PV → HP → Prop) : RW Try.prog 247 [5, 7, 9, 11, 15, 28] (opsAt Try.f11 [1, 1, 1, 1, 0, 1, 0, 0, 1, 0, 0, 1, 1, 0, 0]) (List.range 1) e V0 hp K =
    (K (upd e 0 (sB (false))) V0 hp) := by kernel_rfl
theorem F11_r22 (e : Env) (x4 : Int) (hp : HP) (K : Env → PV → HP → Prop) : RW Try.prog 247 [5, 7, 9, 11, 15, 28] (opsAt Try.f11 [1, 1, 1, 1, 0, 1, 0, 0, 1, 1]) (List.range 3) (upd e 4 (sI (x4))) V0 hp K =
    (K (upd (upd (upd (upd e 4 (sI (x4))) 54 (sI (x4))) 55 (sI ((IntKind.wrap .i64 (x4 + 1))))) 4 (sI ((IntKind.wrap .i64 (x4 + 1))))) V0 hp) := by kernel_rfl
def F11_j7 (x1 : Option Addr) (x3a : Option Addr) (x3n : Nat) (x3c : Nat) (x4 : Int) (x71 : Bool) (hp : HP) (I6 : (Int) → HP → Prop) (K : Value → HP → Prop) : Prop :=
  (ite2 x71 (K (Value.bool false) hp) (I6 (IntKind.wrap .i64 (x4 + 1)) hp))
theorem F11_r23 (e : Env) (x3a : Option Addr) (x3n : Nat) (x3c : Nat) (x4 : Int) (x6 : Int) (k5 : List Value) (hp : HP) (K : Env → PV → HP → Prop) : RW Try.prog 247 [5, 7, 9, 11, 15, 28] (opsAt Try.f11 [1, 1, 1, 1, 0, 1, 0, 0, 1, 0, 0, 1, 0]) (List.range 10) (upd (upd (upd (upd e 6 (sI (x6))) 5 (SV.priv 5 0)) 4 (sI (x4))) 3 (sV (Value.slice x3a x3n x3c))) (upd V0 5 (75, k5)) hp K =
    (ldL (cellsN k5 0 5) fun l1 => ((0 ≤ (x4 : Int)) ∧ ((x4 : Int) < (x3n : Nat)) ∧ (ptrN x3a fun b2 o3 => (ldL (HP.cellN hp b2 (o3 + Int.toNat x4 * 5) 5) fun l4 => (eqAgg Try.prog 75 l1 l4 fun q5 => (ite2 (!q5) (K (upd (upd (upd (upd (upd (upd (upd (upd (upd (upd (upd (upd (upd (upd e 6 (sI (x6))) 5 (SV.priv 5 0)) 4 (sI (x4))) 3 (sV (Value.slice x3a x3n x3c))) 62 (sV (Value.agg ⟨l1⟩))) 63 (sV (Value.slice x3a x3n x3c))) 64 (sI (x4))) 65 (sV (ptr b2 (o3 + Int.toNat x4 * 5)))) 66 (sV (Value.agg ⟨l4⟩))) 67 (sB ((!q5)))) 68 (sB (true))) 69 (sV undef)) 70 (sV undef)) 71 (sB (true))) (upd V0 5 (75, k5)) hp) (K (upd (upd (upd (upd (upd (upd (upd (upd (upd (upd (upd (upd (upd (upd e 6 (sI (x6))) 5 (SV.priv 5 0)) 4 (sI (x4))) 3 (sV (Value.slice x3a x3n x3c))) 62 (sV (Value.agg ⟨l1⟩))) 63 (sV (Value.slice x3a x3n x3c))) 64 (sI (x4))) 65 (sV (ptr b2 (o3 + Int.toNat x4 * 5)))) 66 (sV (Value.agg ⟨l4⟩))) 67 (sB ((!q5)))) 68 (sB (false))) 69 (sI (x6))) 70 (sB (((x6 : Int) != 0)))) 71 (sB (((x6 : Int) != 0)))) (upd V0 5 (75, k5)) hp))))))) := by kernel_rfl
def F11_l6 (x1 : Option Addr) (x3a : Option Addr) (x3n : Nat) (x3c : Nat) (K : Value → HP → Prop) (I6 : (Int) → HP → Prop) (x4 : Int) (hp : HP) : Prop :=
  (ite2 (decide ((x4 : Int) < 4)) (CF Try.prog 46 [(Value.pointer x1), (Value.agg ⟨[(Value.int .u8 9), (Value.int .u8 0), (Value.int .u8 0), (Value.int .u8 0)]⟩), (Value.int .i64 80), (Value.bool false)] hp fun u_170 h_171 => (tup2V u_170 fun u_172 u_173 => (aggV u_172 fun l_174 => (intV u_173 .i64 fun i_175 => (if List.length l_174 = 5 then (if List.all l_174 one = true then (if 0 + List.length l_174 ≤ List.length [(Value.int .u8 0), (Value.int .u8 0), (Value.int .u8 0), (Value.int .u8 0), (Value.int .i64 0)] then (ldL (cellsN (splice [(Value.int .u8 0), (Value.int .u8 0), (Value.int .u8 0), (Value.int .u8 0), (Value.int .i64 0)] 0 l_174) 0 5) fun l_176 => ((0 ≤ (x4 : Int)) ∧ ((x4 : Int) < (x3n : Nat)) ∧ (ptrN x3a fun b_177 o_178 => (ldL (HP.cellN h_171 b_177 (o_178 + Int.toNat x4 * 5) 5) fun l_179 => (eqAgg Try.prog 75 l_176 l_179 fun q_180 => (ite2 (!q_180) (F11_j7 x1 x3a x3n x3c x4 true h_171 I6 K) (F11_j7 x1 x3a x3n x3c x4 ((i_175 : Int) != 0) h_171 I6 K))))))) else False) else False) else False))))) (F11_j2 x1 hp  K))
def F11_j5 (x1 : Option Addr) (x3a : Option Addr) (x3n : Nat) (x3c : Nat) (x4 : Int) (hp : HP) (K : Value → HP → Prop) : Prop :=
  (LoopP (σ := Int) (fun I s hp => F11_l6 x1 x3a x3n x3c  K I s hp) x4 hp)
theorem F11_r24 (e : Env) (hp : HP) (K : Env → PV → HP → Prop) : RW Try.prog 247 [5, 7, 9, 11, 15, 28] (opsAt Try.f11 [1, 1, 1, 1, 0, 0]) (List.range 1) e V0 hp K =
    (K (upd e 4 (sI (0))) V0 hp) := by kernel_rfl
def F11_j1 (x1 : Option Addr) (x42 : Bool) (hp : HP) (K : Value → HP → Prop) : Prop :=
  (ite2 x42 (K (Value.bool false) hp) (CF Try.prog 52 [] hp fun u_14 h_15 => (aggV u_14 fun l_16 => (if List.length l_16 = 4 then (CF Try.prog 52 [] h_15 fun u_17 h_18 => (aggV u_17 fun l_19 => (if List.length l_19 = 4 then (CF Try.prog 53 [] h_18 fun u_20 h_21 => (aggV u_20 fun l_22 => (if List.length l_22 = 4 then (CF Try.prog 53 [] h_21 fun u_23 h_24 => (aggV u_23 fun l_25 => (if List.length l_25 = 4 then (if List.length (List.set (splice [(Value.int .u8 0), (Value.int .u8 0), (Value.int .u8 0), (Value.int .u8 0), (Value.int .i64 0)] 0 l_16) 4 (Value.int .i64 1020)) = 5 then (if List.length (List.set (splice [(Value.int .u8 0), (Value.int .u8 0), (Value.int .u8 0), (Value.int .u8 0), (Value.int .i64 0)] 0 l_19) 4 (Value.int .i64 1022)) = 5 then (if List.length (List.set (splice [(Value.int .u8 0), (Value.int .u8 0), (Value.int .u8 0), (Value.int .u8 0), (Value.int .i64 0)] 0 l_22) 4 (Value.int .i64 1020)) = 5 then (if List.length (List.set (splice [(Value.int .u8 0), (Value.int .u8 0), (Value.int .u8 0), (Value.int .u8 0), (Value.int .i64 0)] 0 l_25) 4 (Value.int .i64 1022)) = 5 then (∀ b_26 : Nat, h_24 b_26 = .none → (F11_j5 x1 (some ⟨b_26, 0, none⟩) 4 4 0 (HP.set h_24 b_26 (.cells 75 (splice (splice (splice (splice [(Value.int .u8 0), (Value.int .u8 0), (Value.int .u8 0), (Value.int .u8 0), (Value.int .i64 0), (Value.int .u8 0), (Value.int .u8 0), (Value.int .u8 0), (Value.int .u8 0), (Value.int .i64 0), (Value.int .u8 0), (Value.int .u8 0), (Value.int .u8 0), (Value.int .u8 0), (Value.int .i64 0), (Value.int .u8 0), (Value.int .u8 0), (Value.int .u8 0), (Value.int .u8 0), (Value.int .i64 0)] 0 (List.set (splice [(Value.int .u8 0), (Value.int .u8 0), (Value.int .u8 0), (Value.int .u8 0), (Value.int .i64 0)] 0 l_16) 4 (Value.int .i64 1020))) 5 (List.set (splice [(Value.int .u8 0), (Value.int .u8 0), (Value.int .u8 0), (Value.int .u8 0), (Value.int .i64 0)] 0 l_19) 4 (Value.int .i64 1022))) 10 (List.set (splice [(Value.int .u8 0), (Value.int .u8 0), (Value.int .u8 0), (Value.int .u8 0), (Value.int .i64 0)] 0 l_22) 4 (Value.int .i64 1020))) 15 (List.set (splice [(Value.int .u8 0), (Value.int .u8 0), (Value.int .u8 0), (Value.int .u8 0), (Value.int .i64 0)] 0 l_25) 4 (Value.int .i64 1022))) 0))  K)) else False) else False) else False) else False) else False))) else False))) else False))) else False))))
theorem F11_r25 (e : Env) (x1 : Option Addr) (x2 : Int) (hp : HP) (K : Env → PV → HP → Prop) : RW Try.prog 247 [5, 7, 9, 11, 15, 28] (opsAt Try.f11 [1, 1, 0, 0]) (List.range 6) (upd (upd e 2 (sI (x2))) 1 (sV (Value.pointer x1))) V0 hp K =
    (ite2 ((x2 : Int) != 0) (K (upd (upd (upd (upd (upd (upd (upd (upd e 2 (sI (x2))) 1 (sV (Value.pointer x1))) 37 (sI (x2))) 38 (sB (((x2 : Int) != 0)))) 39 (sB (true))) 40 (sV undef)) 41 (sV undef)) 42 (sB (true))) V0 hp) (K (upd (upd (upd (upd (upd (upd (upd (upd e 2 (sI (x2))) 1 (sV (Value.pointer x1))) 37 (sI (x2))) 38 (sB (((x2 : Int) != 0)))) 39 (sB (false))) 40 (sV (Value.pointer x1))) 41 (sB ((Option.isNone x1)))) 42 (sB ((Option.isNone x1)))) V0 hp)) := by kernel_rfl
def F11 (hp : HP) (K : Value → HP → Prop) : Prop :=
  (CF Try.prog 52 [] hp fun u_1 h_2 => (aggV u_1 fun l_3 => (CF Try.prog 53 [] h_2 fun u_4 h_5 => (aggV u_4 fun l_6 => (if List.length l_3 = 4 then (if List.length l_6 = 4 then (∀ b_7 : Nat, h_5 b_7 = .none → (CF Try.prog 44 [(Value.slice (some ⟨b_7, 0, none⟩) 2 2), (Value.int .i64 1020), (Value.int .i64 1027)] (HP.set h_5 b_7 (.cells 73 (splice (splice [(Value.int .u8 0), (Value.int .u8 0), (Value.int .u8 0), (Value.int .u8 0), (Value.int .u8 0), (Value.int .u8 0), (Value.int .u8 0), (Value.int .u8 0)] 0 l_3) 4 l_6) 0)) fun u_8 h_9 => (tup2V u_8 fun u_10 u_11 => (ptrV u_10 fun p_12 => (intV u_11 .i64 fun i_13 => (ite2 ((i_13 : Int) != 0) (F11_j1 p_12 true h_9  K) (F11_j1 p_12 (Option.isNone p_12) h_9  K))))))) else False) else False)))))
noncomputable def F11_code : Code := (.seq (.region 0 (opsAt Try.f11 [0]) false) (.seq (.region 1 (opsAt Try.f11 [1, 0]) false) (.seq (.seq (.region 2 (opsAt Try.f11 [1, 1, 0, 0]) false) (.cond (.tmp 42) (.seq (.region 3 (opsAt Try.f11 [1, 1, 0, 1, 0, 0]) false) .ret) .skip)) (.seq (.region 4 (opsAt Try.f11 [1, 1, 1, 0]) false) (.seq (.seq (.region 5 (opsAt Try.f11 [1, 1, 1, 1, 0, 0]) false) (.block 0 (.loop (.seq (.seq (.region 6 (opsAt Try.f11 [1, 1, 1, 1, 0, 1, 0, 0, 0, 0]) false) (.cond (.tmp 53) .skip (.exit 0))) (.seq (.block 1 (.seq (.region 8 (opsAt Try.f11 [1, 1, 1, 1, 0, 1, 0, 0, 1, 0, 0, 0]) false) (.seq (.region 9 (opsAt Try.f11 [1, 1, 1, 1, 0, 1, 0, 0, 1, 0, 0, 1, 0]) true) (.cond (.tmp 71) (.seq (.region 10 (opsAt Try.f11 [1, 1, 1, 1, 0, 1, 0, 0, 1, 0, 0, 1, 1, 0, 0]) false) .ret) .skip)))) (.region 7 (opsAt Try.f11 [1, 1, 1, 1, 0, 1, 0, 0, 1, 1]) false)))))) (.seq (.region 11 (opsAt Try.f11 [1, 1, 1, 1, 1, 0]) false) (.seq (.region 12 (opsAt Try.f11 [1, 1, 1, 1, 1, 1, 0]) false) (.seq (.region 13 (opsAt Try.f11 [1, 1, 1, 1, 1, 1, 1, 0]) false) (.seq (.region 14 (opsAt Try.f11 [1, 1, 1, 1, 1, 1, 1, 1, 0]) false) (.seq (.region 15 (opsAt Try.f11 [1, 1, 1, 1, 1, 1, 1, 1, 1, 0]) false) (.seq (.region 16 (opsAt Try.f11 [1, 1, 1, 1, 1, 1, 1, 1, 1, 1, 0]) false) (.seq (.region 17 (opsAt Try.f11 [1, 1, 1, 1, 1, 1, 1, 1, 1, 1, 1, 0]) false) (.seq (.region 18 (opsAt Try.f11 [1, 1, 1, 1, 1, 1, 1, 1, 1, 1, 1, 1, 0]) true) (.seq (.region 19 (opsAt Try.f11 [1, 1, 1, 1, 1, 1, 1, 1, 1, 1, 1, 1, 1, 0]) false) (.seq (.region 20 (opsAt Try.f11 [1, 1, 1, 1, 1, 1, 1, 1, 1, 1, 1, 1, 1, 1, 0]) false) (.seq (.region 21 (opsAt Try.f11 [1, 1, 1, 1, 1, 1, 1, 1, 1, 1, 1, 1, 1, 1, 1, 0]) false) (.seq (.region 22 (opsAt Try.f11 [1, 1, 1, 1, 1, 1, 1, 1, 1, 1, 1, 1, 1, 1, 1, 1, 0]) false) (.seq (.region 23 (opsAt Try.f11 [1, 1, 1, 1, 1, 1, 1, 1, 1, 1, 1, 1, 1, 1, 1, 1, 1, 0]) false) (.seq (.region 24 (opsAt Try.f11 [1, 1, 1, 1, 1, 1, 1, 1, 1, 1, 1, 1, 1, 1, 1, 1, 1, 1, 0]) false) (.seq (.region 25 (opsAt Try.f11 [1, 1, 1, 1, 1, 1, 1, 1, 1, 1, 1, 1, 1, 1, 1, 1, 1, 1, 1, 0]) false) .ret))))))))))))))))))))
theorem F11_body : Try.f11.body = some F11_code := by kernel_rfl
theorem F11_ok (hp : HP) (K : Value → HP → Prop) (h : F11  hp K) : CF Try.prog 11 [] hp K := by
 refine .inl ⟨by kernel_rfl, AC.intro (N := 247) Try.func11 F11_body rfl (Nat.le_of_ble_eq_true rfl) ?_⟩
 unfold F11 at h
 unfold F11_code
 refine AWP.seq' ?_
 refine AWP.rgn (F11_r0 E0  hp _) ?_ (Rn) (Sn) (Sn)
 refine AWP.seq' ?_
 refine AWP.rgn (F11_r1 E0  hp _) ?_ (Rn) (Sn) (Sn)
 refine CF_mono h (fun u_1 h_2 h => ?_)
 refine aggV_mono h (fun l_3 h => ?_)
 refine CF_mono h (fun u_4 h_5 h => ?_)
 refine aggV_mono h (fun l_6 h => ?_)
 refine if_mono h (fun h => ?_)
 refine if_mono h (fun h => ?_)
 refine fun b_7 hb_b_7 => ?_
 replace h := h b_7 hb_b_7
 refine CF_mono h (fun u_8 h_9 h => ?_)
 refine tup2V_mono h (fun u_10 u_11 h => ?_)
 refine ptrV_mono h (fun p_12 h => ?_)
 refine intV_mono h (fun i_13 h => ?_)
 refine AWP.seq' ?_
 refine AWP.seq (fun env pv hp => ∃ (x1 : Option Addr) (x42 : Bool), Sub (upd (upd E0 42 (sB (x42))) 1 (sV (Value.pointer x1))) env ∧ Sub V0 pv ∧ (F11_j1 x1 x42 hp  K)) ?_ ?_
 ·refine AWP.rgn (F11_r25 E0 p_12 i_13 h_9 _) ?_ (Rv 1 _ (Rv 2 _ (Rn))) (Sc rfl (Sc rfl (Sn))) (Sn)
  refine ite2_mono h (fun h => ?_) (fun h => ?_)
  ·exact ⟨p_12, true, (Sc rfl (Sc rfl (Sn))), (Sn), h⟩
  ·exact ⟨p_12, (Option.isNone p_12), (Sc rfl (Sc rfl (Sn))), (Sn), h⟩
 ·rintro env pv hp ⟨x1, x42, he, hv, h⟩
  refine AWP.sub (env' := (upd (upd E0 42 (sB (x42))) 1 (sV (Value.pointer x1)))) (pv' := V0) ?_ (Rv 1 _ (Rv 42 _ (Rn))) he hv (HSub.refl _)
  clear he hv
  unfold F11_j1 at h
  refine AWP.cond (t := x42) rfl (fun e => ?_) (fun e => ?_)
  ·replace h := ite2_t h e
   refine AWP.seq' ?_
   refine AWP.rgn (F11_r2 E0  hp _) ?_ (Rn) (Sn) (Sn)
   refine AWP.ret ?_
   exact h
  ·replace h := ite2_f h e
   refine AWP.skip ?_
   refine AWP.seq' ?_
   refine AWP.rgn (F11_r3 (upd E0 1 (sV (Value.pointer x1)))  hp _) ?_ (Rv 1 _ (Rn)) (Sc rfl (Sn)) (Sn)
   refine CF_mono h (fun u_14 h_15 h => ?_)
   refine aggV_mono h (fun l_16 h => ?_)
   refine if_mono h (fun h => ?_)
   refine CF_mono h (fun u_17 h_18 h => ?_)
   refine aggV_mono h (fun l_19 h => ?_)
   refine if_mono h (fun h => ?_)
   refine CF_mono h (fun u_20 h_21 h => ?_)
   refine aggV_mono h (fun l_22 h => ?_)
   refine if_mono h (fun h => ?_)
   refine CF_mono h (fun u_23 h_24 h => ?_)
   refine aggV_mono h (fun l_25 h => ?_)
   refine if_mono h (fun h => ?_)
   refine if_mono h (fun h => ?_)
   refine if_mono h (fun h => ?_)
   refine if_mono h (fun h => ?_)
   refine if_mono h (fun h => ?_)
   refine fun b_26 hb_b_26 => ?_
   replace h := h b_26 hb_b_26
   refine AWP.seq (fun env pv hp => ∃ (x1 : Option Addr), Sub (upd E0 1 (sV (Value.pointer x1))) env ∧ Sub V0 pv ∧ (F11_j2 x1 hp  K)) ?_ ?_
   ·refine AWP.seq (fun env pv hp => ∃ (x1 : Option Addr) (x3a : Option Addr) (x3n : Nat) (x3c : Nat) (x4 : Int), Sub (upd (upd (upd E0 4 (sI (x4))) 3 (sV (Value.slice x3a x3n x3c))) 1 (sV (Value.pointer x1))) env ∧ Sub V0 pv ∧ (F11_j5 x1 x3a x3n x3c x4 hp  K)) ?_ ?_
    ·refine AWP.rgn (F11_r24 (upd (upd E0 3 (sV (Value.slice (some ⟨b_26, 0, none⟩) 4 4))) 1 (sV (Value.pointer x1)))  (HP.set h_24 b_26 (.cells 75 (splice (splice (splice (splice [(Value.int .u8 0), (Value.int .u8 0), (Value.int .u8 0), (Value.int .u8 0), (Value.int .i64 0), (Value.int .u8 0), (Value.int .u8 0), (Value.int .u8 0), (Value.int .u8 0), (Value.int .i64 0), (Value.int .u8 0), (Value.int .u8 0), (Value.int .u8 0), (Value.int .u8 0), (Value.int .i64 0), (Value.int .u8 0), (Value.int .u8 0), (Value.int .u8 0), (Value.int .u8 0), (Value.int .i64 0)] 0 (List.set (splice [(Value.int .u8 0), (Value.int .u8 0), (Value.int .u8 0), (Value.int .u8 0), (Value.int .i64 0)] 0 l_16) 4 (Value.int .i64 1020))) 5 (List.set (splice [(Value.int .u8 0), (Value.int .u8 0), (Value.int .u8 0), (Value.int .u8 0), (Value.int .i64 0)] 0 l_19) 4 (Value.int .i64 1022))) 10 (List.set (splice [(Value.int .u8 0), (Value.int .u8 0), (Value.int .u8 0), (Value.int .u8 0), (Value.int .i64 0)] 0 l_22) 4 (Value.int .i64 1020))) 15 (List.set (splice [(Value.int .u8 0), (Value.int .u8 0), (Value.int .u8 0), (Value.int .u8 0), (Value.int .i64 0)] 0 l_25) 4 (Value.int .i64 1022))) 0)) _) ?_ (Rv 1 _ (Rv 3 _ (Rn))) (Sc rfl (Sc rfl (Sn))) (Sn)
     exact ⟨x1, (some ⟨b_26, 0, none⟩), 4, 4, 0, (Sc rfl (Sc rfl (Sc rfl (Sn)))), (Sn), h⟩
    ·rintro env pv hp ⟨x1, x3a, x3n, x3c, x4, he, hv, h⟩
     refine AWP.sub (env' := (upd (upd (upd E0 4 (sI (x4))) 3 (sV (Value.slice x3a x3n x3c))) 1 (sV (Value.pointer x1)))) (pv' := V0) ?_ (Rv 1 _ (Rv 3 _ (Rv 4 _ (Rn)))) he hv (HSub.refl _)
     clear he hv
     unfold F11_j5 at h
     refine AWP.block ?_
     refine AWP.loop (σ := Int) (fun I s hp => F11_l6 x1 x3a x3n x3c  K I s hp) (fun s => (upd (upd (upd E0 4 (sI (s))) 3 (sV (Value.slice x3a x3n x3c))) 1 (sV (Value.pointer x1)))) (fun s => V0) x4 h (fun s => (Rv 1 _ (Rv 3 _ (Rv 4 _ (Rn))))) (Sc rfl (Sc rfl (Sc rfl (Sn)))) (Sn) ?_
     intro I6 s hp h
     obtain ⟨x4, hs⟩ : ∃ x, x = s := ⟨s, rfl⟩
     subst hs
     replace h : F11_l6 x1 x3a x3n x3c  K I6 x4 hp := h
     unfold F11_l6 at h
     refine AWP.seq' ?_
     refine AWP.seq' ?_
     refine AWP.rgn (F11_r19 (upd (upd E0 3 (sV (Value.slice x3a x3n x3c))) 1 (sV (Value.pointer x1))) x4 hp _) ?_ (Rv 4 _ (Rv 1 _ (Rv 3 _ (Rn)))) (Sc rfl (Sc rfl (Sc rfl (Sn)))) (Sn)
     refine AWP.cond (t := (decide ((x4 : Int) < 4))) rfl (fun e => ?_) (fun e => ?_)
     ·replace h := ite2_t h e
      refine AWP.skip ?_
      refine AWP.seq' ?_
      refine AWP.block ?_
      refine AWP.seq' ?_
      refine AWP.rgn (F11_r20 (upd (upd E0 4 (sI (x4))) 3 (sV (Value.slice x3a x3n x3c))) x1 hp _) ?_ (Rv 1 _ (Rv 3 _ (Rv 4 _ (Rn)))) (Sc rfl (Sc rfl (Sc rfl (Sn)))) (Sn)
      refine CF_mono h (fun u_170 h_171 h => ?_)
      refine tup2V_mono h (fun u_172 u_173 h => ?_)
      refine aggV_mono h (fun l_174 h => ?_)
      refine intV_mono h (fun i_175 h => ?_)
      refine if_mono h (fun h => ?_)
      refine if_mono h (fun h => ?_)
      refine if_mono h (fun h => ?_)
      refine AWP.seq (fun env pv hp => ∃ (x4 : Int) (x71 : Bool), Sub (upd (upd (upd (upd E0 71 (sB (x71))) 4 (sI (x4))) 3 (sV (Value.slice x3a x3n x3c))) 1 (sV (Value.pointer x1))) env ∧ Sub V0 pv ∧ (F11_j7 x1 x3a x3n x3c x4 x71 hp I6 K)) ?_ ?_
      ·refine AWP.rgnD (by kernel_rfl) (by kernel_rfl) (F11_r23 (upd E0 1 (sV (Value.pointer x1))) x3a x3n x3c x4 i_175 (splice [(Value.int .u8 0), (Value.int .u8 0), (Value.int .u8 0), (Value.int .u8 0), (Value.int .i64 0)] 0 l_174) h_171 _) ?_ (Rv 3 _ (Rv 4 _ (RefOk.p 5 5 0 (Rv 6 _ (Rv 1 _ (Rn))) (fun e => by cases e)))) (Sc rfl (Sc rfl (Sc rfl (Sc rfl (Sc rfl (Sn)))))) (Sc rfl (Sn))
       refine ldL_mono h (fun l_176 h => ?_)
       refine ⟨h.1, h.2.1, ?_⟩
       replace h := h.2.2
       refine ptrN_mono h (fun b_177 o_178 h => ?_)
       refine ldL_mono h (fun l_179 h => ?_)
       refine eqAgg_mono h (fun q_180 h => ?_)
       refine ite2_mono h (fun h => ?_) (fun h => ?_)
       ·exact ⟨x4, true, (Sc rfl (Sc rfl (Sc rfl (Sc rfl (Sn))))), (Sn), h⟩
       ·exact ⟨x4, ((i_175 : Int) != 0), (Sc rfl (Sc rfl (Sc rfl (Sc rfl (Sn))))), (Sn), h⟩
      ·rintro env pv hp ⟨x4, x71, he, hv, h⟩
       refine AWP.sub (env' := (upd (upd (upd (upd E0 71 (sB (x71))) 4 (sI (x4))) 3 (sV (Value.slice x3a x3n x3c))) 1 (sV (Value.pointer x1)))) (pv' := V0) ?_ (Rv 1 _ (Rv 3 _ (Rv 4 _ (Rv 71 _ (Rn))))) he hv (HSub.refl _)
       clear he hv
       unfold F11_j7 at h
       refine AWP.cond (t := x71) rfl (fun e => ?_) (fun e => ?_)
       ·replace h := ite2_t h e
        refine AWP.seq' ?_
        refine AWP.rgn (F11_r21 E0  hp _) ?_ (Rn) (Sn) (Sn)
        refine AWP.ret ?_
        exact h
       ·replace h := ite2_f h e
        refine AWP.skip ?_
        refine AWP.rgn (F11_r22 (upd (upd E0 3 (sV (Value.slice x3a x3n x3c))) 1 (sV (Value.pointer x1))) x4 hp _) ?_ (Rv 4 _ (Rv 1 _ (Rv 3 _ (Rn)))) (Sc rfl (Sc rfl (Sc rfl (Sn)))) (Sn)
        exact ⟨(IntKind.wrap .i64 (x4 + 1)), (Sc rfl (Sc rfl (Sc rfl (Sn)))), (Sn), h⟩
     ·replace h := ite2_f h e
      refine AWP.exit ?_
      exact ⟨x1, (Sc rfl (Sn)), (Sn), h⟩
   ·rintro env pv hp ⟨x1, he, hv, h⟩
    refine AWP.sub (env' := (upd E0 1 (sV (Value.pointer x1)))) (pv' := V0) ?_ (Rv 1 _ (Rn)) he hv (HSub.refl _)
    clear he hv
    unfold F11_j2 at h
    refine AWP.seq' ?_
    refine AWP.rgn (F11_r4 E0 x1 hp _) ?_ (Rv 1 _ (Rn)) (Sc rfl (Sn)) (Sn)
    refine CF_mono h (fun u_27 h_28 h => ?_)
    refine tup2V_mono h (fun u_29 u_30 h => ?_)
    refine aggV_mono h (fun l_31 h => ?_)
    refine intV_mono h (fun i_32 h => ?_)
    refine if_mono h (fun h => ?_)
    refine if_mono h (fun h => ?_)
    refine if_mono h (fun h => ?_)
    refine AWP.seq' ?_
    refine AWP.rgn (F11_r5 (upd E0 8 (sI (i_32))) x1 h_28 _) ?_ (Rv 1 _ (Rv 8 _ (Rn))) (Sc rfl (Sc rfl (Sn))) (Sn)
    refine CF_mono h (fun u_33 h_34 h => ?_)
    refine aggV_mono h (fun l_35 h => ?_)
    refine CF_mono h (fun u_36 h_37 h => ?_)
    refine tup2V_mono h (fun u_38 u_39 h => ?_)
    refine aggV_mono h (fun l_40 h => ?_)
    refine intV_mono h (fun i_41 h => ?_)
    refine if_mono h (fun h => ?_)
    refine if_mono h (fun h => ?_)
    refine if_mono h (fun h => ?_)
    refine AWP.seq' ?_
    refine AWP.rgn (F11_r6 (upd (upd (upd E0 10 (sI (i_41))) 9 (SV.priv 9 0)) 8 (sI (i_32))) x1 (splice [(Value.int .u8 0), (Value.int .u8 0), (Value.int .u8 0), (Value.int .u8 0), (Value.int .i64 0)] 0 l_40) h_37 _) ?_ (Rv 1 _ (Rv 8 _ (RefOk.p 9 9 0 (Rv 10 _ (Rn)) (fun e => by cases e)))) (Sc rfl (Sc rfl (Sc rfl (Sc rfl (Sn))))) (Sc rfl (Sn))
    refine CF_mono h (fun u_42 h_43 h => ?_)
    refine aggV_mono h (fun l_44 h => ?_)
    refine CF_mono h (fun u_45 h_46 h => ?_)
    refine tup2V_mono h (fun u_47 u_48 h => ?_)
    refine aggV_mono h (fun l_49 h => ?_)
    refine intV_mono h (fun i_50 h => ?_)
    refine if_mono h (fun h => ?_)
    refine if_mono h (fun h => ?_)
    refine if_mono h (fun h => ?_)
    refine AWP.seq' ?_
    refine AWP.rgn (F11_r7 (upd (upd (upd (upd E0 12 (sI (i_50))) 10 (sI (i_41))) 9 (SV.priv 9 0)) 8 (sI (i_32))) x1 (splice [(Value.int .u8 0), (Value.int .u8 0), (Value.int .u8 0), (Value.int .u8 0), (Value.int .i64 0)] 0 l_40) (splice [(Value.int .u8 0), (Value.int .u8 0), (Value.int .u8 0), (Value.int .u8 0), (Value.int .i64 0)] 0 l_49) h_46 _) ?_ (Rv 1 _ (RefOk.p 11 11 0 (Rv 8 _ (RefOk.p 9 9 0 (Rv 10 _ (Rv 12 _ (Rn))) (fun e => by cases e))) (fun e => by cases e))) (Sc rfl (Sc rfl (Sc rfl (Sc rfl (Sc rfl (Sc rfl (Sn))))))) (Sc rfl (Sc rfl (Sn)))
    refine ldL_mono h (fun l_51 h => ?_)
    refine CF_mono h (fun u_52 h_53 h => ?_)
    refine intV_mono h (fun i_54 h => ?_)
    refine AWP.seq' ?_
    refine AWP.rgn (F11_r8 (upd (upd (upd (upd (upd E0 13 (sI (i_54))) 12 (sI (i_50))) 10 (sI (i_41))) 9 (SV.priv 9 0)) 8 (sI (i_32))) x1 (splice [(Value.int .u8 0), (Value.int .u8 0), (Value.int .u8 0), (Value.int .u8 0), (Value.int .i64 0)] 0 l_40) (splice [(Value.int .u8 0), (Value.int .u8 0), (Value.int .u8 0), (Value.int .u8 0), (Value.int .i64 0)] 0 l_49) h_53 _) ?_ (Rv 1 _ (RefOk.p 11 11 0 (Rv 8 _ (RefOk.p 9 9 0 (Rv 10 _ (Rv 12 _ (Rv 13 _ (Rn)))) (fun e => by cases e))) (fun e => by cases e))) (Sc rfl (Sc rfl (Sc rfl (Sc rfl (Sc rfl (Sc rfl (Sc rfl (Sn)))))))) (Sc rfl (Sc rfl (Sn)))
    refine ldL_mono h (fun l_55 h => ?_)
    refine CF_mono h (fun u_56 h_57 h => ?_)
    refine intV_mono h (fun i_58 h => ?_)
    refine AWP.seq' ?_
    refine AWP.rgn (F11_r9 (upd (upd (upd (upd (upd (upd (upd (upd E0 14 (sI (i_58))) 13 (sI (i_54))) 12 (sI (i_50))) 11 (SV.priv 11 0)) 10 (sI (i_41))) 9 (SV.priv 9 0)) 8 (sI (i_32))) 1 (sV (Value.pointer x1))) (splice [(Value.int .u8 0), (Value.int .u8 0), (Value.int .u8 0), (Value.int .u8 0), (Value.int .i64 0)] 0 l_40) (splice [(Value.int .u8 0), (Value.int .u8 0), (Value.int .u8 0), (Value.int .u8 0), (Value.int .i64 0)] 0 l_49) h_57 _) ?_ (Rv 1 _ (Rv 8 _ (RefOk.p 9 9 0 (Rv 10 _ (RefOk.p 11 11 0 (Rv 12 _ (Rv 13 _ (Rv 14 _ (Rn)))) (fun e => by cases e))) (fun e => by cases e)))) (Sc rfl (Sc rfl (Sc rfl (Sc rfl (Sc rfl (Sc rfl (Sc rfl (Sc rfl (Sn))))))))) (Sc rfl (Sc rfl (Sn)))
    refine CF_mono h (fun u_59 h_60 h => ?_)
    refine aggV_mono h (fun l_61 h => ?_)
    refine if_mono h (fun h => ?_)
    refine if_mono h (fun h => ?_)
    refine if_mono h (fun h => ?_)
    refine if_mono h (fun h => ?_)
    refine AWP.seq (fun env pv hp => ∃ (x1 : Option Addr) (x8 : Int) (x10 : Int) (x12 : Int) (x13 : Int) (x14 : Int) (x16 : Bool) (k9 : List Value) (k11 : List Value), Sub (upd (upd (upd (upd (upd (upd (upd (upd (upd E0 16 (sB (x16))) 14 (sI (x14))) 13 (sI (x13))) 12 (sI (x12))) 11 (SV.priv 11 0)) 10 (sI (x10))) 9 (SV.priv 9 0)) 8 (sI (x8))) 1 (sV (Value.pointer x1))) env ∧ Sub (upd (upd V0 11 (75, k11)) 9 (75, k9)) pv ∧ (F11_j3 x1 x8 x10 x12 x13 x14 x16 k9 k11 hp  K)) ?_ ?_
    ·refine AWP.rgn (F11_r18 (upd (upd (upd (upd (upd (upd (upd E0 14 (sI (i_58))) 13 (sI (i_54))) 12 (sI (i_50))) 11 (SV.priv 11 0)) 10 (sI (i_41))) 9 (SV.priv 9 0)) 8 (sI (i_32))) x1 (splice [(Value.int .u8 0), (Value.int .u8 0), (Value.int .u8 0), (Value.int .u8 0), (Value.int .i64 0)] 0 l_40) (splice [(Value.int .u8 0), (Value.int .u8 0), (Value.int .u8 0), (Value.int .u8 0), (Value.int .i64 0)] 0 l_49) (splice [(Value.int .u8 0), (Value.int .u8 0), (Value.int .u8 0), (Value.int .u8 0), (Value.int .i64 0)] 0 (List.set (splice [(Value.int .u8 0), (Value.int .u8 0), (Value.int .u8 0), (Value.int .u8 0), (Value.int .i64 0)] 0 l_61) 4 (Value.int .i64 9))) h_60 _) ?_ (Rv 1 _ (RefOk.p 15 15 0 (Rv 8 _ (RefOk.p 9 9 0 (Rv 10 _ (RefOk.p 11 11 0 (Rv 12 _ (Rv 13 _ (Rv 14 _ (Rn)))) (fun e => by cases e))) (fun e => by cases e))) (fun e => by cases e))) (Sc rfl (Sc rfl (Sc rfl (Sc rfl (Sc rfl (Sc rfl (Sc rfl (Sc rfl (Sc rfl (Sn)))))))))) (Sc rfl (Sc rfl (Sc rfl (Sn))))
     refine ldL_mono h (fun l_141 h => ?_)
     refine CF_mono h (fun u_142 h_143 h => ?_)
     refine intV_mono h (fun i_144 h => ?_)
     refine ite2_mono h (fun h => ?_) (fun h => ?_)
     ·refine ldL_mono h (fun l_145 h => ?_)
      refine CF_mono h (fun u_146 h_147 h => ?_)
      refine intV_mono h (fun i_148 h => ?_)
      refine ite2_mono h (fun h => ?_) (fun h => ?_)
      ·refine ldL_mono h (fun l_149 h => ?_)
       refine CF_mono h (fun u_150 h_151 h => ?_)
       refine intV_mono h (fun i_152 h => ?_)
       refine ite2_mono h (fun h => ?_) (fun h => ?_)
       ·refine ldL_mono h (fun l_153 h => ?_)
        refine CF_mono h (fun u_154 h_155 h => ?_)
        refine intV_mono h (fun i_156 h => ?_)
        refine ite2_mono h (fun h => ?_) (fun h => ?_)
        ·refine ldL_mono h (fun l_157 h => ?_)
         refine CF_mono h (fun u_158 h_159 h => ?_)
         refine intV_mono h (fun i_160 h => ?_)
         refine ite2_mono h (fun h => ?_) (fun h => ?_)
         ·refine if_mono h (fun h => ?_)
          refine CF_mono h (fun u_161 h_162 h => ?_)
          refine intV_mono h (fun i_163 h => ?_)
          refine ite2_mono h (fun h => ?_) (fun h => ?_)
          ·refine CF_mono h (fun u_164 h_165 h => ?_)
           refine aggV_mono h (fun l_166 h => ?_)
           refine if_mono h (fun h => ?_)
           refine CF_mono h (fun u_167 h_168 h => ?_)
           refine intV_mono h (fun i_169 h => ?_)
           exact ⟨x1, i_32, i_41, i_50, i_54, i_58, ((i_169 : Int) == 1), (splice [(Value.int .u8 0), (Value.int .u8 0), (Value.int .u8 0), (Value.int .u8 0), (Value.int .i64 0)] 0 l_40), (splice [(Value.int .u8 0), (Value.int .u8 0), (Value.int .u8 0), (Value.int .u8 0), (Value.int .i64 0)] 0 l_49), (Sc rfl (Sc rfl (Sc rfl (Sc rfl (Sc rfl (Sc rfl (Sc rfl (Sc rfl (Sc rfl (Sn)))))))))), (Sc rfl (Sc rfl (Sn))), h⟩
          ·exact ⟨x1, i_32, i_41, i_50, i_54, i_58, false, (splice [(Value.int .u8 0), (Value.int .u8 0), (Value.int .u8 0), (Value.int .u8 0), (Value.int .i64 0)] 0 l_40), (splice [(Value.int .u8 0), (Value.int .u8 0), (Value.int .u8 0), (Value.int .u8 0), (Value.int .i64 0)] 0 l_49), (Sc rfl (Sc rfl (Sc rfl (Sc rfl (Sc rfl (Sc rfl (Sc rfl (Sc rfl (Sc rfl (Sn)))))))))), (Sc rfl (Sc rfl (Sn))), h⟩
         ·exact ⟨x1, i_32, i_41, i_50, i_54, i_58, false, (splice [(Value.int .u8 0), (Value.int .u8 0), (Value.int .u8 0), (Value.int .u8 0), (Value.int .i64 0)] 0 l_40), (splice [(Value.int .u8 0), (Value.int .u8 0), (Value.int .u8 0), (Value.int .u8 0), (Value.int .i64 0)] 0 l_49), (Sc rfl (Sc rfl (Sc rfl (Sc rfl (Sc rfl (Sc rfl (Sc rfl (Sc rfl (Sc rfl (Sn)))))))))), (Sc rfl (Sc rfl (Sn))), h⟩
        ·exact ⟨x1, i_32, i_41, i_50, i_54, i_58, false, (splice [(Value.int .u8 0), (Value.int .u8 0), (Value.int .u8 0), (Value.int .u8 0), (Value.int .i64 0)] 0 l_40), (splice [(Value.int .u8 0), (Value.int .u8 0), (Value.int .u8 0), (Value.int .u8 0), (Value.int .i64 0)] 0 l_49), (Sc rfl (Sc rfl (Sc rfl (Sc rfl (Sc rfl (Sc rfl (Sc rfl (Sc rfl (Sc rfl (Sn)))))))))), (Sc rfl (Sc rfl (Sn))), h⟩
       ·exact ⟨x1, i_32, i_41, i_50, i_54, i_58, false, (splice [(Value.int .u8 0), (Value.int .u8 0), (Value.int .u8 0), (Value.int .u8 0), (Value.int .i64 0)] 0 l_40), (splice [(Value.int .u8 0), (Value.int .u8 0), (Value.int .u8 0), (Value.int .u8 0), (Value.int .i64 0)] 0 l_49), (Sc rfl (Sc rfl (Sc rfl (Sc rfl (Sc rfl (Sc rfl (Sc rfl (Sc rfl (Sc rfl (Sn)))))))))), (Sc rfl (Sc rfl (Sn))), h⟩
      ·exact ⟨x1, i_32, i_41, i_50, i_54, i_58, false, (splice [(Value.int .u8 0), (Value.int .u8 0), (Value.int .u8 0), (Value.int .u8 0), (Value.int .i64 0)] 0 l_40), (splice [(Value.int .u8 0), (Value.int .u8 0), (Value.int .u8 0), (Value.int .u8 0), (Value.int .i64 0)] 0 l_49), (Sc rfl (Sc rfl (Sc rfl (Sc rfl (Sc rfl (Sc rfl (Sc rfl (Sc rfl (Sc rfl (Sn)))))))))), (Sc rfl (Sc rfl (Sn))), h⟩
     ·exact ⟨x1, i_32, i_41, i_50, i_54, i_58, false, (splice [(Value.int .u8 0), (Value.int .u8 0), (Value.int .u8 0), (Value.int .u8 0), (Value.int .i64 0)] 0 l_40), (splice [(Value.int .u8 0), (Value.int .u8 0), (Value.int .u8 0), (Value.int .u8 0), (Value.int .i64 0)] 0 l_49), (Sc rfl (Sc rfl (Sc rfl (Sc rfl (Sc rfl (Sc rfl (Sc rfl (Sc rfl (Sc rfl (Sn)))))))))), (Sc rfl (Sc rfl (Sn))), h⟩
    ·rintro env pv hp ⟨x1, x8, x10, x12, x13, x14, x16, k9, k11, he, hv, h⟩
     refine AWP.sub (env' := (upd (upd (upd (upd (upd (upd (upd (upd (upd E0 16 (sB (x16))) 14 (sI (x14))) 13 (sI (x13))) 12 (sI (x12))) 11 (SV.priv 11 0)) 10 (sI (x10))) 9 (SV.priv 9 0)) 8 (sI (x8))) 1 (sV (Value.pointer x1)))) (pv' := (upd (upd V0 11 (75, k11)) 9 (75, k9))) ?_ (Rv 1 _ (Rv 8 _ (RefOk.p 9 9 0 (Rv 10 _ (RefOk.p 11 11 0 (Rv 12 _ (Rv 13 _ (Rv 14 _ (Rv 16 _ (Rn))))) (fun e => by cases e))) (fun e => by cases e)))) he hv (HSub.refl _)
     clear he hv
     unfold F11_j3 at h
     refine AWP.seq (fun env pv hp => ∃ (x1 : Option Addr) (x16 : Bool) (x17 : Bool), Sub (upd (upd (upd E0 17 (sB (x17))) 16 (sB (x16))) 1 (sV (Value.pointer x1))) env ∧ Sub V0 pv ∧ (F11_j4 x1 x16 x17 hp  K)) ?_ ?_
     ·refine AWP.rgnD (by kernel_rfl) (by kernel_rfl) (F11_r17 (upd (upd E0 16 (sB (x16))) 1 (sV (Value.pointer x1))) x8 x10 x12 x13 x14 k9 k11 hp _) ?_ (Rv 8 _ (RefOk.p 9 9 0 (Rv 10 _ (RefOk.p 11 11 0 (Rv 12 _ (Rv 13 _ (Rv 14 _ (Rv 1 _ (Rv 16 _ (Rn)))))) (fun e => by cases e))) (fun e => by cases e))) (Sc rfl (Sc rfl (Sc rfl (Sc rfl (Sc rfl (Sc rfl (Sc rfl (Sc rfl (Sc rfl (Sn)))))))))) (Sc rfl (Sc rfl (Sn)))
      refine ite2_mono h (fun h => ?_) (fun h => ?_)
      ·refine ldL_mono h (fun l_131 h => ?_)
       refine CF_mono h (fun u_132 h_133 h => ?_)
       refine aggV_mono h (fun l_134 h => ?_)
       refine if_mono h (fun h => ?_)
       refine eqAgg_mono h (fun q_135 h => ?_)
       refine ite2_mono h (fun h => ?_) (fun h => ?_)
       ·refine ite2_mono h (fun h => ?_) (fun h => ?_)
        ·refine ldL_mono h (fun l_136 h => ?_)
         refine CF_mono h (fun u_137 h_138 h => ?_)
         refine aggV_mono h (fun l_139 h => ?_)
         refine if_mono h (fun h => ?_)
         refine eqAgg_mono h (fun q_140 h => ?_)
         refine ite2_mono h (fun h => ?_) (fun h => ?_)
         ·refine ite2_mono h (fun h => ?_) (fun h => ?_)
          ·refine ite2_mono h (fun h => ?_) (fun h => ?_)
           ·exact ⟨x1, x16, ((x14 : Int) == 4), (Sc rfl (Sc rfl (Sc rfl (Sn)))), (Sn), h⟩
           ·exact ⟨x1, x16, false, (Sc rfl (Sc rfl (Sc rfl (Sn)))), (Sn), h⟩
          ·exact ⟨x1, x16, false, (Sc rfl (Sc rfl (Sc rfl (Sn)))), (Sn), h⟩
         ·exact ⟨x1, x16, false, (Sc rfl (Sc rfl (Sc rfl (Sn)))), (Sn), h⟩
        ·exact ⟨x1, x16, false, (Sc rfl (Sc rfl (Sc rfl (Sn)))), (Sn), h⟩
       ·exact ⟨x1, x16, false, (Sc rfl (Sc rfl (Sc rfl (Sn)))), (Sn), h⟩
      ·exact ⟨x1, x16, false, (Sc rfl (Sc rfl (Sc rfl (Sn)))), (Sn), h⟩
     ·rintro env pv hp ⟨x1, x16, x17, he, hv, h⟩
      refine AWP.sub (env' := (upd (upd (upd E0 17 (sB (x17))) 16 (sB (x16))) 1 (sV (Value.pointer x1)))) (pv' := V0) ?_ (Rv 1 _ (Rv 16 _ (Rv 17 _ (Rn)))) he hv (HSub.refl _)
      clear he hv
      unfold F11_j4 at h
      refine AWP.seq' ?_
      refine AWP.rgn (F11_r10 (upd (upd (upd E0 17 (sB (x17))) 16 (sB (x16))) 1 (sV (Value.pointer x1)))  hp _) ?_ (Rv 1 _ (Rv 16 _ (Rv 17 _ (Rn)))) (Sc rfl (Sc rfl (Sc rfl (Sn)))) (Sn)
      refine CF_mono h (fun u_62 h_63 h => ?_)
      refine tup2V_mono h (fun u_64 u_65 h => ?_)
      refine ptrV_mono h (fun p_66 h => ?_)
      refine intV_mono h (fun i_67 h => ?_)
      refine AWP.seq' ?_
      refine AWP.rgn (F11_r11 (upd (upd (upd (upd E0 19 (sI (i_67))) 17 (sB (x17))) 16 (sB (x16))) 1 (sV (Value.pointer x1)))  h_63 _) ?_ (Rv 1 _ (Rv 16 _ (Rv 17 _ (Rv 19 _ (Rn))))) (Sc rfl (Sc rfl (Sc rfl (Sc rfl (Sn))))) (Sn)
      refine CF_mono h (fun u_68 h_69 h => ?_)
      refine aggV_mono h (fun l_70 h => ?_)
      refine CF_mono h (fun u_71 h_72 h => ?_)
      refine aggV_mono h (fun l_73 h => ?_)
      refine if_mono h (fun h => ?_)
      refine if_mono h (fun h => ?_)
      refine fun b_74 hb_b_74 => ?_
      replace h := h b_74 hb_b_74
      refine CF_mono h (fun u_75 h_76 h => ?_)
      refine tup2V_mono h (fun u_77 u_78 h => ?_)
      refine ptrV_mono h (fun p_79 h => ?_)
      refine intV_mono h (fun i_80 h => ?_)
      refine AWP.seq' ?_
      refine AWP.rgn (F11_r12 (upd (upd (upd (upd (upd E0 21 (sI (i_80))) 19 (sI (i_67))) 17 (sB (x17))) 16 (sB (x16))) 1 (sV (Value.pointer x1)))  h_76 _) ?_ (Rv 1 _ (Rv 16 _ (Rv 17 _ (Rv 19 _ (Rv 21 _ (Rn)))))) (Sc rfl (Sc rfl (Sc rfl (Sc rfl (Sc rfl (Sn)))))) (Sn)
      refine CF_mono h (fun u_81 h_82 h => ?_)
      refine aggV_mono h (fun l_83 h => ?_)
      refine if_mono h (fun h => ?_)
      refine fun b_84 hb_b_84 => ?_
      replace h := h b_84 hb_b_84
      refine CF_mono h (fun u_85 h_86 h => ?_)
      refine tup2V_mono h (fun u_87 u_88 h => ?_)
      refine ptrV_mono h (fun p_89 h => ?_)
      refine intV_mono h (fun i_90 h => ?_)
      refine AWP.seq' ?_
      refine AWP.rgn (F11_r13 (upd (upd (upd (upd (upd (upd E0 23 (sI (i_90))) 21 (sI (i_80))) 19 (sI (i_67))) 17 (sB (x17))) 16 (sB (x16))) 1 (sV (Value.pointer x1)))  h_86 _) ?_ (Rv 1 _ (Rv 16 _ (Rv 17 _ (Rv 19 _ (Rv 21 _ (Rv 23 _ (Rn))))))) (Sc rfl (Sc rfl (Sc rfl (Sc rfl (Sc rfl (Sc rfl (Sn))))))) (Sn)
      refine CF_mono h (fun u_91 h_92 h => ?_)
      refine aggV_mono h (fun l_93 h => ?_)
      refine if_mono h (fun h => ?_)
      refine fun b_94 hb_b_94 => ?_
      replace h := h b_94 hb_b_94
      refine CF_mono h (fun u_95 h_96 h => ?_)
      refine tup2V_mono h (fun u_97 u_98 h => ?_)
      refine ptrV_mono h (fun p_99 h => ?_)
      refine intV_mono h (fun i_100 h => ?_)
      refine AWP.seq' ?_
      refine AWP.rgn (F11_r14 (upd (upd (upd (upd (upd (upd (upd E0 25 (sI (i_100))) 23 (sI (i_90))) 21 (sI (i_80))) 19 (sI (i_67))) 17 (sB (x17))) 16 (sB (x16))) 1 (sV (Value.pointer x1)))  h_96 _) ?_ (Rv 1 _ (Rv 16 _ (Rv 17 _ (Rv 19 _ (Rv 21 _ (Rv 23 _ (Rv 25 _ (Rn)))))))) (Sc rfl (Sc rfl (Sc rfl (Sc rfl (Sc rfl (Sc rfl (Sc rfl (Sn)))))))) (Sn)
      refine CF_mono h (fun u_101 h_102 h => ?_)
      refine aggV_mono h (fun l_103 h => ?_)
      refine if_mono h (fun h => ?_)
      refine fun b_104 hb_b_104 => ?_
      replace h := h b_104 hb_b_104
      refine CF_mono h (fun u_105 h_106 h => ?_)
      refine tup2V_mono h (fun u_107 u_108 h => ?_)
      refine ptrV_mono h (fun p_109 h => ?_)
      refine intV_mono h (fun i_110 h => ?_)
      refine AWP.seq' ?_
      refine AWP.rgn (F11_r15 (upd (upd (upd (upd (upd (upd (upd E0 27 (sI (i_110))) 25 (sI (i_100))) 23 (sI (i_90))) 21 (sI (i_80))) 19 (sI (i_67))) 17 (sB (x17))) 16 (sB (x16))) x1 h_106 _) ?_ (Rv 1 _ (Rv 16 _ (Rv 17 _ (Rv 19 _ (Rv 21 _ (Rv 23 _ (Rv 25 _ (Rv 27 _ (Rn))))))))) (Sc rfl (Sc rfl (Sc rfl (Sc rfl (Sc rfl (Sc rfl (Sc rfl (Sc rfl (Sn))))))))) (Sn)
      refine CF_mono h (fun u_111 h_112 h => ?_)
      refine aggV_mono h (fun l_113 h => ?_)
      refine CF_mono h (fun u_114 h_115 h => ?_)
      refine tup2V_mono h (fun u_116 u_117 h => ?_)
      refine aggV_mono h (fun l_118 h => ?_)
      refine intV_mono h (fun i_119 h => ?_)
      refine if_mono h (fun h => ?_)
      refine if_mono h (fun h => ?_)
      refine if_mono h (fun h => ?_)
      refine AWP.seq' ?_
      refine AWP.rgn (F11_r16 E0 x1 x16 x17 i_67 i_80 i_90 i_100 i_110 i_119 h_115 _) ?_ (Rv 1 _ (Rv 16 _ (Rv 17 _ (Rv 19 _ (Rv 21 _ (Rv 23 _ (Rv 25 _ (Rv 27 _ (Rv 29 _ (Rn)))))))))) (Sc rfl (Sc rfl (Sc rfl (Sc rfl (Sc rfl (Sc rfl (Sc rfl (Sc rfl (Sc rfl (Sn)))))))))) (Sn)
      refine ite2_mono h (fun h => ?_) (fun h => ?_)
      ·refine ite2_mono h (fun h => ?_) (fun h => ?_)
       ·refine CF_mono h (fun u_120 h_121 h => ?_)
        refine intV_mono h (fun i_122 h => ?_)
        refine ite2_mono h (fun h => ?_) (fun h => ?_)
        ·refine CF_mono h (fun u_123 h_124 h => ?_)
         refine slcV_mono h (fun a_125 n_126 c_127 h => ?_)
         refine ite2_mono h (fun h => ?_) (fun h => ?_)
         ·refine ite2_mono h (fun h => ?_) (fun h => ?_)
          ·refine ite2_mono h (fun h => ?_) (fun h => ?_)
           ·refine ite2_mono h (fun h => ?_) (fun h => ?_)
            ·refine ite2_mono h (fun h => ?_) (fun h => ?_)
             ·refine ite2_mono h (fun h => ?_) (fun h => ?_)
              ·refine ite2_mono h (fun h => ?_) (fun h => ?_)
               ·refine CF_mono h (fun u_128 h_129 h => ?_)
                refine boolV_mono h (fun q_130 h => ?_)
                refine AWP.ret ?_
                exact h
               ·refine AWP.ret ?_
                exact h
              ·refine AWP.ret ?_
               exact h
             ·refine AWP.ret ?_
              exact h
            ·refine AWP.ret ?_
             exact h
           ·refine AWP.ret ?_
            exact h
          ·refine AWP.ret ?_
           exact h
         ·refine AWP.ret ?_
          exact h
        ·refine AWP.ret ?_
         exact h
       ·refine AWP.ret ?_
        exact h
      ·refine AWP.ret ?_
       exact h
end Go.Proofs

set_option linter.unusedVariables false
set_option maxRecDepth 20000
namespace Go.Proofs
open Go Go.HL

def L2 : List Q := [(1, 0, 0, 1), (1, 0, 0, 2)]
abbrev H2 := List ((Q × Int) × Bool)
def h1 : H2 := [(((1, 0, 0, 1), 1020), false)]
def h2 : H2 := h1 ++ [(((1, 0, 0, 1), 1022), false)]
def h3 : H2 := h2 ++ [(((1, 0, 0, 2), 1020), false)]
def h4 : H2 := h3 ++ [(((1, 0, 0, 2), 1022), false)]
def h5 : H2 := h4 ++ [(((1, 0, 0, 2), 1025), false)]
def h6 : H2 := h5 ++ [(((1, 0, 0, 2), 1021), false)]
def h7 : H2 := h5 ++ [(((1, 0, 0, 1), 9), true)]
def W4 : List (Q × Int) := [((1, 0, 0, 1), 1020), ((1, 0, 0, 1), 1022), ((1, 0, 0, 2), 1020), ((1, 0, 0, 2), 1022)]

section
variable {p m : Nat} {hp : HP} {K : Value → HP → Prop}

theorem took {held held' : H2} {first : Q} {x : Int} {plain : Bool} {t : Q × Int} (hr : PoolR hp p L2 1020 1027 held m) (hx : isPort x = true) (ht : takeQ L2 1020 1027 held first x plain = some t) (he : putL t false held = held')
    (h : ∀ e, PoolR (hp.set m e) p L2 1020 1027 held' m → K (.tuple ⟨[.agg ⟨t4 t⟩, .int .i64 0]⟩) (hp.set m e)) : CF Try.prog 46 [ptr p 0, .agg ⟨v4 first⟩, .int .i64 x, .bool plain] hp K := by
  refine C46 hr (by decide) (by omega) ?_ ?_ ?_
  · intro hx'; rw [hx] at hx'; cases hx'
  · intro _ hn; rw [ht] at hn; cases hn
  · intro _ t' ht' e hme
    rw [ht] at ht'
    cases ht'
    refine h e ?_
    rw [← he]
    exact hr.upd hme

theorem gave {held held' : H2} {t : Q × Int} (hr : PoolR hp p L2 1020 1027 held m) (h0 : giveQ L2 held t = 0) (he : delL t held = held')
    (h : ∀ e, PoolR (hp.set m e) p L2 1020 1027 held' m → K (.int .i64 0) (hp.set m e)) : CF Try.prog 49 [ptr p 0, .agg ⟨t4 t⟩] hp K :=
  C49 hr (by decide) (fun hn => absurd h0 hn) fun _ e hme => h e (he ▸ hr.upd hme)
theorem gaveNot {held : H2} {t : Q × Int} {v : Int} (hr : PoolR hp p L2 1020 1027 held m) (h0 : giveQ L2 held t = v) (hv : v ≠ 0) (h : K (.int .i64 v) hp) : CF Try.prog 49 [ptr p 0, .agg ⟨t4 t⟩] hp K :=
  C49 hr (by decide) (fun _ => by rw [h0]; exact h) fun hz => absurd (h0 ▸ hz) hv
theorem resd {held held' : H2} {t : Q × Int} (hr : PoolR hp p L2 1020 1027 held m) (h0 : reserveQ L2 held t = 0) (he : putL t true held = held')
    (h : ∀ e, PoolR (hp.set m e) p L2 1020 1027 held' m → K (.int .i64 0) (hp.set m e)) : CF Try.prog 50 [ptr p 0, .agg ⟨t4 t⟩] hp K :=
  C50 hr (by decide) (fun hn => absurd h0 hn) fun _ e hme => h e (he ▸ hr.upd hme)
theorem resdNot {held : H2} {t : Q × Int} {v : Int} (hr : PoolR hp p L2 1020 1027 held m) (h0 : reserveQ L2 held t = v) (hv : v ≠ 0) (h : K (.int .i64 v) hp) : CF Try.prog 50 [ptr p 0, .agg ⟨t4 t⟩] hp K :=
  C50 hr (by decide) (fun _ => by rw [h0]; exact h) fun hz => absurd (h0 ▸ hz) hv
theorem reld {held held' : H2} {t : Q × Int} (hr : PoolR hp p L2 1020 1027 held m) (h0 : releaseQ L2 held t = 0) (he : delL t held = held')
    (h : ∀ e, PoolR (hp.set m e) p L2 1020 1027 held' m → K (.int .i64 0) (hp.set m e)) : CF Try.prog 51 [ptr p 0, .agg ⟨t4 t⟩] hp K :=
  C51 hr (by decide) (fun hn => absurd h0 hn) fun _ e hme => h e (he ▸ hr.upd hme)
theorem reldNot {held : H2} {t : Q × Int} {v : Int} (hr : PoolR hp p L2 1020 1027 held m) (h0 : releaseQ L2 held t = v) (hv : v ≠ 0) (h : K (.int .i64 v) hp) : CF Try.prog 51 [ptr p 0, .agg ⟨t4 t⟩] hp K :=
  C51 hr (by decide) (fun _ => by rw [h0]; exact h) fun hz => absurd (h0 ▸ hz) hv
theorem newNot {s : Option Addr} {n c : Nat} {l : List Q} {low high : Int} (hs : Shows hp s n 4 (l.flatMap v4)) (hl : l.length = n) (hnc : n ≤ c) (hlo : -9223372036854775808 ≤ low ∧ low ≤ 9223372036854775807) (hhi : -9223372036854775808 ≤ high ∧ high ≤ 9223372036854775807)
    (hbad : newOk l low high = false) (h : K (.tuple ⟨[.pointer none, .int .i64 1]⟩) hp) : CF Try.prog 44 [.slice s n c, .int .i64 low, .int .i64 high] hp K :=
  C44 hs hl hnc hlo hhi (fun _ => h) fun hk => by rw [hbad] at hk; cases hk

theorem t4at (q : Q) (x : Int) : (List.set (splice [(Value.int .u8 0), (Value.int .u8 0), (Value.int .u8 0), (Value.int .u8 0), (Value.int .i64 0)] 0 (v4 q)) 4 (Value.int .i64 x)) = t4 (q, x) := rfl
theorem t4sp (t : Q × Int) : splice [(Value.int .u8 0), (Value.int .u8 0), (Value.int .u8 0), (Value.int .u8 0), (Value.int .i64 0)] 0 (t4 t) = t4 t := rfl
theorem v4sp (q : Q) : splice [(Value.int .u8 0), (Value.int .u8 0), (Value.int .u8 0), (Value.int .u8 0)] 0 (v4 q) = v4 q := rfl
theorem t4all (t : Q × Int) : cellsN (t4 t) 0 5 = some (t4 t) := rfl
theorem t4le (t : Q × Int) : 0 + (t4 t).length ≤ [(Value.int .u8 0), (Value.int .u8 0), (Value.int .u8 0), (Value.int .u8 0), (Value.int .i64 0)].length := Nat.le_refl 5

theorem C11 (h : K (.bool true) hp) : CF Try.prog 11 [] hp K := by
  refine CF.drop (F11_ok hp _ ?_)
  unfold F11
  have pp : ∀ (p : Nat) (c : Option Addr → Prop), ptrV (ptr p 0) c = c (some ⟨p, 0, none⟩) := fun _ _ => rfl
  refine C52 ?_
  rw [aggV_agg]
  refine C53 ?_
  rw [aggV_agg]
  simp only [v4_len, if_true]
  intro b hb
  have s0 := HSub.set_fresh hp (.cells 73 (L2.flatMap v4) 0) hb
  refine C44 (l := L2) (.inr ⟨b, 0, rfl, by rw [HP.cellN_of (HP.set_eq ..)]; rfl⟩) rfl (by omega) (by omega) (by omega) (fun hk => absurd hk (by decide)) ?_
  intro _ p m hp1 s1 _ hm hr
  have s1 : HSub hp hp1 := s0.trans s1
  have hm : hp m = .none := s0.none hm
  simp only [tup2V_mk, intV_int, pp]
  show ite2 false _ (F11_j1 (some ⟨p, 0, none⟩) false hp1 _)
  rw [ite2_false]
  unfold F11_j1
  rw [ite2_false]
  refine C52 ?_
  rw [aggV_agg]
  refine ifI rfl (C52 ?_)
  rw [aggV_agg]
  refine ifI rfl (C53 ?_)
  rw [aggV_agg]
  refine ifI rfl (C53 ?_)
  rw [aggV_agg]
  refine ifI rfl (ifI rfl (ifI rfl (ifI rfl (ifI rfl ?_))))
  intro bw hbw
  have hbw0 : hp bw = .none := s1.none hbw
  -- behind the four
  have two : ∀ hp2, HSub hp hp2 → PoolR hp2 p L2 1020 1027 h4 m → F11_j2 (some ⟨p, 0, none⟩) hp2 (fun v hp' => ∃ hp'', HL.HSub hp'' hp' ∧ K v hp'') := by
    intro hp2 s2 hr2
    unfold F11_j2
    refine C46 (first := (9, 0, 0, 0)) hr2 (by decide) (by omega) (fun hx => absurd hx (by decide)) ?_ (fun _ t ht => by rw [show takeQ L2 1020 1027 h4 (9, 0, 0, 0) 80 false = none by decide] at ht; cases ht)
    intro _ _
    simp only [tup2V_mk, aggV_agg, intV_int, t4_len, t4_one, if_true]
    refine ifI (by decide) (C53 ?_)
    rw [aggV_agg]
    refine took (t := ((1, 0, 0, 2), 1025)) (held' := h5) hr2 (by decide) (by decide) (by decide) fun e3 hr3 => ?_
    have s3 := s2.up hm e3
    generalize hp2.set m e3 = hp3 at s3 hr3
    simp only [tup2V_mk, aggV_agg, intV_int, t4_len, t4_one, if_true]
    refine ifI (by decide) (C53 ?_)
    rw [aggV_agg]
    refine took (t := ((1, 0, 0, 2), 1021)) (held' := h6) hr3 (by decide) (by decide) (by decide) fun e4 hr4 => ?_
    have s4 := s3.up hm e4
    generalize hp3.set m e4 = hp4 at s4 hr4
    simp only [tup2V_mk, aggV_agg, intV_int, t4_len, t4_one, if_true]
    refine ifI (by decide) ?_
    rw [t4sp, t4all, ldL_some]
    refine gave (held' := h5) hr4 (by decide) (by decide) fun e5 hr5 => ?_
    have s5 := s4.up hm e5
    generalize hp4.set m e5 = hp5 at s5 hr5
    rw [intV_int, ldL_some]
    refine gaveNot (v := 4) hr5 (by decide) (by decide) ?_
    rw [intV_int]
    refine C52 ?_
    rw [aggV_agg]
    refine ifI rfl (ifI rfl (ifI rfl (ifI (by decide) ?_)))
    simp only [t4at, t4sp, t4all, ldL_some]
    refine resd (held' := h7) hr5 (by decide) (by decide) fun e6 hr6 => ?_
    have s6 := s5.up hm e6
    generalize hp5.set m e6 = hp6 at s6 hr6
    rw [intV_int]
    show ite2 true _ _
    rw [ite2_true]
    refine resdNot (v := 5) hr6 (by decide) (by decide) ?_
    rw [intV_int]
    show ite2 true _ _
    rw [ite2_true]
    refine gaveNot (v := 11) hr6 (by decide) (by decide) ?_
    rw [intV_int]
    show ite2 true _ _
    rw [ite2_true]
    refine reld (held' := h5) hr6 (by decide) (by decide) fun e7 hr7 => ?_
    have s7 := s6.up hm e7
    generalize hp6.set m e7 = hp7 at s7 hr7
    rw [intV_int]
    show ite2 true _ _
    rw [ite2_true]
    refine reldNot (v := 4) hr7 (by decide) (by decide) ?_
    rw [intV_int]
    show ite2 true _ _
    rw [ite2_true]
    refine ifI rfl ?_
    have e2 : [(Value.int .u8 2), (Value.int .u8 0), (Value.int .u8 0), (Value.int .u8 1)] = v4 (2, 0, 0, 1) := rfl
    rw [e2, t4at]
    refine resdNot (v := 1) hr7 (by decide) (by decide) ?_
    rw [intV_int]
    show ite2 true _ _
    rw [ite2_true]
    refine C52 ?_
    rw [aggV_agg]
    refine ifI rfl ?_
    rw [t4at]
    refine resdNot (v := 1) hr7 (by decide) (by decide) ?_
    rw [intV_int]
    unfold F11_j3
    show ite2 true _ _
    rw [ite2_true, t4all, ldL_some]
    refine C53 ?_
    rw [aggV_agg]
    refine ifI rfl ?_
    rw [t4at]
    refine eq75 ?_
    rw [show decide ((((1, 0, 0, 2), 1025) : Q × Int) = ((1, 0, 0, 2), 1025)) = true by decide, ite2_true]
    show ite2 true _ _
    rw [ite2_true, t4all, ldL_some]
    refine C53 ?_
    rw [aggV_agg]
    refine ifI rfl ?_
    rw [t4at]
    refine eq75 ?_
    rw [show decide ((((1, 0, 0, 2), 1021) : Q × Int) = ((1, 0, 0, 2), 1021)) = true by decide, ite2_true]
    show ite2 true (ite2 true (F11_j4 (some ⟨p, 0, none⟩) true true hp7 _) _) _
    rw [ite2_true, ite2_true]
    unfold F11_j4
    refine newNot (l := []) (.inl ⟨rfl, rfl⟩) rfl (by omega) (by omega) (by omega) (by decide) ?_
    simp only [tup2V_mk, ptrV_pointer, intV_int]
    refine C52 ?_
    rw [aggV_agg]
    refine C52 ?_
    rw [aggV_agg]
    refine ifI rfl (ifI rfl ?_)
    intro b8 hb8
    have hr8 := hr7.sub (HSub.set_fresh hp7 (.cells 73 ([(1, 0, 0, 1), (1, 0, 0, 1)].flatMap v4) 0) hb8)
    have s8 := s7.trans (HSub.set_fresh hp7 (.cells 73 ([(1, 0, 0, 1), (1, 0, 0, 1)].flatMap v4) 0) hb8)
    refine newNot (l := [(1, 0, 0, 1), (1, 0, 0, 1)]) (.inr ⟨b8, 0, rfl, by rw [HP.cellN_of (HP.set_eq ..)]; rfl⟩) rfl (by omega) (by omega) (by omega) (by decide) ?_
    change tup2V _ _
    generalize hh8 : HP.set hp7 b8 _ = hp8
    have hh8' : hp7.set b8 (.cells 73 ([(1, 0, 0, 1), (1, 0, 0, 1)].flatMap v4) 0) = hp8 := hh8
    rw [hh8'] at hr8 s8
    simp only [tup2V_mk, ptrV_pointer, intV_int]
    refine C52 ?_
    rw [aggV_agg]
    refine ifI rfl ?_
    rw [v4sp]
    have one1 : v4 (1, 0, 0, 1) = [(1, 0, 0, 1)].flatMap v4 := rfl
    intro b9 hb9
    have f9 := HSub.set_fresh hp8 (.cells 73 (v4 (1, 0, 0, 1)) 0) hb9
    have hr9 := hr8.sub f9
    have s9 := s8.trans f9
    refine newNot (l := [(1, 0, 0, 1)]) (.inr ⟨b9, 0, rfl, by rw [HP.cellN_of (HP.set_eq ..)]; rfl⟩) rfl (by omega) (by omega) (by omega) (by decide) ?_
    generalize hp8.set b9 (.cells 73 (v4 (1, 0, 0, 1)) 0) = hp9 at *
    simp only [tup2V_mk, ptrV_pointer, intV_int]
    refine C52 ?_
    rw [aggV_agg]
    refine ifI rfl ?_
    rw [v4sp]
    intro b10 hb10
    have f10 := HSub.set_fresh hp9 (.cells 73 (v4 (1, 0, 0, 1)) 0) hb10
    have hr10 := hr9.sub f10
    have s10 := s9.trans f10
    refine newNot (l := [(1, 0, 0, 1)]) (.inr ⟨b10, 0, rfl, by rw [HP.cellN_of (HP.set_eq ..)]; rfl⟩) rfl (by omega) (by omega) (by omega) (by decide) ?_
    generalize hp9.set b10 (.cells 73 (v4 (1, 0, 0, 1)) 0) = hp10 at *
    simp only [tup2V_mk, ptrV_pointer, intV_int]
    refine C52 ?_
    rw [aggV_agg]
    refine ifI rfl ?_
    rw [v4sp]
    intro b11 hb11
    have f11 := HSub.set_fresh hp10 (.cells 73 (v4 (1, 0, 0, 1)) 0) hb11
    have hr11 := hr10.sub f11
    have s11 := s10.trans f11
    refine newNot (l := [(1, 0, 0, 1)]) (.inr ⟨b11, 0, rfl, by rw [HP.cellN_of (HP.set_eq ..)]; rfl⟩) rfl (by omega) (by omega) (by omega) (by decide) ?_
    generalize hp10.set b11 (.cells 73 (v4 (1, 0, 0, 1)) 0) = hp11 at *
    simp only [tup2V_mk, ptrV_pointer, intV_int]
    refine C52 ?_
    rw [aggV_agg]
    refine C46 hr11 (by decide) (by omega) ?_ (fun hx => absurd hx (by decide)) (fun hx => absurd hx (by decide))
    intro _
    simp only [tup2V_mk, aggV_agg, intV_int, t4_len, t4_one, if_true]
    refine ifI (by decide) ?_
    rw [ite2_true, ite2_true]
    refine C54 hr11 (by decide) (by decide) (by omega) ?_
    rw [intV_int, show freeQ L2 1020 1027 h5 = 11 by decide]
    show ite2 true _ _
    rw [ite2_true]
    refine C45 hr11 (by decide) (by decide) ?_
    intro s12 c12 hp12 ts s1112 _ _ _ _
    rw [slcV_slice]
    show ite2 true (ite2 true (ite2 true (ite2 true (ite2 true (ite2 true (ite2 true _ _) _) _) _) _) _) _
    simp only [ite2_true]
    refine C21 ?_
    rw [boolV_bool]
    exact ⟨hp, s11.trans s1112, h⟩
  unfold F11_j5
  have hcs : splice (splice (splice (splice [(Value.int .u8 0), (Value.int .u8 0), (Value.int .u8 0), (Value.int .u8 0), (Value.int .i64 0), (Value.int .u8 0), (Value.int .u8 0), (Value.int .u8 0), (Value.int .u8 0), (Value.int .i64 0), (Value.int .u8 0), (Value.int .u8 0), (Value.int .u8 0), (Value.int .u8 0), (Value.int .i64 0), (Value.int .u8 0), (Value.int .u8 0), (Value.int .u8 0), (Value.int .u8 0), (Value.int .i64 0)] 0 (List.set (splice [(Value.int .u8 0), (Value.int .u8 0), (Value.int .u8 0), (Value.int .u8 0), (Value.int .i64 0)] 0 (v4 (1, 0, 0, 1))) 4 (Value.int .i64 1020))) 5 (List.set (splice [(Value.int .u8 0), (Value.int .u8 0), (Value.int .u8 0), (Value.int .u8 0), (Value.int .i64 0)] 0 (v4 (1, 0, 0, 1))) 4 (Value.int .i64 1022))) 10 (List.set (splice [(Value.int .u8 0), (Value.int .u8 0), (Value.int .u8 0), (Value.int .u8 0), (Value.int .i64 0)] 0 (v4 (1, 0, 0, 2))) 4 (Value.int .i64 1020))) 15 (List.set (splice [(Value.int .u8 0), (Value.int .u8 0), (Value.int .u8 0), (Value.int .u8 0), (Value.int .i64 0)] 0 (v4 (1, 0, 0, 2))) 4 (Value.int .i64 1022)) = W4.flatMap t4 := rfl
  rw [hcs]
  have sw := HSub.set_fresh hp1 (.cells 75 (W4.flatMap t4) 0) hbw
  have hrw := hr.sub sw
  have hww : (hp1.set bw (.cells 75 (W4.flatMap t4) 0)) bw = .cells 75 (W4.flatMap t4) 0 := HP.set_eq ..
  have s1w := s1.trans sw
  generalize hp1.set bw (.cells 75 (W4.flatMap t4) 0) = hp2 at *
  intro I hI
  have step : ∀ (i : Nat) (held held' : H2) (hp3 : HP) (hi : i < 4), HSub hp hp3 → PoolR hp3 p L2 1020 1027 held m → hp3 bw = .cells 75 (W4.flatMap t4) 0 →
      takeQ L2 1020 1027 held (9, 0, 0, 0) 80 false = some (W4[i]'hi) → putL (W4[i]'hi) false held = held' →
      (∀ hp4, HSub hp hp4 → PoolR hp4 p L2 1020 1027 held' m → hp4 bw = .cells 75 (W4.flatMap t4) 0 → I ((i + 1 : Nat) : Int) hp4) → I (i : Int) hp3 := by
    intro i held held' hp3 hi s3 hr3 hw3 ht he next
    refine hI _ _ ?_
    unfold F11_l6
    simp only []
    rw [decide_eq_true (by omega : (i : Int) < 4), ite2_true]
    have e9 : [(Value.int .u8 9), (Value.int .u8 0), (Value.int .u8 0), (Value.int .u8 0)] = v4 (9, 0, 0, 0) := rfl
    rw [e9]
    refine took hr3 (by decide) ht he fun e4 hr4 => ?_
    have s4 := s3.up hm e4
    have hmw : bw ≠ m := fun e => by
      obtain ⟨es, clock, hq, _⟩ := hr3.mapM
      rw [← e, hw3] at hq; cases hq
    have hw4 : (hp3.set m e4) bw = .cells 75 (W4.flatMap t4) 0 := by rw [HP.set_ne _ _ hmw]; exact hw3
    generalize hp3.set m e4 = hp4 at s4 hr4 hw4
    simp only [tup2V_mk, aggV_agg, intV_int, t4_len, t4_one, if_true]
    refine ifI (by decide) ?_
    rw [t4sp, t4all, ldL_some, ptrN_some, Int.toNat_natCast, HP.cellN_of hw4, Nat.zero_add, flat_at t4_len (show i < W4.length from hi), ldL_some]
    refine ⟨by omega, by omega, ?_⟩
    refine eq75 (p := W4[i]'hi) (q := W4[i]'hi) ?_
    rw [decide_eq_true (rfl : W4[i]'hi = W4[i]'hi), Bool.not_true, ite2_false]
    show F11_j7 _ _ _ _ _ false _ _ _
    unfold F11_j7
    rw [ite2_false]
    have w : IntKind.wrap .i64 ((i : Int) + 1) = ((i + 1 : Nat) : Int) := wi (by omega) (by omega)
    rw [w]
    exact next hp4 s4 hr4 hw4
  refine step 0 [] h1 hp2 (by omega) s1w hrw hww (by decide) (by decide) fun hp3 s3 hr3 hw3 => ?_
  refine step 1 h1 h2 hp3 (by omega) s3 hr3 hw3 (by decide) (by decide) fun hp4 s4 hr4 hw4 => ?_
  refine step 2 h2 h3 hp4 (by omega) s4 hr4 hw4 (by decide) (by decide) fun hp5 s5 hr5 hw5 => ?_
  refine step 3 h3 h4 hp5 (by omega) s5 hr5 hw5 (by decide) (by decide) fun hp6 s6 hr6 hw6 => ?_
  refine hI _ _ ?_
  unfold F11_l6
  simp only []
  rw [decide_eq_false (by omega : ¬ ((3 + 1 : Nat) : Int) < 4), ite2_false]
  exact two hp6 s6 hr6
end
end Go.Proofs

