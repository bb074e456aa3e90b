/- Parts of the proof of PlaysProof: the logic of what is known of memory, functions' contracts. -/
import Derived.Test.YtidoceleobdkmaaHlAbb
import Derived.Test.YtidoceleobdkmaaHlOrd
import Derived.Test.YtidoceleobdkmaaProg
import Derived.Test.YtidoceleobdkmaaHlLib
import Derived.Test.YtidoceleobdkmaaHlArg
import Derived.DataShut
import Derived.Test.YtidoceleobdkmaaHlDec
import Derived.Lib.Overlaps
import Derived.Laws.Externs
import Derived.Test.YtidoceleobdkmaaHlMid
set_option linter.unusedVariables false
set_option maxRecDepth 20000
namespace Go.Proofs
open Go Go.HL
-- 20 interpreter/pool.Class
section
variable (e : Env) (x0 x1 : Int) (hp : HP) (K : Env → PV → HP → Prop)
abbrev R20 (p : List Nat) (n : Nat) := RW Try.prog 25 [] (opsAt Try.f20 p) (List.range n)
theorem F20_r0 : R20 [0] 1 e V0 hp K =
    (K (upd e 4 (sB false)) V0 hp) := by kernel_rfl
theorem F20_r1 : R20 [1, 0] 21 (upd (upd e 1 (sI x1)) 0 (sI x0)) V0 hp K =
    (CF Try.prog 74 [(.int .i64 x0)] hp fun u1 h2 => (boolV u1 fun q3 => (ite2 q3 (CF Try.prog 74 [(.int .i64 x1)] h2 fun u4 h5 => (boolV u4 fun q6 => (ite2 q6 (ite2 ((decide (x0 < 1024)) == (decide (x1 < 1024))) (((2 : Int) ≠ 0) ∧ (((2 : Int) ≠ 0) ∧ (K (upd (upd (upd (upd (upd (upd (upd (upd (upd (upd (upd (upd (upd (upd (upd (upd (upd (upd (upd (upd (upd (upd (upd e 1 (sI x1)) 0 (sI x0)) 5 (sI x0)) 6 (sB q3)) 7 (sB true)) 8 (sI x1)) 9 (sB q6)) 10 (sB q6)) 11 (sB true)) 12 (sI x0)) 13 (sB (decide (x0 < 1024)))) 14 (sI x1)) 15 (sB (decide (x1 < 1024)))) 16 (sB (((decide (x0 < 1024)) == (decide (x1 < 1024)))))) 17 (sB (((decide (x0 < 1024)) == (decide (x1 < 1024)))))) 18 (sB true)) 19 (sI x0)) 20 (sI ((Int.tmod x0 2)))) 21 (sI x1)) 22 (sI ((Int.tmod x1 2)))) 23 (sB ((((Int.tmod x0 2) : Int) == (Int.tmod x1 2))))) 24 (sB ((((Int.tmod x0 2) : Int) == (Int.tmod x1 2))))) 4 (sB ((((Int.tmod x0 2) : Int) == (Int.tmod x1 2))))) V0 h5))) (K (upd (upd (upd (upd (upd (upd (upd (upd (upd (upd (upd (upd (upd (upd (upd (upd (upd (upd (upd (upd (upd (upd (upd e 1 (sI x1)) 0 (sI x0)) 5 (sI x0)) 6 (sB q3)) 7 (sB true)) 8 (sI x1)) 9 (sB q6)) 10 (sB q6)) 11 (sB true)) 12 (sI x0)) 13 (sB (decide (x0 < 1024)))) 14 (sI x1)) 15 (sB (decide (x1 < 1024)))) 16 (sB (((decide (x0 < 1024)) == (decide (x1 < 1024)))))) 17 (sB (((decide (x0 < 1024)) == (decide (x1 < 1024)))))) 18 (sB false)) 19 sU) 20 sU) 21 sU) 22 sU) 23 sU) 24 (sB false)) 4 (sB false)) V0 h5)) (K (upd (upd (upd (upd (upd (upd (upd (upd (upd (upd (upd (upd (upd (upd (upd (upd (upd (upd (upd (upd (upd (upd (upd e 1 (sI x1)) 0 (sI x0)) 5 (sI x0)) 6 (sB q3)) 7 (sB true)) 8 (sI x1)) 9 (sB q6)) 10 (sB q6)) 11 (sB false)) 12 sU) 13 sU) 14 sU) 15 sU) 16 sU) 17 (sB false)) 18 (sB false)) 19 sU) 20 sU) 21 sU) 22 sU) 23 sU) 24 (sB false)) 4 (sB false)) V0 h5)))) (K (upd (upd (upd (upd (upd (upd (upd (upd (upd (upd (upd (upd (upd (upd (upd (upd (upd (upd (upd (upd (upd (upd (upd e 1 (sI x1)) 0 (sI x0)) 5 (sI x0)) 6 (sB q3)) 7 (sB false)) 8 sU) 9 sU) 10 (sB false)) 11 (sB false)) 12 sU) 13 sU) 14 sU) 15 sU) 16 sU) 17 (sB false)) 18 (sB false)) 19 sU) 20 sU) 21 sU) 22 sU) 23 sU) 24 (sB false)) 4 (sB false)) V0 h2)))) := by kernel_rfl
def F20 (x0 : Int) (x1 : Int) (hp : HP) (K : Value → HP → Prop) : Prop :=
  (CF Try.prog 74 [(.int .i64 x0)] hp fun u_1 h_2 => (boolV u_1 fun q_3 => (ite2 q_3 (CF Try.prog 74 [(.int .i64 x1)] h_2 fun u_4 h_5 => (boolV u_4 fun q_6 => (ite2 q_6 (ite2 ((decide (x0 < 1024)) == (decide (x1 < 1024))) (((2 : Int) ≠ 0) ∧ (((2 : Int) ≠ 0) ∧ (K (.bool (((Int.tmod x0 2) : Int) == (Int.tmod x1 2))) h_5))) (K (.bool false) h_5)) (K (.bool false) h_5)))) (K (.bool false) h_2))))
noncomputable def F20_code : Code := (.seq (.region 0 (opsAt Try.f20 [0]) false) (.seq (.region 1 (opsAt Try.f20 [1, 0]) false) .ret))
theorem F20_body : Try.f20.body = some F20_code := by kernel_rfl
theorem F20_ok (x0 : Int) (x1 : Int) (hp : HP) (K : Value → HP → Prop) (h : F20 x0 x1 hp K) : CF Try.prog 20 [(.int .i64 x0), (.int .i64 x1)] hp K := by
 refine .inl ⟨by kernel_rfl, AC.intro (N := 25) Try.func20 F20_body rfl (Nat.le_of_ble_eq_true rfl) ?_⟩
 unfold F20 at h
 unfold F20_code
 refine AWP.seq' ?_
 refine AWP.rgn (F20_r0 (upd (upd E0 1 (sI x1)) 0 (sI x0))  hp _) ?_ (Ru 0 (Ru 1 Rn)) (Sc rfl (Sc rfl Sn)) Sn
 refine AWP.seq' ?_
 refine AWP.rgn (F20_r1 E0 x0 x1 hp _) ?_ (Ru 0 (Ru 1 Rn)) (Sc rfl (Sc rfl Sn)) Sn
 refine mC h fun u_1 h_2 h => mB h fun q_3 h => ?_
 refine mt h (fun h => ?_) (fun h => ?_)
 ·refine mC h fun u_4 h_5 h => mB h fun q_6 h => ?_
  refine mt h (fun h => ?_) (fun h => ?_)
  ·refine mt h (fun h => ?_) (fun h => ?_)
   ·refine ⟨h.1, ?_⟩
    replace h := h.2
    refine ⟨h.1, ?_⟩
    replace h := h.2
    refine AWP.ret ?_
    exact h
   ·refine AWP.ret ?_
    exact h
  ·refine AWP.ret ?_
   exact h
 ·refine AWP.ret ?_
  exact h
end
-- 21 interpreter/interpreterlaw18.wakes
section
variable (e : Env) (x1 : Option Addr) (x2 : Int) (k3 k5 k7 : List Value) (hp : HP) (K : Env → PV → HP → Prop)
abbrev R21 (p : List Nat) (n : Nat) := RW Try.prog 63 [3, 5, 7] (opsAt Try.f21 p) (List.range n)
theorem F21_r0 : R21 [0] 1 e V0 hp K =
    (K (upd e 0 (sB false)) V0 hp) := by kernel_rfl
theorem F21_r1 : R21 [1, 0] 9 e V0 hp K =
    (CF Try.prog 52 [] hp fun u1 h2 => (aggV u1 fun l3 => (CF Try.prog 53 [] h2 fun u4 h5 => (aggV u4 fun l6 => (if List.length l3 = 4 then (if List.length l6 = 4 then (∀ b7 : Nat, h5 b7 = .none → (CF Try.prog 44 [(.slice (some ⟨b7, 0, none⟩) 2 2), (.int .i64 1020), (.int .i64 1027)] (HP.set h5 b7 (.cells 73 (splice (splice [.int .u8 0, .int .u8 0, .int .u8 0, .int .u8 0, .int .u8 0, .int .u8 0, .int .u8 0, .int .u8 0] 0 l3) 4 l6) 0)) fun u8 h9 => (tup2V u8 fun u10 u11 => (ptrV u10 fun p12 => (intV u11 .i64 fun i13 => (K (upd (upd (upd (upd (upd (upd (upd (upd (upd e 10 (sA l3)) 11 (sA l6)) 12 (sV (.slice (some ⟨b7, 0, none⟩) 2 2))) 13 (sV (.tuple ⟨[(.pointer p12), (.int .i64 i13)]⟩))) 9 (sV (.tuple ⟨[(.pointer p12), (.int .i64 i13)]⟩))) 14 (sP p12)) 15 (sI i13)) 1 (sP p12)) 2 (sI i13)) V0 h9)))))) else False) else False))))) := by kernel_rfl
theorem F21_r2 : R21 [1, 1, 0, 1, 0, 0] 1 e V0 hp K =
    (K (upd e 0 (sB false)) V0 hp) := by kernel_rfl
theorem F21_r3 : R21 [1, 1, 1, 0] 9 (upd e 1 (sP x1)) V0 hp K =
    (CF Try.prog 46 [(.pointer x1), (.agg ⟨[.int .u8 0, .int .u8 0, .int .u8 0, .int .u8 0]⟩), (.int .i64 80), .bool false] hp fun u1 h2 => (tup2V u1 fun u3 u4 => (aggV u3 fun l5 => (intV u4 .i64 fun i6 => (if List.length l5 = 5 then (if List.all l5 one = true then (if 0 + List.length l5 ≤ List.length [(Value.int .u8 0), .int .u8 0, .int .u8 0, .int .u8 0, .int .i64 0] then (K (upd (upd (upd (upd (upd (upd (upd (upd (upd e 1 (sP x1)) 23 (sP x1)) 24 (sV (.agg ⟨[.int .u8 0, .int .u8 0, .int .u8 0, .int .u8 0]⟩))) 25 (sV (.tuple ⟨[(.agg ⟨l5⟩), (.int .i64 i6)]⟩))) 22 (sV (.tuple ⟨[(.agg ⟨l5⟩), (.int .i64 i6)]⟩))) 26 (sA l5)) 27 (sI i6)) 3 (sR 3 0)) 4 (sI i6)) (upd (upd V0 3 (75, [.int .u8 0, .int .u8 0, .int .u8 0, .int .u8 0, .int .i64 0])) 3 (75, (splice [.int .u8 0, .int .u8 0, .int .u8 0, .int .u8 0, .int .i64 0] 0 l5))) h2) else False) else False) else False))))) := by kernel_rfl
theorem F21_r4 : R21 [1, 1, 1, 1, 0] 9 (upd e 1 (sP x1)) (upd V0 3 (75, k3)) hp K =
    (CF Try.prog 46 [(.pointer x1), (.agg ⟨[.int .u8 0, .int .u8 0, .int .u8 0, .int .u8 0]⟩), (.int .i64 80), .bool false] hp fun u1 h2 => (tup2V u1 fun u3 u4 => (aggV u3 fun l5 => (intV u4 .i64 fun i6 => (if List.length l5 = 5 then (if List.all l5 one = true then (if 0 + List.length l5 ≤ List.length [(Value.int .u8 0), .int .u8 0, .int .u8 0, .int .u8 0, .int .i64 0] then (K (upd (upd (upd (upd (upd (upd (upd (upd (upd e 1 (sP x1)) 29 (sP x1)) 30 (sV (.agg ⟨[.int .u8 0, .int .u8 0, .int .u8 0, .int .u8 0]⟩))) 31 (sV (.tuple ⟨[(.agg ⟨l5⟩), (.int .i64 i6)]⟩))) 28 (sV (.tuple ⟨[(.agg ⟨l5⟩), (.int .i64 i6)]⟩))) 32 (sA l5)) 33 (sI i6)) 5 (sR 5 0)) 6 (sI i6)) (upd (upd (upd V0 3 (75, k3)) 5 (75, [.int .u8 0, .int .u8 0, .int .u8 0, .int .u8 0, .int .i64 0])) 5 (75, (splice [.int .u8 0, .int .u8 0, .int .u8 0, .int .u8 0, .int .i64 0] 0 l5))) h2) else False) else False) else False))))) := by kernel_rfl
theorem F21_r5 : R21 [1, 1, 1, 1, 1, 0] 9 (upd e 1 (sP x1)) (upd (upd V0 5 (75, k5)) 3 (75, k3)) hp K =
    (CF Try.prog 46 [(.pointer x1), (.agg ⟨[.int .u8 0, .int .u8 0, .int .u8 0, .int .u8 0]⟩), (.int .i64 80), .bool false] hp fun u1 h2 => (tup2V u1 fun u3 u4 => (aggV u3 fun l5 => (intV u4 .i64 fun i6 => (if List.length l5 = 5 then (if List.all l5 one = true then (if 0 + List.length l5 ≤ List.length [(Value.int .u8 0), .int .u8 0, .int .u8 0, .int .u8 0, .int .i64 0] then (K (upd (upd (upd (upd (upd (upd (upd (upd (upd e 1 (sP x1)) 35 (sP x1)) 36 (sV (.agg ⟨[.int .u8 0, .int .u8 0, .int .u8 0, .int .u8 0]⟩))) 37 (sV (.tuple ⟨[(.agg ⟨l5⟩), (.int .i64 i6)]⟩))) 34 (sV (.tuple ⟨[(.agg ⟨l5⟩), (.int .i64 i6)]⟩))) 38 (sA l5)) 39 (sI i6)) 7 (sR 7 0)) 8 (sI i6)) (upd (upd (upd (upd V0 5 (75, k5)) 3 (75, k3)) 7 (75, [.int .u8 0, .int .u8 0, .int .u8 0, .int .u8 0, .int .i64 0])) 7 (75, (splice [.int .u8 0, .int .u8 0, .int .u8 0, .int .u8 0, .int .i64 0] 0 l5))) h2) else False) else False) else False))))) := by kernel_rfl
theorem F21_r6 : R21 [1, 1, 1, 1, 1, 1, 0] 24 (upd (upd (upd e 7 (sR 7 0)) 5 (sR 5 0)) 3 (sR 3 0)) (upd (upd (upd V0 7 (75, k7)) 5 (75, k5)) 3 (75, k3)) hp K =
    (ldL (cellsN k3 0 5) fun l1 => (CF Try.prog 52 [] hp fun u2 h3 => (aggV u2 fun l4 => (if List.length l4 = 4 then (eqAgg Try.prog 75 l1 (List.set (splice [.int .u8 0, .int .u8 0, .int .u8 0, .int .u8 0, .int .i64 0] 0 l4) 4 (.int .i64 1020)) fun q5 => (ite2 q5 (ldL (cellsN k5 0 5) fun l6 => (CF Try.prog 52 [] h3 fun u7 h8 => (aggV u7 fun l9 => (if List.length l9 = 4 then (eqAgg Try.prog 75 l6 (List.set (splice [.int .u8 0, .int .u8 0, .int .u8 0, .int .u8 0, .int .i64 0] 0 l9) 4 (.int .i64 1022)) fun q10 => (ite2 q10 (ldL (cellsN k7 0 5) fun l11 => (CF Try.prog 53 [] h8 fun u12 h13 => (aggV u12 fun l14 => (if List.length l14 = 4 then (eqAgg Try.prog 75 l11 (List.set (splice [.int .u8 0, .int .u8 0, .int .u8 0, .int .u8 0, .int .i64 0] 0 l14) 4 (.int .i64 1020)) fun q15 => (ite2 q15 (CF Try.prog 20 [(.int .i64 80), (.int .i64 1022)] h13 fun u16 h17 => (boolV u16 fun q18 => (ite2 q18 (CF Try.prog 20 [(.int .i64 80), (.int .i64 1024)] h17 fun u19 h20 => (boolV u19 fun q21 => (K (upd (upd (upd (upd (upd (upd (upd (upd (upd (upd (upd (upd (upd (upd (upd (upd (upd (upd (upd (upd (upd (upd (upd (upd (upd (upd (upd e 7 (sR 7 0)) 5 (sR 5 0)) 3 (sR 3 0)) 40 (sA l1)) 41 (sA l4)) 42 (sV (.agg ⟨(List.set (splice [.int .u8 0, .int .u8 0, .int .u8 0, .int .u8 0, .int .i64 0] 0 l4) 4 (.int .i64 1020))⟩))) 43 (sB q5)) 44 (sB true)) 45 (sA l6)) 46 (sA l9)) 47 (sV (.agg ⟨(List.set (splice [.int .u8 0, .int .u8 0, .int .u8 0, .int .u8 0, .int .i64 0] 0 l9) 4 (.int .i64 1022))⟩))) 48 (sB q10)) 49 (sB q10)) 50 (sB true)) 51 (sA l11)) 52 (sA l14)) 53 (sV (.agg ⟨(List.set (splice [.int .u8 0, .int .u8 0, .int .u8 0, .int .u8 0, .int .i64 0] 0 l14) 4 (.int .i64 1020))⟩))) 54 (sB q15)) 55 (sB q15)) 56 (sB true)) 57 (sB q18)) 58 (sB q18)) 59 (sB true)) 60 (sB q21)) 61 (sB ((!q21)))) 62 (sB ((!q21)))) 0 (sB ((!q21)))) (upd (upd (upd V0 7 (75, k7)) 5 (75, k5)) 3 (75, k3)) h20))) (K (upd (upd (upd (upd (upd (upd (upd (upd (upd (upd (upd (upd (upd (upd (upd (upd (upd (upd (upd (upd (upd (upd (upd (upd (upd (upd (upd e 7 (sR 7 0)) 5 (sR 5 0)) 3 (sR 3 0)) 40 (sA l1)) 41 (sA l4)) 42 (sV (.agg ⟨(List.set (splice [.int .u8 0, .int .u8 0, .int .u8 0, .int .u8 0, .int .i64 0] 0 l4) 4 (.int .i64 1020))⟩))) 43 (sB q5)) 44 (sB true)) 45 (sA l6)) 46 (sA l9)) 47 (sV (.agg ⟨(List.set (splice [.int .u8 0, .int .u8 0, .int .u8 0, .int .u8 0, .int .i64 0] 0 l9) 4 (.int .i64 1022))⟩))) 48 (sB q10)) 49 (sB q10)) 50 (sB true)) 51 (sA l11)) 52 (sA l14)) 53 (sV (.agg ⟨(List.set (splice [.int .u8 0, .int .u8 0, .int .u8 0, .int .u8 0, .int .i64 0] 0 l14) 4 (.int .i64 1020))⟩))) 54 (sB q15)) 55 (sB q15)) 56 (sB true)) 57 (sB q18)) 58 (sB q18)) 59 (sB false)) 60 sU) 61 sU) 62 (sB false)) 0 (sB false)) (upd (upd (upd V0 7 (75, k7)) 5 (75, k5)) 3 (75, k3)) h17)))) (K (upd (upd (upd (upd (upd (upd (upd (upd (upd (upd (upd (upd (upd (upd (upd (upd (upd (upd (upd (upd (upd (upd (upd (upd (upd (upd (upd e 7 (sR 7 0)) 5 (sR 5 0)) 3 (sR 3 0)) 40 (sA l1)) 41 (sA l4)) 42 (sV (.agg ⟨(List.set (splice [.int .u8 0, .int .u8 0, .int .u8 0, .int .u8 0, .int .i64 0] 0 l4) 4 (.int .i64 1020))⟩))) 43 (sB q5)) 44 (sB true)) 45 (sA l6)) 46 (sA l9)) 47 (sV (.agg ⟨(List.set (splice [.int .u8 0, .int .u8 0, .int .u8 0, .int .u8 0, .int .i64 0] 0 l9) 4 (.int .i64 1022))⟩))) 48 (sB q10)) 49 (sB q10)) 50 (sB true)) 51 (sA l11)) 52 (sA l14)) 53 (sV (.agg ⟨(List.set (splice [.int .u8 0, .int .u8 0, .int .u8 0, .int .u8 0, .int .i64 0] 0 l14) 4 (.int .i64 1020))⟩))) 54 (sB q15)) 55 (sB q15)) 56 (sB false)) 57 sU) 58 (sB false)) 59 (sB false)) 60 sU) 61 sU) 62 (sB false)) 0 (sB false)) (upd (upd (upd V0 7 (75, k7)) 5 (75, k5)) 3 (75, k3)) h13))) else False)))) (K (upd (upd (upd (upd (upd (upd (upd (upd (upd (upd (upd (upd (upd (upd (upd (upd (upd (upd (upd (upd (upd (upd (upd (upd (upd (upd (upd e 7 (sR 7 0)) 5 (sR 5 0)) 3 (sR 3 0)) 40 (sA l1)) 41 (sA l4)) 42 (sV (.agg ⟨(List.set (splice [.int .u8 0, .int .u8 0, .int .u8 0, .int .u8 0, .int .i64 0] 0 l4) 4 (.int .i64 1020))⟩))) 43 (sB q5)) 44 (sB true)) 45 (sA l6)) 46 (sA l9)) 47 (sV (.agg ⟨(List.set (splice [.int .u8 0, .int .u8 0, .int .u8 0, .int .u8 0, .int .i64 0] 0 l9) 4 (.int .i64 1022))⟩))) 48 (sB q10)) 49 (sB q10)) 50 (sB false)) 51 sU) 52 sU) 53 sU) 54 sU) 55 (sB false)) 56 (sB false)) 57 sU) 58 (sB false)) 59 (sB false)) 60 sU) 61 sU) 62 (sB false)) 0 (sB false)) (upd (upd (upd V0 7 (75, k7)) 5 (75, k5)) 3 (75, k3)) h8))) else False)))) (K (upd (upd (upd (upd (upd (upd (upd (upd (upd (upd (upd (upd (upd (upd (upd (upd (upd (upd (upd (upd (upd (upd (upd (upd (upd (upd (upd e 7 (sR 7 0)) 5 (sR 5 0)) 3 (sR 3 0)) 40 (sA l1)) 41 (sA l4)) 42 (sV (.agg ⟨(List.set (splice [.int .u8 0, .int .u8 0, .int .u8 0, .int .u8 0, .int .i64 0] 0 l4) 4 (.int .i64 1020))⟩))) 43 (sB q5)) 44 (sB false)) 45 sU) 46 sU) 47 sU) 48 sU) 49 (sB false)) 50 (sB false)) 51 sU) 52 sU) 53 sU) 54 sU) 55 (sB false)) 56 (sB false)) 57 sU) 58 (sB false)) 59 (sB false)) 60 sU) 61 sU) 62 (sB false)) 0 (sB false)) (upd (upd (upd V0 7 (75, k7)) 5 (75, k5)) 3 (75, k3)) h3))) else False)))) := by kernel_rfl
def F21_j1 (x1 : Option Addr) (x21 : Bool) (hp : HP) (K : Value → HP → Prop) : Prop :=
  (ite2 x21 (K (.bool false) hp) (CF Try.prog 46 [(.pointer x1), (.agg ⟨[.int .u8 0, .int .u8 0, .int .u8 0, .int .u8 0]⟩), (.int .i64 80), .bool false] hp fun u_14 h_15 => (tup2V u_14 fun u_16 u_17 => (aggV u_16 fun l_18 => (intV u_17 .i64 fun i_19 => (if List.length l_18 = 5 then (if List.all l_18 one = true then (if 0 + List.length l_18 ≤ List.length [(Value.int .u8 0), .int .u8 0, .int .u8 0, .int .u8 0, .int .i64 0] then (CF Try.prog 46 [(.pointer x1), (.agg ⟨[.int .u8 0, .int .u8 0, .int .u8 0, .int .u8 0]⟩), (.int .i64 80), .bool false] h_15 fun u_20 h_21 => (tup2V u_20 fun u_22 u_23 => (aggV u_22 fun l_24 => (intV u_23 .i64 fun i_25 => (if List.length l_24 = 5 then (if List.all l_24 one = true then (if 0 + List.length l_24 ≤ List.length [(Value.int .u8 0), .int .u8 0, .int .u8 0, .int .u8 0, .int .i64 0] then (CF Try.prog 46 [(.pointer x1), (.agg ⟨[.int .u8 0, .int .u8 0, .int .u8 0, .int .u8 0]⟩), (.int .i64 80), .bool false] h_21 fun u_26 h_27 => (tup2V u_26 fun u_28 u_29 => (aggV u_28 fun l_30 => (intV u_29 .i64 fun i_31 => (if List.length l_30 = 5 then (if List.all l_30 one = true then (if 0 + List.length l_30 ≤ List.length [(Value.int .u8 0), .int .u8 0, .int .u8 0, .int .u8 0, .int .i64 0] then (ldL (cellsN (splice [.int .u8 0, .int .u8 0, .int .u8 0, .int .u8 0, .int .i64 0] 0 l_18) 0 5) fun l_32 => (CF Try.prog 52 [] h_27 fun u_33 h_34 => (aggV u_33 fun l_35 => (if List.length l_35 = 4 then (eqAgg Try.prog 75 l_32 (List.set (splice [.int .u8 0, .int .u8 0, .int .u8 0, .int .u8 0, .int .i64 0] 0 l_35) 4 (.int .i64 1020)) fun q_36 => (ite2 q_36 (ldL (cellsN (splice [.int .u8 0, .int .u8 0, .int .u8 0, .int .u8 0, .int .i64 0] 0 l_24) 0 5) fun l_37 => (CF Try.prog 52 [] h_34 fun u_38 h_39 => (aggV u_38 fun l_40 => (if List.length l_40 = 4 then (eqAgg Try.prog 75 l_37 (List.set (splice [.int .u8 0, .int .u8 0, .int .u8 0, .int .u8 0, .int .i64 0] 0 l_40) 4 (.int .i64 1022)) fun q_41 => (ite2 q_41 (ldL (cellsN (splice [.int .u8 0, .int .u8 0, .int .u8 0, .int .u8 0, .int .i64 0] 0 l_30) 0 5) fun l_42 => (CF Try.prog 53 [] h_39 fun u_43 h_44 => (aggV u_43 fun l_45 => (if List.length l_45 = 4 then (eqAgg Try.prog 75 l_42 (List.set (splice [.int .u8 0, .int .u8 0, .int .u8 0, .int .u8 0, .int .i64 0] 0 l_45) 4 (.int .i64 1020)) fun q_46 => (ite2 q_46 (CF Try.prog 20 [(.int .i64 80), (.int .i64 1022)] h_44 fun u_47 h_48 => (boolV u_47 fun q_49 => (ite2 q_49 (CF Try.prog 20 [(.int .i64 80), (.int .i64 1024)] h_48 fun u_50 h_51 => (boolV u_50 fun q_52 => (K (.bool (!q_52)) h_51))) (K (.bool false) h_48)))) (K (.bool false) h_44))) else False)))) (K (.bool false) h_39))) else False)))) (K (.bool false) h_34))) else False)))) else False) else False) else False))))) else False) else False) else False))))) else False) else False) else False))))))
theorem F21_r7 : R21 [1, 1, 0, 0] 6 (upd (upd e 2 (sI x2)) 1 (sP x1)) V0 hp K =
    (ite2 (x2 != 0) (K (upd (upd (upd (upd (upd (upd (upd (upd e 2 (sI x2)) 1 (sP x1)) 16 (sI x2)) 17 (sB ((x2 != 0)))) 18 (sB true)) 19 sU) 20 sU) 21 (sB true)) V0 hp) (K (upd (upd (upd (upd (upd (upd (upd (upd e 2 (sI x2)) 1 (sP x1)) 16 (sI x2)) 17 (sB ((x2 != 0)))) 18 (sB false)) 19 (sP x1)) 20 (sB ((Option.isNone x1)))) 21 (sB ((Option.isNone x1)))) V0 hp)) := by kernel_rfl
def F21 (hp : HP) (K : Value → HP → Prop) : Prop :=
  (CF Try.prog 52 [] hp fun u_1 h_2 => (aggV u_1 fun l_3 => (CF Try.prog 53 [] h_2 fun u_4 h_5 => (aggV u_4 fun l_6 => (if List.length l_3 = 4 then (if List.length l_6 = 4 then (∀ b_7 : Nat, h_5 b_7 = .none → (CF Try.prog 44 [(.slice (some ⟨b_7, 0, none⟩) 2 2), (.int .i64 1020), (.int .i64 1027)] (HP.set h_5 b_7 (.cells 73 (splice (splice [.int .u8 0, .int .u8 0, .int .u8 0, .int .u8 0, .int .u8 0, .int .u8 0, .int .u8 0, .int .u8 0] 0 l_3) 4 l_6) 0)) fun u_8 h_9 => (tup2V u_8 fun u_10 u_11 => (ptrV u_10 fun p_12 => (intV u_11 .i64 fun i_13 => (ite2 (i_13 != 0) (F21_j1 p_12 true h_9  K) (F21_j1 p_12 (Option.isNone p_12) h_9  K))))))) else False) else False)))))
noncomputable def F21_code : Code := (.seq (.region 0 (opsAt Try.f21 [0]) false) (.seq (.region 1 (opsAt Try.f21 [1, 0]) false) (.seq (.seq (.region 2 (opsAt Try.f21 [1, 1, 0, 0]) false) (.cond (.tmp 21) (.seq (.region 3 (opsAt Try.f21 [1, 1, 0, 1, 0, 0]) false) .ret) .skip)) (.seq (.region 4 (opsAt Try.f21 [1, 1, 1, 0]) false) (.seq (.region 5 (opsAt Try.f21 [1, 1, 1, 1, 0]) false) (.seq (.region 6 (opsAt Try.f21 [1, 1, 1, 1, 1, 0]) false) (.seq (.region 7 (opsAt Try.f21 [1, 1, 1, 1, 1, 1, 0]) true) .ret)))))))
theorem F21_body : Try.f21.body = some F21_code := by kernel_rfl
theorem F21_ok (hp : HP) (K : Value → HP → Prop) (h : F21  hp K) : CF Try.prog 21 [] hp K := by
 refine .inl ⟨by kernel_rfl, AC.intro (N := 63) Try.func21 F21_body rfl (Nat.le_of_ble_eq_true rfl) ?_⟩
 unfold F21 at h
 unfold F21_code
 refine AWP.seq' ?_
 refine AWP.rgn (F21_r0 E0  hp _) ?_ Rn Sn Sn
 refine AWP.seq' ?_
 refine AWP.rgn (F21_r1 E0  hp _) ?_ Rn Sn Sn
 refine mC h fun u_1 h_2 h => mA h fun l_3 h => mC h fun u_4 h_5 h => mA h fun l_6 h => mf h fun h => mf h fun h => ?_
 refine fun b_7 hb_b_7 => ?_
 replace h := h b_7 hb_b_7
 refine mC h fun u_8 h_9 h => mT h fun u_10 u_11 h => mP h fun p_12 h => mI h fun i_13 h => ?_
 refine AWP.seq' ?_
 refine AWP.seq (fun env pv hp => ∃ (x1 : Option Addr) (x21 : Bool), Sub (upd (upd E0 21 (sB x21)) 1 (sP x1)) env ∧ Sub V0 pv ∧ (F21_j1 x1 x21 hp  K)) ?_ ?_
 ·refine AWP.rgn (F21_r7 E0 p_12 i_13 h_9 _) ?_ (Ru 1 (Ru 2 Rn)) (Sc rfl (Sc rfl Sn)) Sn
  refine mt h (fun h => ?_) (fun h => ?_)
  ·exact ⟨p_12, true, (Sc rfl (Sc rfl Sn)), Sn, h⟩
  ·exact ⟨p_12, (Option.isNone p_12), (Sc rfl (Sc rfl Sn)), Sn, h⟩
 ·rintro env pv hp ⟨x1, x21, he, hv, h⟩
  refine AWP.sub (env' := (upd (upd E0 21 (sB x21)) 1 (sP x1))) (pv' := V0) ?_ (Ru 1 (Ru 21 Rn)) he hv (HSub.refl _)
  clear he hv
  unfold F21_j1 at h
  refine AWP.cond (t := x21) rfl (fun e => ?_) (fun e => ?_)
  ·replace h := ite2_t h e
   refine AWP.seq' ?_
   refine AWP.rgn (F21_r2 E0  hp _) ?_ Rn Sn Sn
   refine AWP.ret ?_
   exact h
  ·replace h := ite2_f h e
   refine AWP.skip ?_
   refine AWP.seq' ?_
   refine AWP.rgn (F21_r3 E0 x1 hp _) ?_ (Ru 1 Rn) (Sc rfl Sn) Sn
   refine mC h fun u_14 h_15 h => mT h fun u_16 u_17 h => mA h fun l_18 h => mI h fun i_19 h => mf h fun h => mf h fun h => mf h fun h => ?_
   refine AWP.seq' ?_
   refine AWP.rgn (F21_r4 (upd E0 3 (sR 3 0)) x1 (splice [.int .u8 0, .int .u8 0, .int .u8 0, .int .u8 0, .int .i64 0] 0 l_18) h_15 _) ?_ (Ru 1 (RefOk.p 3 3 0 Rn (fun e => by cases e))) (Sc rfl (Sc rfl Sn)) (Sc rfl Sn)
   refine mC h fun u_20 h_21 h => mT h fun u_22 u_23 h => mA h fun l_24 h => mI h fun i_25 h => mf h fun h => mf h fun h => mf h fun h => ?_
   refine AWP.seq' ?_
   refine AWP.rgn (F21_r5 (upd (upd E0 5 (sR 5 0)) 3 (sR 3 0)) x1 (splice [.int .u8 0, .int .u8 0, .int .u8 0, .int .u8 0, .int .i64 0] 0 l_18) (splice [.int .u8 0, .int .u8 0, .int .u8 0, .int .u8 0, .int .i64 0] 0 l_24) h_21 _) ?_ (Ru 1 (RefOk.p 3 3 0 (RefOk.p 5 5 0 Rn (fun e => by cases e)) (fun e => by cases e))) (Sc rfl (Sc rfl (Sc rfl Sn))) (Sc rfl (Sc rfl Sn))
   refine mC h fun u_26 h_27 h => mT h fun u_28 u_29 h => mA h fun l_30 h => mI h fun i_31 h => mf h fun h => mf h fun h => mf h fun h => ?_
   refine AWP.seq' ?_
   refine AWP.rgnD (by kernel_rfl) (by kernel_rfl) (F21_r6 E0 (splice [.int .u8 0, .int .u8 0, .int .u8 0, .int .u8 0, .int .i64 0] 0 l_18) (splice [.int .u8 0, .int .u8 0, .int .u8 0, .int .u8 0, .int .i64 0] 0 l_24) (splice [.int .u8 0, .int .u8 0, .int .u8 0, .int .u8 0, .int .i64 0] 0 l_30) h_27 _) ?_ (RefOk.p 3 3 0 (RefOk.p 5 5 0 (RefOk.p 7 7 0 Rn (fun e => by cases e)) (fun e => by cases e)) (fun e => by cases e)) (Sc rfl (Sc rfl (Sc rfl Sn))) (Sc rfl (Sc rfl (Sc rfl Sn)))
   refine mL h fun l_32 h => mC h fun u_33 h_34 h => mA h fun l_35 h => mf h fun h => mE h fun q_36 h => ?_
   refine mt h (fun h => ?_) (fun h => ?_)
   ·refine mL h fun l_37 h => mC h fun u_38 h_39 h => mA h fun l_40 h => mf h fun h => mE h fun q_41 h => ?_
    refine mt h (fun h => ?_) (fun h => ?_)
    ·refine mL h fun l_42 h => mC h fun u_43 h_44 h => mA h fun l_45 h => mf h fun h => mE h fun q_46 h => ?_
     refine mt h (fun h => ?_) (fun h => ?_)
     ·refine mC h fun u_47 h_48 h => mB h fun q_49 h => ?_
      refine mt h (fun h => ?_) (fun h => ?_)
      ·refine mC h fun u_50 h_51 h => mB h fun q_52 h => ?_
       refine AWP.ret ?_
       exact h
      ·refine AWP.ret ?_
       exact h
     ·refine AWP.ret ?_
      exact h
    ·refine AWP.ret ?_
     exact h
   ·refine AWP.ret ?_
    exact h
end
-- 44 interpreter/pool.New
section
variable (e : Env) (x0a : Option Addr) (x0n x0c : Nat) (x1 x2 x8 : Int) (x39a : Option Addr) (x39n x39c : Nat) (x40 x41 : Int) (k9 : List Value) (hp : HP) (K : Env → PV → HP → Prop)
abbrev R44 (p : List Nat) (n : Nat) := RW Try.prog 59 [9] (opsAt Try.f44 p) (List.range n)
theorem F44_r0 : R44 [0] 2 e V0 hp K =
    (K (upd (upd e 6 (sP none)) 7 (sI 0)) V0 hp) := by kernel_rfl
theorem F44_r1 : R44 [1, 0, 1, 0, 0] 2 e V0 hp K =
    (K (upd (upd e 6 (sP none)) 7 (sI 1)) V0 hp) := by kernel_rfl
theorem F44_r2 : R44 [1, 1, 1, 0] 9 (upd (upd (upd e 2 (sI x2)) 1 (sI x1)) 0 (sS x0a x0n x0c)) V0 hp K =
    (CF Try.prog 93 [(.slice x0a x0n x0c)] hp fun u1 h2 => (slcV u1 fun a3 n4 c5 => (∀ b6 : Nat, h2 b6 = .none → (∀ b7 : Nat, (HP.set h2 b6 (.obj (.map #[] 0))) b7 = .none → (K (upd (upd (upd (upd (upd (upd (upd (upd (upd (upd (upd (upd e 2 (sI x2)) 1 (sI x1)) 0 (sS x0a x0n x0c)) 52 (sS x0a x0n x0c)) 53 (sS a3 n4 c5)) 54 (sI x1)) 55 (sI x2)) 56 (sV (.map (some b6)))) 57 (sV (.agg ⟨[(.slice a3 n4 c5), (.int .i64 x1), (.int .i64 x2), (.map (some b6))]⟩))) 58 (sQ b7 0)) 6 (sQ b7 0)) 7 (sI 0)) V0 (HP.set (HP.set h2 b6 (.obj (.map #[] 0))) b7 (.cells 160 [(.slice a3 n4 c5), (.int .i64 x1), (.int .i64 x2), (.map (some b6))] 0))))))) := by kernel_rfl
def F44_j2 (x0a : Option Addr) (x0n : Nat) (x0c : Nat) (x1 : Int) (x2 : Int) (hp : HP) (K : Value → HP → Prop) : Prop :=
  (CF Try.prog 93 [(.slice x0a x0n x0c)] hp fun u_1 h_2 => (slcV u_1 fun a_3 n_4 c_5 => (∀ b_6 : Nat, h_2 b_6 = .none → (∀ b_7 : Nat, (HP.set h_2 b_6 (.obj (.map #[] 0))) b_7 = .none → (K (.tuple ⟨[(ptr b_7 0), .int .i64 0]⟩) (HP.set (HP.set h_2 b_6 (.obj (.map #[] 0))) b_7 (.cells 160 [(.slice a_3 n_4 c_5), (.int .i64 x1), (.int .i64 x2), (.map (some b_6))] 0)))))))
theorem F44_r3 : R44 [1, 1, 0, 1, 0, 0, 0] 1 (upd (upd e 41 (sI x41)) 40 (sI x40)) V0 hp K =
    (K (upd (upd (upd e 41 (sI x41)) 40 (sI x40)) 42 (sB (decide (x41 < x40)))) V0 hp) := by kernel_rfl
theorem F44_r4 : R44 [1, 1, 0, 1, 0, 0, 1, 1, 0, 0, 0] 6 (upd (upd e 41 (sI x41)) 39 (sS x39a x39n x39c)) V0 hp K =
    ((0 ≤ x41) ∧ (x41 < x39n) ∧ (ptrN x39a fun b1 o2 => (ldL (HP.cellN hp b1 (o2 + Int.toNat x41 * 4) 4) fun l3 => (if List.length l3 = 4 then (if List.all l3 one = true then (if 0 + List.length l3 ≤ List.length [(Value.int .u8 0), .int .u8 0, .int .u8 0, .int .u8 0] then (K (upd (upd (upd (upd (upd (upd (upd e 41 (sI x41)) 39 (sS x39a x39n x39c)) 43 (sI x41)) 44 (sQ b1 (o2 + Int.toNat x41 * 4))) 45 (sA l3)) 9 (sR 9 0)) 8 (sI x41)) (upd (upd V0 9 (73, [.int .u8 0, .int .u8 0, .int .u8 0, .int .u8 0])) 9 (73, (splice [.int .u8 0, .int .u8 0, .int .u8 0, .int .u8 0] 0 l3))) hp) else False) else False) else False)))) := by kernel_rfl
theorem F44_r5 : R44 [1, 1, 0, 1, 0, 0, 1, 1, 0, 0, 1, 0] 5 (upd (upd (upd e 9 (sR 9 0)) 8 (sI x8)) 0 (sS x0a x0n x0c)) (upd V0 9 (73, k9)) hp K =
    ((0 ≤ x8) ∧ (x8 ≤ (x0c : Nat)) ∧ (ldL (cellsN k9 0 4) fun l1 => (CF Try.prog 92 [(.slice x0a (Int.toNat x8) x0c), (.agg ⟨l1⟩)] hp fun u2 h3 => (boolV u2 fun q4 => (K (upd (upd (upd (upd (upd (upd (upd (upd e 9 (sR 9 0)) 8 (sI x8)) 0 (sS x0a x0n x0c)) 46 (sS x0a x0n x0c)) 47 (sI x8)) 48 (sV (.slice x0a (Int.toNat x8) x0c))) 49 (sA l1)) 50 (sB q4)) (upd V0 9 (73, k9)) h3))))) := by kernel_rfl
theorem F44_r6 : R44 [1, 1, 0, 1, 0, 0, 1, 1, 0, 0, 1, 1, 0, 0] 2 e V0 hp K =
    (K (upd (upd e 6 (sP none)) 7 (sI 1)) V0 hp) := by kernel_rfl
theorem F44_r7 : R44 [1, 1, 0, 1, 0, 0, 1, 1, 1] 2 (upd e 41 (sI x41)) V0 hp K =
    (K (upd (upd (upd e 41 (sI x41)) 51 (sI ((wr (x41 + 1))))) 41 (sI ((wr (x41 + 1))))) V0 hp) := by kernel_rfl
def F44_l4 (x0a : Option Addr) (x0n : Nat) (x0c : Nat) (x1 : Int) (x2 : Int) (x39a : Option Addr) (x39n : Nat) (x39c : Nat) (x40 : Int) (K : Value → HP → Prop) (I4 : (Int) → HP → Prop) (x41 : Int) (hp : HP) : Prop :=
  (ite2 (decide (x41 < x40)) ((0 ≤ x41) ∧ (x41 < x39n) ∧ (ptrN x39a fun b_8 o_9 => (ldL (HP.cellN hp b_8 (o_9 + Int.toNat x41 * 4) 4) fun l_10 => (if List.length l_10 = 4 then (if List.all l_10 one = true then (if 0 + List.length l_10 ≤ List.length [(Value.int .u8 0), .int .u8 0, .int .u8 0, .int .u8 0] then ((0 ≤ x41) ∧ (x41 ≤ (x0c : Nat)) ∧ (ldL (cellsN (splice [.int .u8 0, .int .u8 0, .int .u8 0, .int .u8 0] 0 l_10) 0 4) fun l_11 => (CF Try.prog 92 [(.slice x0a (Int.toNat x41) x0c), (.agg ⟨l_11⟩)] hp fun u_12 h_13 => (boolV u_12 fun q_14 => (ite2 q_14 (K (.tuple ⟨[(.pointer none), (.int .i64 1)]⟩) h_13) (I4 (IntKind.wrap .i64 (x41 + 1)) h_13)))))) else False) else False) else False)))) (F44_j2 x0a x0n x0c x1 x2 hp  K))
def F44_j3 (x0a : Option Addr) (x0n : Nat) (x0c : Nat) (x1 : Int) (x2 : Int) (x39a : Option Addr) (x39n : Nat) (x39c : Nat) (x40 : Int) (x41 : Int) (hp : HP) (K : Value → HP → Prop) : Prop :=
  (LoopP (σ := Int) (fun I s hp => F44_l4 x0a x0n x0c x1 x2 x39a x39n x39c x40  K I s hp) x41 hp)
theorem F44_r8 : R44 [1, 1, 0, 0] 3 (upd e 0 (sS x0a x0n x0c)) V0 hp K =
    (K (upd (upd (upd (upd e 0 (sS x0a x0n x0c)) 39 (sS x0a x0n x0c)) 40 (sI ((x0n : Nat)))) 41 (sI 0)) V0 hp) := by kernel_rfl
def F44_j1 (x0a : Option Addr) (x0n : Nat) (x0c : Nat) (x1 : Int) (x2 : Int) (x38 : Bool) (hp : HP) (K : Value → HP → Prop) : Prop :=
  (ite2 x38 (K (.tuple ⟨[(.pointer none), (.int .i64 1)]⟩) hp) (F44_j3 x0a x0n x0c x1 x2 x0a x0n x0c (x0n : Nat) 0 hp  K))
theorem F44_r9 : R44 [1, 0, 0] 29 (upd (upd (upd e 2 (sI x2)) 1 (sI x1)) 0 (sS x0a x0n x0c)) V0 hp K =
    (ite2 (decide (((x0n : Nat) : Int) < 1)) (K (upd (upd (upd (upd (upd (upd (upd (upd (upd (upd (upd (upd (upd (upd (upd (upd (upd (upd (upd (upd (upd (upd (upd (upd (upd (upd (upd (upd (upd (upd (upd (upd e 2 (sI x2)) 1 (sI x1)) 0 (sS x0a x0n x0c)) 10 (sS x0a x0n x0c)) 11 (sI ((x0n : Nat)))) 12 (sB ((decide (((x0n : Nat) : Int) < 1))))) 13 (sB true)) 14 sU) 15 sU) 16 sU) 17 (sB true)) 18 (sB true)) 19 sU) 20 sU) 21 sU) 22 (sB true)) 23 (sB true)) 24 sU) 25 sU) 26 sU) 27 (sB true)) 28 (sB true)) 29 sU) 30 sU) 31 sU) 32 (sB true)) 33 (sB true)) 34 sU) 35 sU) 36 sU) 37 sU) 38 (sB true)) V0 hp) (ite2 (decide (((x0n : Nat) : Int) > 4)) (K (upd (upd (upd (upd (upd (upd (upd (upd (upd (upd (upd (upd (upd (upd (upd (upd (upd (upd (upd (upd (upd (upd (upd (upd (upd (upd (upd (upd (upd (upd (upd (upd e 2 (sI x2)) 1 (sI x1)) 0 (sS x0a x0n x0c)) 10 (sS x0a x0n x0c)) 11 (sI ((x0n : Nat)))) 12 (sB ((decide (((x0n : Nat) : Int) < 1))))) 13 (sB false)) 14 (sS x0a x0n x0c)) 15 (sI ((x0n : Nat)))) 16 (sB ((decide (((x0n : Nat) : Int) > 4))))) 17 (sB ((decide (((x0n : Nat) : Int) > 4))))) 18 (sB true)) 19 sU) 20 sU) 21 sU) 22 (sB true)) 23 (sB true)) 24 sU) 25 sU) 26 sU) 27 (sB true)) 28 (sB true)) 29 sU) 30 sU) 31 sU) 32 (sB true)) 33 (sB true)) 34 sU) 35 sU) 36 sU) 37 sU) 38 (sB true)) V0 hp) (CF Try.prog 74 [(.int .i64 x1)] hp fun u1 h2 => (boolV u1 fun q3 => (ite2 (!q3) (K (upd (upd (upd (upd (upd (upd (upd (upd (upd (upd (upd (upd (upd (upd (upd (upd (upd (upd (upd (upd (upd (upd (upd (upd (upd (upd (upd (upd (upd (upd (upd (upd e 2 (sI x2)) 1 (sI x1)) 0 (sS x0a x0n x0c)) 10 (sS x0a x0n x0c)) 11 (sI ((x0n : Nat)))) 12 (sB ((decide (((x0n : Nat) : Int) < 1))))) 13 (sB false)) 14 (sS x0a x0n x0c)) 15 (sI ((x0n : Nat)))) 16 (sB ((decide (((x0n : Nat) : Int) > 4))))) 17 (sB ((decide (((x0n : Nat) : Int) > 4))))) 18 (sB false)) 19 (sI x1)) 20 (sB q3)) 21 (sB ((!q3)))) 22 (sB ((!q3)))) 23 (sB true)) 24 sU) 25 sU) 26 sU) 27 (sB true)) 28 (sB true)) 29 sU) 30 sU) 31 sU) 32 (sB true)) 33 (sB true)) 34 sU) 35 sU) 36 sU) 37 sU) 38 (sB true)) V0 h2) (CF Try.prog 74 [(.int .i64 x2)] h2 fun u4 h5 => (boolV u4 fun q6 => (ite2 (!q6) (K (upd (upd (upd (upd (upd (upd (upd (upd (upd (upd (upd (upd (upd (upd (upd (upd (upd (upd (upd (upd (upd (upd (upd (upd (upd (upd (upd (upd (upd (upd (upd (upd e 2 (sI x2)) 1 (sI x1)) 0 (sS x0a x0n x0c)) 10 (sS x0a x0n x0c)) 11 (sI ((x0n : Nat)))) 12 (sB ((decide (((x0n : Nat) : Int) < 1))))) 13 (sB false)) 14 (sS x0a x0n x0c)) 15 (sI ((x0n : Nat)))) 16 (sB ((decide (((x0n : Nat) : Int) > 4))))) 17 (sB ((decide (((x0n : Nat) : Int) > 4))))) 18 (sB false)) 19 (sI x1)) 20 (sB q3)) 21 (sB ((!q3)))) 22 (sB ((!q3)))) 23 (sB false)) 24 (sI x2)) 25 (sB q6)) 26 (sB ((!q6)))) 27 (sB ((!q6)))) 28 (sB true)) 29 sU) 30 sU) 31 sU) 32 (sB true)) 33 (sB true)) 34 sU) 35 sU) 36 sU) 37 sU) 38 (sB true)) V0 h5) (ite2 (decide (x2 < x1)) (K (upd (upd (upd (upd (upd (upd (upd (upd (upd (upd (upd (upd (upd (upd (upd (upd (upd (upd (upd (upd (upd (upd (upd (upd (upd (upd (upd (upd (upd (upd (upd (upd e 2 (sI x2)) 1 (sI x1)) 0 (sS x0a x0n x0c)) 10 (sS x0a x0n x0c)) 11 (sI ((x0n : Nat)))) 12 (sB ((decide (((x0n : Nat) : Int) < 1))))) 13 (sB false)) 14 (sS x0a x0n x0c)) 15 (sI ((x0n : Nat)))) 16 (sB ((decide (((x0n : Nat) : Int) > 4))))) 17 (sB ((decide (((x0n : Nat) : Int) > 4))))) 18 (sB false)) 19 (sI x1)) 20 (sB q3)) 21 (sB ((!q3)))) 22 (sB ((!q3)))) 23 (sB false)) 24 (sI x2)) 25 (sB q6)) 26 (sB ((!q6)))) 27 (sB ((!q6)))) 28 (sB false)) 29 (sI x2)) 30 (sI x1)) 31 (sB (decide (x2 < x1)))) 32 (sB (decide (x2 < x1)))) 33 (sB true)) 34 sU) 35 sU) 36 sU) 37 sU) 38 (sB true)) V0 h5) (K (upd (upd (upd (upd (upd (upd (upd (upd (upd (upd (upd (upd (upd (upd (upd (upd (upd (upd (upd (upd (upd (upd (upd (upd (upd (upd (upd (upd (upd (upd (upd (upd e 2 (sI x2)) 1 (sI x1)) 0 (sS x0a x0n x0c)) 10 (sS x0a x0n x0c)) 11 (sI ((x0n : Nat)))) 12 (sB ((decide (((x0n : Nat) : Int) < 1))))) 13 (sB false)) 14 (sS x0a x0n x0c)) 15 (sI ((x0n : Nat)))) 16 (sB ((decide (((x0n : Nat) : Int) > 4))))) 17 (sB ((decide (((x0n : Nat) : Int) > 4))))) 18 (sB false)) 19 (sI x1)) 20 (sB q3)) 21 (sB ((!q3)))) 22 (sB ((!q3)))) 23 (sB false)) 24 (sI x2)) 25 (sB q6)) 26 (sB ((!q6)))) 27 (sB ((!q6)))) 28 (sB false)) 29 (sI x2)) 30 (sI x1)) 31 (sB (decide (x2 < x1)))) 32 (sB (decide (x2 < x1)))) 33 (sB false)) 34 (sI x2)) 35 (sI x1)) 36 (sI ((wr (x2 - x1))))) 37 (sB ((decide (((wr (x2 - x1)) : Int) ≥ 1024))))) 38 (sB ((decide (((wr (x2 - x1)) : Int) ≥ 1024))))) V0 h5)))))))))) := by kernel_rfl
def F44 (x0a : Option Addr) (x0n : Nat) (x0c : Nat) (x1 : Int) (x2 : Int) (hp : HP) (K : Value → HP → Prop) : Prop :=
  (ite2 (decide (((x0n : Nat) : Int) < 1)) (F44_j1 x0a x0n x0c x1 x2 true hp  K) (ite2 (decide (((x0n : Nat) : Int) > 4)) (F44_j1 x0a x0n x0c x1 x2 true hp  K) (CF Try.prog 74 [(.int .i64 x1)] hp fun u_15 h_16 => (boolV u_15 fun q_17 => (ite2 (!q_17) (F44_j1 x0a x0n x0c x1 x2 true h_16  K) (CF Try.prog 74 [(.int .i64 x2)] h_16 fun u_18 h_19 => (boolV u_18 fun q_20 => (ite2 (!q_20) (F44_j1 x0a x0n x0c x1 x2 true h_19  K) (ite2 (decide (x2 < x1)) (F44_j1 x0a x0n x0c x1 x2 true h_19  K) (F44_j1 x0a x0n x0c x1 x2 (decide (((IntKind.wrap .i64 (x2 - x1)) : Int) ≥ 1024)) h_19  K))))))))))
noncomputable def F44_code : Code := (.seq (.region 0 (opsAt Try.f44 [0]) false) (.seq (.seq (.region 1 (opsAt Try.f44 [1, 0, 0]) false) (.cond (.tmp 38) (.seq (.region 2 (opsAt Try.f44 [1, 0, 1, 0, 0]) false) .ret) .skip)) (.seq (.seq (.region 3 (opsAt Try.f44 [1, 1, 0, 0]) false) (.block 0 (.loop (.seq (.region 4 (opsAt Try.f44 [1, 1, 0, 1, 0, 0, 0]) false) (.seq (.cond (.tmp 42) .skip (.exit 0)) (.seq (.block 1 (.seq (.region 5 (opsAt Try.f44 [1, 1, 0, 1, 0, 0, 1, 1, 0, 0, 0]) false) (.seq (.region 6 (opsAt Try.f44 [1, 1, 0, 1, 0, 0, 1, 1, 0, 0, 1, 0]) true) (.cond (.tmp 50) (.seq (.region 7 (opsAt Try.f44 [1, 1, 0, 1, 0, 0, 1, 1, 0, 0, 1, 1, 0, 0]) false) .ret) .skip)))) (.region 8 (opsAt Try.f44 [1, 1, 0, 1, 0, 0, 1, 1, 1]) false))))))) (.seq (.region 9 (opsAt Try.f44 [1, 1, 1, 0]) false) .ret))))
theorem F44_body : Try.f44.body = some F44_code := by kernel_rfl
theorem F44_ok (x0a : Option Addr) (x0n : Nat) (x0c : Nat) (x1 : Int) (x2 : Int) (hp : HP) (K : Value → HP → Prop) (h : F44 x0a x0n x0c x1 x2 hp K) : CF Try.prog 44 [(.slice x0a x0n x0c), (.int .i64 x1), (.int .i64 x2)] hp K := by
 refine .inl ⟨by kernel_rfl, AC.intro (N := 59) Try.func44 F44_body rfl (Nat.le_of_ble_eq_true rfl) ?_⟩
 unfold F44 at h
 unfold F44_code
 refine AWP.seq' ?_
 refine AWP.rgn (F44_r0 (upd (upd (upd E0 2 (sI x2)) 1 (sI x1)) 0 (sS x0a x0n x0c))  hp _) ?_ (Ru 0 (Ru 1 (Ru 2 Rn))) (Sc rfl (Sc rfl (Sc rfl Sn))) Sn
 refine AWP.seq' ?_
 refine AWP.seq (fun env pv hp => ∃ (x0a : Option Addr) (x0n : Nat) (x0c : Nat) (x1 : Int) (x2 : Int) (x38 : Bool), Sub (upd (upd (upd (upd E0 38 (sB x38)) 2 (sI x2)) 1 (sI x1)) 0 (sS x0a x0n x0c)) env ∧ Sub V0 pv ∧ (F44_j1 x0a x0n x0c x1 x2 x38 hp  K)) ?_ ?_
 ·refine AWP.rgn (F44_r9 E0 x0a x0n x0c x1 x2 hp _) ?_ (Ru 0 (Ru 1 (Ru 2 Rn))) (Sc rfl (Sc rfl (Sc rfl Sn))) Sn
  refine mt h (fun h => ?_) (fun h => ?_)
  ·exact ⟨x0a, x0n, x0c, x1, x2, true, (Sc rfl (Sc rfl (Sc rfl (Sc rfl Sn)))), Sn, h⟩
  ·refine mt h (fun h => ?_) (fun h => ?_)
   ·exact ⟨x0a, x0n, x0c, x1, x2, true, (Sc rfl (Sc rfl (Sc rfl (Sc rfl Sn)))), Sn, h⟩
   ·refine mC h fun u_15 h_16 h => mB h fun q_17 h => ?_
    refine mt h (fun h => ?_) (fun h => ?_)
    ·exact ⟨x0a, x0n, x0c, x1, x2, true, (Sc rfl (Sc rfl (Sc rfl (Sc rfl Sn)))), Sn, h⟩
    ·refine mC h fun u_18 h_19 h => mB h fun q_20 h => ?_
     refine mt h (fun h => ?_) (fun h => ?_)
     ·exact ⟨x0a, x0n, x0c, x1, x2, true, (Sc rfl (Sc rfl (Sc rfl (Sc rfl Sn)))), Sn, h⟩
     ·refine mt h (fun h => ?_) (fun h => ?_)
      ·exact ⟨x0a, x0n, x0c, x1, x2, true, (Sc rfl (Sc rfl (Sc rfl (Sc rfl Sn)))), Sn, h⟩
      ·exact ⟨x0a, x0n, x0c, x1, x2, (decide (((wr (x2 - x1)) : Int) ≥ 1024)), (Sc rfl (Sc rfl (Sc rfl (Sc rfl Sn)))), Sn, h⟩
 ·rintro env pv hp ⟨x0a, x0n, x0c, x1, x2, x38, he, hv, h⟩
  refine AWP.sub (env' := (upd (upd (upd (upd E0 38 (sB x38)) 2 (sI x2)) 1 (sI x1)) 0 (sS x0a x0n x0c))) (pv' := V0) ?_ (Ru 0 (Ru 1 (Ru 2 (Ru 38 Rn)))) he hv (HSub.refl _)
  clear he hv
  unfold F44_j1 at h
  refine AWP.cond (t := x38) rfl (fun e => ?_) (fun e => ?_)
  ·replace h := ite2_t h e
   refine AWP.seq' ?_
   refine AWP.rgn (F44_r1 E0  hp _) ?_ Rn Sn Sn
   refine AWP.ret ?_
   exact h
  ·replace h := ite2_f h e
   refine AWP.skip ?_
   refine AWP.seq (fun env pv hp => ∃ (x0a : Option Addr) (x0n : Nat) (x0c : Nat) (x1 : Int) (x2 : Int), Sub (upd (upd (upd E0 2 (sI x2)) 1 (sI x1)) 0 (sS x0a x0n x0c)) env ∧ Sub V0 pv ∧ (F44_j2 x0a x0n x0c x1 x2 hp  K)) ?_ ?_
   ·refine AWP.seq (fun env pv hp => ∃ (x0a : Option Addr) (x0n : Nat) (x0c : Nat) (x1 : Int) (x2 : Int) (x39a : Option Addr) (x39n : Nat) (x39c : Nat) (x40 : Int) (x41 : Int), Sub (upd (upd (upd (upd (upd (upd E0 41 (sI x41)) 40 (sI x40)) 39 (sS x39a x39n x39c)) 2 (sI x2)) 1 (sI x1)) 0 (sS x0a x0n x0c)) env ∧ Sub V0 pv ∧ (F44_j3 x0a x0n x0c x1 x2 x39a x39n x39c x40 x41 hp  K)) ?_ ?_
    ·refine AWP.rgn (F44_r8 (upd (upd E0 2 (sI x2)) 1 (sI x1)) x0a x0n x0c hp _) ?_ (Ru 0 (Ru 1 (Ru 2 Rn))) (Sc rfl (Sc rfl (Sc rfl Sn))) Sn
     exact ⟨x0a, x0n, x0c, x1, x2, x0a, x0n, x0c, (x0n : Nat), 0, (Sc rfl (Sc rfl (Sc rfl (Sc rfl (Sc rfl (Sc rfl Sn)))))), Sn, h⟩
    ·rintro env pv hp ⟨x0a, x0n, x0c, x1, x2, x39a, x39n, x39c, x40, x41, he, hv, h⟩
     refine AWP.sub (env' := (upd (upd (upd (upd (upd (upd E0 41 (sI x41)) 40 (sI x40)) 39 (sS x39a x39n x39c)) 2 (sI x2)) 1 (sI x1)) 0 (sS x0a x0n x0c))) (pv' := V0) ?_ (Ru 0 (Ru 1 (Ru 2 (Ru 39 (Ru 40 (Ru 41 Rn)))))) he hv (HSub.refl _)
     clear he hv
     unfold F44_j3 at h
     refine AWP.block ?_
     refine AWP.loop (σ := Int) (fun I s hp => F44_l4 x0a x0n x0c x1 x2 x39a x39n x39c x40  K I s hp) (fun s => (upd (upd (upd (upd (upd (upd E0 41 (sI s)) 40 (sI x40)) 39 (sS x39a x39n x39c)) 2 (sI x2)) 1 (sI x1)) 0 (sS x0a x0n x0c))) (fun s => V0) x41 h (fun s => (Ru 0 (Ru 1 (Ru 2 (Ru 39 (Ru 40 (Ru 41 Rn))))))) (Sc rfl (Sc rfl (Sc rfl (Sc rfl (Sc rfl (Sc rfl Sn)))))) Sn ?_
     intro I4 s hp h
     obtain ⟨x41, hs⟩ : ∃ x, x = s := ⟨s, rfl⟩
     subst hs
     replace h : F44_l4 x0a x0n x0c x1 x2 x39a x39n x39c x40  K I4 x41 hp := h
     unfold F44_l4 at h
     refine AWP.seq' ?_
     refine AWP.rgn (F44_r3 (upd (upd (upd (upd E0 39 (sS x39a x39n x39c)) 2 (sI x2)) 1 (sI x1)) 0 (sS x0a x0n x0c)) x40 x41 hp _) ?_ (Ru 40 (Ru 41 (Ru 0 (Ru 1 (Ru 2 (Ru 39 Rn)))))) (Sc rfl (Sc rfl (Sc rfl (Sc rfl (Sc rfl (Sc rfl Sn)))))) Sn
     refine AWP.seq' ?_
     refine AWP.cond (t := (decide (x41 < x40))) rfl (fun e => ?_) (fun e => ?_)
     ·replace h := ite2_t h e
      refine AWP.skip ?_
      refine AWP.seq' ?_
      refine AWP.block ?_
      refine AWP.seq' ?_
      refine AWP.rgn (F44_r4 (upd (upd (upd (upd E0 40 (sI x40)) 2 (sI x2)) 1 (sI x1)) 0 (sS x0a x0n x0c)) x39a x39n x39c x41 hp _) ?_ (Ru 39 (Ru 41 (Ru 0 (Ru 1 (Ru 2 (Ru 40 Rn)))))) (Sc rfl (Sc rfl (Sc rfl (Sc rfl (Sc rfl (Sc rfl Sn)))))) Sn
      refine ⟨h.1, h.2.1, mN h.2.2 fun b_8 o_9 h => mL h fun l_10 h => mf h fun h => mf h fun h => mf h fun h => ?_⟩
      refine AWP.seq' ?_
      refine AWP.rgnD (by kernel_rfl) (by kernel_rfl) (F44_r5 (upd (upd (upd (upd (upd E0 41 (sI x41)) 40 (sI x40)) 39 (sS x39a x39n x39c)) 2 (sI x2)) 1 (sI x1)) x0a x0n x0c x41 (splice [.int .u8 0, .int .u8 0, .int .u8 0, .int .u8 0] 0 l_10) hp _) ?_ (Ru 0 (Ru 8 (RefOk.p 9 9 0 (Ru 1 (Ru 2 (Ru 39 (Ru 40 (Ru 41 Rn))))) (fun e => by cases e)))) (Sc rfl (Sc rfl (Sc rfl (Sc rfl (Sc rfl (Sc rfl (Sc rfl (Sc rfl Sn)))))))) (Sc rfl Sn)
      refine ⟨h.1, h.2.1, mL h.2.2 fun l_11 h => mC h fun u_12 h_13 h => mB h fun q_14 h => ?_⟩
      refine AWP.cond (t := q_14) rfl (fun e => ?_) (fun e => ?_)
      ·replace h := ite2_t h e
       refine AWP.seq' ?_
       refine AWP.rgn (F44_r6 E0  h_13 _) ?_ Rn Sn Sn
       refine AWP.ret ?_
       exact h
      ·replace h := ite2_f h e
       refine AWP.skip ?_
       refine AWP.rgn (F44_r7 (upd (upd (upd (upd (upd E0 40 (sI x40)) 39 (sS x39a x39n x39c)) 2 (sI x2)) 1 (sI x1)) 0 (sS x0a x0n x0c)) x41 h_13 _) ?_ (Ru 41 (Ru 0 (Ru 1 (Ru 2 (Ru 39 (Ru 40 Rn)))))) (Sc rfl (Sc rfl (Sc rfl (Sc rfl (Sc rfl (Sc rfl Sn)))))) Sn
       exact ⟨(wr (x41 + 1)), (Sc rfl (Sc rfl (Sc rfl (Sc rfl (Sc rfl (Sc rfl Sn)))))), Sn, h⟩
     ·replace h := ite2_f h e
      refine AWP.exit ?_
      exact ⟨x0a, x0n, x0c, x1, x2, (Sc rfl (Sc rfl (Sc rfl Sn))), Sn, h⟩
   ·rintro env pv hp ⟨x0a, x0n, x0c, x1, x2, he, hv, h⟩
    refine AWP.sub (env' := (upd (upd (upd E0 2 (sI x2)) 1 (sI x1)) 0 (sS x0a x0n x0c))) (pv' := V0) ?_ (Ru 0 (Ru 1 (Ru 2 Rn))) he hv (HSub.refl _)
    clear he hv
    unfold F44_j2 at h
    refine AWP.seq' ?_
    refine AWP.rgn (F44_r2 E0 x0a x0n x0c x1 x2 hp _) ?_ (Ru 0 (Ru 1 (Ru 2 Rn))) (Sc rfl (Sc rfl (Sc rfl Sn))) Sn
    refine mC h fun u_1 h_2 h => mS h fun a_3 n_4 c_5 h => ?_
    refine fun b_6 hb_b_6 => ?_
    replace h := h b_6 hb_b_6
    refine fun b_7 hb_b_7 => ?_
    replace h := h b_7 hb_b_7
    refine AWP.ret ?_
    exact h
end
-- 46 (*interpreter/pool.Pool).Take
section
variable (e : Env) (x0 : Option Addr) (x1 : List Value) (x2 : Int) (x3 : Bool) (x12 : Int) (x15 : Bool) (x32a : Option Addr) (x32n x32c : Nat) (x33 x34 : Int) (k5 k8 k11 k13 : List Value) (hp : HP) (K : Env → PV → HP → Prop)
abbrev R46 (p : List Nat) (n : Nat) := RW Try.prog 80 [5, 8, 11, 13] (opsAt Try.f46 p) (List.range n)
theorem F46_r0 : R46 [0] 3 (upd e 1 (sA x1)) V0 hp K =
    (K (upd (upd (upd (upd e 1 (sA x1)) 5 (sR 5 0)) 8 (sR 8 0)) 9 (sI 0)) (upd (upd V0 5 (73, x1)) 8 (75, [.int .u8 0, .int .u8 0, .int .u8 0, .int .u8 0, .int .i64 0])) hp) := by kernel_rfl
theorem F46_r1 : R46 [1, 0, 1, 0, 0] 3 (upd e 8 (sR 8 0)) (upd V0 8 (75, k8)) hp K =
    (if List.length [(Value.int .u8 0), .int .u8 0, .int .u8 0, .int .u8 0, .int .i64 0] = 5 then (if List.all [(Value.int .u8 0), .int .u8 0, .int .u8 0, .int .u8 0, .int .i64 0] one = true then (if 0 + List.length [(Value.int .u8 0), .int .u8 0, .int .u8 0, .int .u8 0, .int .i64 0] ≤ List.length k8 then (K (upd (upd (upd e 8 (sR 8 0)) 25 (sV (.agg ⟨[.int .u8 0, .int .u8 0, .int .u8 0, .int .u8 0, .int .i64 0]⟩))) 9 (sI 2)) (upd (upd V0 8 (75, k8)) 8 (75, (splice k8 0 [.int .u8 0, .int .u8 0, .int .u8 0, .int .u8 0, .int .i64 0]))) hp) else False) else False) else False) := by kernel_rfl
theorem F46_r2 : R46 [1, 1, 0, 0] 3 (upd e 2 (sI x2)) (upd (upd V0 8 (75, k8)) 5 (73, k5)) hp K =
    (CF Try.prog 74 [(.int .i64 x2)] hp fun u1 h2 => (boolV u1 fun q3 => (K (upd (upd (upd (upd e 2 (sI x2)) 26 (sI x2)) 27 (sB q3)) 28 (sB ((!q3)))) (upd (upd V0 8 (75, k8)) 5 (73, k5)) h2))) := by kernel_rfl
theorem F46_r3 : R46 [1, 1, 0, 1, 0, 0] 3 (upd e 8 (sR 8 0)) (upd V0 8 (75, k8)) hp K =
    (if List.length [(Value.int .u8 0), .int .u8 0, .int .u8 0, .int .u8 0, .int .i64 0] = 5 then (if List.all [(Value.int .u8 0), .int .u8 0, .int .u8 0, .int .u8 0, .int .i64 0] one = true then (if 0 + List.length [(Value.int .u8 0), .int .u8 0, .int .u8 0, .int .u8 0, .int .i64 0] ≤ List.length k8 then (K (upd (upd (upd e 8 (sR 8 0)) 29 (sV (.agg ⟨[.int .u8 0, .int .u8 0, .int .u8 0, .int .u8 0, .int .i64 0]⟩))) 9 (sI 1)) (upd (upd V0 8 (75, k8)) 8 (75, (splice k8 0 [.int .u8 0, .int .u8 0, .int .u8 0, .int .u8 0, .int .i64 0]))) hp) else False) else False) else False) := by kernel_rfl
theorem F46_r4 : R46 [1, 1, 1, 1, 0] 3 (upd e 8 (sR 8 0)) (upd V0 8 (75, k8)) hp K =
    (if List.length [(Value.int .u8 0), .int .u8 0, .int .u8 0, .int .u8 0, .int .i64 0] = 5 then (if List.all [(Value.int .u8 0), .int .u8 0, .int .u8 0, .int .u8 0, .int .i64 0] one = true then (if 0 + List.length [(Value.int .u8 0), .int .u8 0, .int .u8 0, .int .u8 0, .int .i64 0] ≤ List.length k8 then (K (upd (upd (upd e 8 (sR 8 0)) 79 (sV (.agg ⟨[.int .u8 0, .int .u8 0, .int .u8 0, .int .u8 0, .int .i64 0]⟩))) 9 (sI 6)) (upd (upd V0 8 (75, k8)) 8 (75, (splice k8 0 [.int .u8 0, .int .u8 0, .int .u8 0, .int .u8 0, .int .i64 0]))) hp) else False) else False) else False) := by kernel_rfl
def F46_j2 (k8 : List Value) (hp : HP) (K : Value → HP → Prop) : Prop :=
  (if List.length [(Value.int .u8 0), .int .u8 0, .int .u8 0, .int .u8 0, .int .i64 0] = 5 then (if List.all [(Value.int .u8 0), .int .u8 0, .int .u8 0, .int .u8 0, .int .i64 0] one = true then (if 0 + List.length [(Value.int .u8 0), .int .u8 0, .int .u8 0, .int .u8 0, .int .i64 0] ≤ List.length k8 then (ldL (cellsN (splice k8 0 [.int .u8 0, .int .u8 0, .int .u8 0, .int .u8 0, .int .i64 0]) 0 5) fun l_6 => (K (.tuple ⟨[(.agg ⟨l_6⟩), (.int .i64 6)]⟩) hp)) else False) else False) else False)
theorem F46_r5 : R46 [1, 1, 1, 0, 1, 0, 0, 0] 1 (upd (upd e 34 (sI x34)) 33 (sI x33)) (upd V0 8 (75, k8)) hp K =
    (K (upd (upd (upd e 34 (sI x34)) 33 (sI x33)) 35 (sB (decide (x34 < x33)))) (upd V0 8 (75, k8)) hp) := by kernel_rfl
theorem F46_r6 : R46 [1, 1, 1, 0, 1, 0, 0, 1, 1, 1] 2 (upd e 34 (sI x34)) (upd V0 8 (75, k8)) hp K =
    (K (upd (upd (upd e 34 (sI x34)) 78 (sI ((wr (x34 + 1))))) 34 (sI ((wr (x34 + 1))))) (upd V0 8 (75, k8)) hp) := by kernel_rfl
def F46_j5 (x0 : Option Addr) (x2 : Int) (x3 : Bool) (x32a : Option Addr) (x32n : Nat) (x32c : Nat) (x33 : Int) (x34 : Int) (k8 : List Value) (hp : HP) (I4 : (Int × (List Value)) → HP → Prop) (K : Value → HP → Prop) : Prop :=
  (I4 ((IntKind.wrap .i64 (x34 + 1)), k8) hp)
theorem F46_r7 : R46 [1, 1, 1, 0, 1, 0, 0, 1, 1, 0, 0, 0] 4 (upd (upd e 34 (sI x34)) 32 (sS x32a x32n x32c)) (upd V0 8 (75, k8)) hp K =
    ((0 ≤ x34) ∧ (x34 < x32n) ∧ (ptrN x32a fun b1 o2 => (ldL (HP.cellN hp b1 (o2 + Int.toNat x34 * 4) 4) fun l3 => (if List.length l3 = 4 then (if List.all l3 one = true then (if 0 + List.length l3 ≤ List.length [(Value.int .u8 0), .int .u8 0, .int .u8 0, .int .u8 0] then (K (upd (upd (upd (upd (upd e 34 (sI x34)) 32 (sS x32a x32n x32c)) 36 (sQ b1 (o2 + Int.toNat x34 * 4))) 37 (sA l3)) 11 (sR 11 0)) (upd (upd (upd V0 8 (75, k8)) 11 (73, [.int .u8 0, .int .u8 0, .int .u8 0, .int .u8 0])) 11 (73, (splice [.int .u8 0, .int .u8 0, .int .u8 0, .int .u8 0] 0 l3))) hp) else False) else False) else False)))) := by kernel_rfl
theorem F46_r8 : R46 [1, 1, 1, 0, 1, 0, 0, 1, 1, 0, 0, 1, 1, 0, 0, 0, 0] 6 (upd (upd e 12 (sI x12)) 0 (sP x0)) (upd (upd V0 11 (73, k11)) 8 (75, k8)) hp K =
    (ptrN x0 fun b1 o2 => (ldV (HP.cell hp b1 (o2 + 2)) fun v3 => (intV v3 .i64 fun i4 => (K (upd (upd (upd (upd (upd (upd (upd (upd e 12 (sI x12)) 0 (sP x0)) 42 (sI x12)) 43 (sP x0)) 44 (sQ b1 o2)) 45 (sQ b1 (o2 + 2))) 46 (sI i4)) 47 (sB (decide (x12 ≤ i4)))) (upd (upd V0 11 (73, k11)) 8 (75, k8)) hp)))) := by kernel_rfl
theorem F46_r9 : R46 [1, 1, 1, 0, 1, 0, 0, 1, 1, 0, 0, 1, 1, 0, 0, 1, 0, 0, 0] 5 (upd (upd e 12 (sI x12)) 11 (sR 11 0)) (upd (upd V0 11 (73, k11)) 8 (75, k8)) hp K =
    (ldL (cellsN k11 0 4) fun l1 => (if List.length l1 = 4 then (if List.length (List.set (splice [.int .u8 0, .int .u8 0, .int .u8 0, .int .u8 0, .int .i64 0] 0 l1) 4 (.int .i64 x12)) = 5 then (if List.all (List.set (splice [.int .u8 0, .int .u8 0, .int .u8 0, .int .u8 0, .int .i64 0] 0 l1) 4 (.int .i64 x12)) one = true then (if 0 + List.length (List.set (splice [.int .u8 0, .int .u8 0, .int .u8 0, .int .u8 0, .int .i64 0] 0 l1) 4 (.int .i64 x12)) ≤ List.length [(Value.int .u8 0), .int .u8 0, .int .u8 0, .int .u8 0, .int .i64 0] then (K (upd (upd (upd (upd (upd (upd e 12 (sI x12)) 11 (sR 11 0)) 50 (sA l1)) 51 (sI x12)) 52 (sV (.agg ⟨(List.set (splice [.int .u8 0, .int .u8 0, .int .u8 0, .int .u8 0, .int .i64 0] 0 l1) 4 (.int .i64 x12))⟩))) 13 (sR 13 0)) (upd (upd (upd (upd V0 11 (73, k11)) 8 (75, k8)) 13 (75, [.int .u8 0, .int .u8 0, .int .u8 0, .int .u8 0, .int .i64 0])) 13 (75, (splice [.int .u8 0, .int .u8 0, .int .u8 0, .int .u8 0, .int .i64 0] 0 (List.set (splice [.int .u8 0, .int .u8 0, .int .u8 0, .int .u8 0, .int .i64 0] 0 l1) 4 (.int .i64 x12))))) hp) else False) else False) else False) else False)) := by kernel_rfl
theorem F46_r10 : R46 [1, 1, 1, 0, 1, 0, 0, 1, 1, 0, 0, 1, 1, 0, 0, 1, 0, 0, 1, 0] 11 (upd (upd e 13 (sR 13 0)) 0 (sP x0)) (upd (upd (upd V0 13 (75, k13)) 11 (73, k11)) 8 (75, k8)) hp K =
    (ptrN x0 fun b1 o2 => (ldV (HP.cell hp b1 (o2 + 3)) fun v3 => (mapV v3 fun m4 => (ldL (cellsN k13 0 5) fun l5 => (rdS Try.prog (Instr.lookup 158 (.map m4) (.agg ⟨l5⟩) true) hp fun u6 => (tup2V u6 fun u7 u8 => (boolV u7 fun q9 => (boolV u8 fun q10 => (K (upd (upd (upd (upd (upd (upd (upd (upd (upd (upd (upd (upd (upd e 13 (sR 13 0)) 0 (sP x0)) 54 (sP x0)) 55 (sQ b1 o2)) 56 (sQ b1 (o2 + 3))) 57 (sV (.map m4))) 58 (sA l5)) 59 (sV (.tuple ⟨[(.bool q9), (.bool q10)]⟩))) 53 (sV (.tuple ⟨[(.bool q9), (.bool q10)]⟩))) 60 (sB q9)) 61 (sB q10)) 14 (sB q9)) 15 (sB q10)) (upd (upd (upd V0 13 (75, k13)) 11 (73, k11)) 8 (75, k8)) hp))))))))) := by kernel_rfl
theorem F46_r11 : R46 [1, 1, 1, 0, 1, 0, 0, 1, 1, 0, 0, 1, 1, 0, 0, 1, 0, 0, 1, 1, 1, 0, 0] 6 (upd (upd e 13 (sR 13 0)) 0 (sP x0)) (upd (upd V0 13 (75, k13)) 8 (75, k8)) hp K =
    (ptrN x0 fun b1 o2 => (ldV (HP.cell hp b1 (o2 + 3)) fun v3 => (mapV v3 fun m4 => (ldL (cellsN k13 0 5) fun l5 => (opS Try.prog (Instr.mapUpdate 158 (.map m4) (.agg ⟨l5⟩) (.bool false)) hp fun u6 h7 => (K (upd (upd (upd (upd (upd (upd (upd e 13 (sR 13 0)) 0 (sP x0)) 72 (sP x0)) 73 (sQ b1 o2)) 74 (sQ b1 (o2 + 3))) 75 (sV (.map m4))) 76 (sA l5)) (upd (upd V0 13 (75, k13)) 8 (75, k8)) h7)))))) := by kernel_rfl
theorem F46_r12 : R46 [1, 1, 1, 0, 1, 0, 0, 1, 1, 0, 0, 1, 1, 0, 0, 1, 0, 0, 1, 1, 1, 0, 1, 0] 3 (upd (upd e 13 (sR 13 0)) 8 (sR 8 0)) (upd (upd V0 13 (75, k13)) 8 (75, k8)) hp K =
    (ldL (cellsN k13 0 5) fun l1 => (if List.length l1 = 5 then (if List.all l1 one = true then (if 0 + List.length l1 ≤ List.length k8 then (K (upd (upd (upd (upd e 13 (sR 13 0)) 8 (sR 8 0)) 77 (sA l1)) 9 (sI 0)) (upd (upd (upd V0 13 (75, k13)) 8 (75, k8)) 8 (75, (splice k8 0 l1))) hp) else False) else False) else False)) := by kernel_rfl
theorem F46_r13 : R46 [1, 1, 1, 0, 1, 0, 0, 1, 1, 0, 0, 1, 1, 0, 0, 1, 1] 3 (upd e 12 (sI x12)) (upd (upd V0 11 (73, k11)) 8 (75, k8)) hp K =
    (K (upd (upd (upd (upd e 12 (sI x12)) 48 (sI x12)) 49 (sI ((wr (x12 + 1))))) 12 (sI ((wr (x12 + 1))))) (upd (upd V0 11 (73, k11)) 8 (75, k8)) hp) := by kernel_rfl
def F46_j8 (x0 : Option Addr) (x2 : Int) (x3 : Bool) (x12 : Int) (x32a : Option Addr) (x32n : Nat) (x32c : Nat) (x33 : Int) (x34 : Int) (x71 : Bool) (k8 : List Value) (k11 : List Value) (k13 : List Value) (hp : HP) (I4 : (Int × (List Value)) → HP → Prop) (I7 : (Int × (List Value)) → HP → Prop) (K : Value → HP → Prop) : Prop :=
  (ite2 x71 (ptrN x0 fun b_25 o_26 => (ldV (HP.cell hp b_25 (o_26 + 3)) fun v_27 => (mapV v_27 fun m_28 => (ldL (cellsN k13 0 5) fun l_29 => (opS Try.prog (Instr.mapUpdate 158 (.map m_28) (.agg ⟨l_29⟩) (.bool false)) hp fun u_30 h_31 => (ldL (cellsN k13 0 5) fun l_32 => (if List.length l_32 = 5 then (if List.all l_32 one = true then (if 0 + List.length l_32 ≤ List.length k8 then (ldL (cellsN (splice k8 0 l_32) 0 5) fun l_33 => (K (.tuple ⟨[(.agg ⟨l_33⟩), .int .i64 0]⟩) h_31)) else False) else False) else False))))))) (I7 ((IntKind.wrap .i64 (x12 + 1)), k8) hp))
theorem F46_r14 : R46 [1, 1, 1, 0, 1, 0, 0, 1, 1, 0, 0, 1, 1, 0, 0, 1, 0, 0, 1, 1, 0] 10 (upd (upd (upd (upd e 15 (sB x15)) 12 (sI x12)) 3 (sB x3)) 2 (sI x2)) (upd (upd (upd V0 13 (75, k13)) 11 (73, k11)) 8 (75, k8)) hp K =
    (ite2 (!x15) (ite2 x3 (K (upd (upd (upd (upd (upd (upd (upd (upd (upd (upd (upd (upd (upd (upd e 15 (sB x15)) 12 (sI x12)) 3 (sB x3)) 2 (sI x2)) 62 (sB x15)) 63 (sB ((!x15)))) 64 (sB true)) 65 (sB x3)) 66 (sB true)) 67 sU) 68 sU) 69 sU) 70 (sB true)) 71 (sB true)) (upd (upd (upd V0 13 (75, k13)) 11 (73, k11)) 8 (75, k8)) hp) (CF Try.prog 20 [(.int .i64 x2), (.int .i64 x12)] hp fun u1 h2 => (boolV u1 fun q3 => (K (upd (upd (upd (upd (upd (upd (upd (upd (upd (upd (upd (upd (upd (upd e 15 (sB x15)) 12 (sI x12)) 3 (sB x3)) 2 (sI x2)) 62 (sB x15)) 63 (sB ((!x15)))) 64 (sB true)) 65 (sB x3)) 66 (sB false)) 67 (sI x2)) 68 (sI x12)) 69 (sB q3)) 70 (sB q3)) 71 (sB q3)) (upd (upd (upd V0 13 (75, k13)) 11 (73, k11)) 8 (75, k8)) h2)))) (K (upd (upd (upd (upd (upd (upd (upd (upd (upd (upd (upd (upd (upd (upd e 15 (sB x15)) 12 (sI x12)) 3 (sB x3)) 2 (sI x2)) 62 (sB x15)) 63 (sB ((!x15)))) 64 (sB false)) 65 sU) 66 sU) 67 sU) 68 sU) 69 sU) 70 sU) 71 (sB false)) (upd (upd (upd V0 13 (75, k13)) 11 (73, k11)) 8 (75, k8)) hp)) := by kernel_rfl
def F46_l7 (x0 : Option Addr) (x2 : Int) (x3 : Bool) (x32a : Option Addr) (x32n : Nat) (x32c : Nat) (x33 : Int) (x34 : Int) (k11 : List Value) (I4 : (Int × (List Value)) → HP → Prop) (K : Value → HP → Prop) (I7 : (Int × (List Value)) → HP → Prop) (x12 : Int) (k8 : List Value) (hp : HP) : Prop :=
  (ptrN x0 fun b_10 o_11 => (ldV (HP.cell hp b_10 (o_11 + 2)) fun v_12 => (intV v_12 .i64 fun i_13 => (ite2 (decide (x12 ≤ i_13)) (ldL (cellsN k11 0 4) fun l_14 => (if List.length l_14 = 4 then (if List.length (List.set (splice [.int .u8 0, .int .u8 0, .int .u8 0, .int .u8 0, .int .i64 0] 0 l_14) 4 (.int .i64 x12)) = 5 then (if List.all (List.set (splice [.int .u8 0, .int .u8 0, .int .u8 0, .int .u8 0, .int .i64 0] 0 l_14) 4 (.int .i64 x12)) one = true then (if 0 + List.length (List.set (splice [.int .u8 0, .int .u8 0, .int .u8 0, .int .u8 0, .int .i64 0] 0 l_14) 4 (.int .i64 x12)) ≤ List.length [(Value.int .u8 0), .int .u8 0, .int .u8 0, .int .u8 0, .int .i64 0] then (ptrN x0 fun b_15 o_16 => (ldV (HP.cell hp b_15 (o_16 + 3)) fun v_17 => (mapV v_17 fun m_18 => (ldL (cellsN (splice [.int .u8 0, .int .u8 0, .int .u8 0, .int .u8 0, .int .i64 0] 0 (List.set (splice [.int .u8 0, .int .u8 0, .int .u8 0, .int .u8 0, .int .i64 0] 0 l_14) 4 (.int .i64 x12))) 0 5) fun l_19 => (rdS Try.prog (Instr.lookup 158 (.map m_18) (.agg ⟨l_19⟩) true) hp fun u_20 => (tup2V u_20 fun u_21 u_22 => (boolV u_21 fun q_23 => (boolV u_22 fun q_24 => (ite2 (!q_24) (ite2 x3 (F46_j8 x0 x2 x3 x12 x32a x32n x32c x33 x34 true k8 k11 (splice [.int .u8 0, .int .u8 0, .int .u8 0, .int .u8 0, .int .i64 0] 0 (List.set (splice [.int .u8 0, .int .u8 0, .int .u8 0, .int .u8 0, .int .i64 0] 0 l_14) 4 (.int .i64 x12))) hp I4 I7 K) (CF Try.prog 20 [(.int .i64 x2), (.int .i64 x12)] hp fun u_34 h_35 => (boolV u_34 fun q_36 => (F46_j8 x0 x2 x3 x12 x32a x32n x32c x33 x34 q_36 k8 k11 (splice [.int .u8 0, .int .u8 0, .int .u8 0, .int .u8 0, .int .i64 0] 0 (List.set (splice [.int .u8 0, .int .u8 0, .int .u8 0, .int .u8 0, .int .i64 0] 0 l_14) 4 (.int .i64 x12))) h_35 I4 I7 K)))) (F46_j8 x0 x2 x3 x12 x32a x32n x32c x33 x34 false k8 k11 (splice [.int .u8 0, .int .u8 0, .int .u8 0, .int .u8 0, .int .i64 0] 0 (List.set (splice [.int .u8 0, .int .u8 0, .int .u8 0, .int .u8 0, .int .i64 0] 0 l_14) 4 (.int .i64 x12))) hp I4 I7 K)))))))))) else False) else False) else False) else False)) (F46_j5 x0 x2 x3 x32a x32n x32c x33 x34 k8 hp I4 K)))))
def F46_j6 (x0 : Option Addr) (x2 : Int) (x3 : Bool) (x12 : Int) (x32a : Option Addr) (x32n : Nat) (x32c : Nat) (x33 : Int) (x34 : Int) (k8 : List Value) (k11 : List Value) (hp : HP) (I4 : (Int × (List Value)) → HP → Prop) (K : Value → HP → Prop) : Prop :=
  (LoopP (σ := Int × (List Value)) (fun I s hp => F46_l7 x0 x2 x3 x32a x32n x32c x33 x34 k11 I4 K I s.1 s.2 hp) (x12, k8) hp)
theorem F46_r15 : R46 [1, 1, 1, 0, 1, 0, 0, 1, 1, 0, 0, 1, 0] 5 (upd e 0 (sP x0)) (upd (upd V0 11 (73, k11)) 8 (75, k8)) hp K =
    (ptrN x0 fun b1 o2 => (ldV (HP.cell hp b1 (o2 + 1)) fun v3 => (intV v3 .i64 fun i4 => (K (upd (upd (upd (upd (upd (upd e 0 (sP x0)) 38 (sP x0)) 39 (sQ b1 o2)) 40 (sQ b1 (o2 + 1))) 41 (sI i4)) 12 (sI i4)) (upd (upd V0 11 (73, k11)) 8 (75, k8)) hp)))) := by kernel_rfl
def F46_l4 (x0 : Option Addr) (x2 : Int) (x3 : Bool) (x32a : Option Addr) (x32n : Nat) (x32c : Nat) (x33 : Int) (K : Value → HP → Prop) (I4 : (Int × (List Value)) → HP → Prop) (x34 : Int) (k8 : List Value) (hp : HP) : Prop :=
  (ite2 (decide (x34 < x33)) ((0 ≤ x34) ∧ (x34 < x32n) ∧ (ptrN x32a fun b_7 o_8 => (ldL (HP.cellN hp b_7 (o_8 + Int.toNat x34 * 4) 4) fun l_9 => (if List.length l_9 = 4 then (if List.all l_9 one = true then (if 0 + List.length l_9 ≤ List.length [(Value.int .u8 0), .int .u8 0, .int .u8 0, .int .u8 0] then (ptrN x0 fun b_37 o_38 => (ldV (HP.cell hp b_37 (o_38 + 1)) fun v_39 => (intV v_39 .i64 fun i_40 => (F46_j6 x0 x2 x3 i_40 x32a x32n x32c x33 x34 k8 (splice [.int .u8 0, .int .u8 0, .int .u8 0, .int .u8 0] 0 l_9) hp I4 K)))) else False) else False) else False)))) (F46_j2 k8 hp  K))
def F46_j3 (x0 : Option Addr) (x2 : Int) (x3 : Bool) (x32a : Option Addr) (x32n : Nat) (x32c : Nat) (x33 : Int) (x34 : Int) (k8 : List Value) (hp : HP) (K : Value → HP → Prop) : Prop :=
  (LoopP (σ := Int × (List Value)) (fun I s hp => F46_l4 x0 x2 x3 x32a x32n x32c x33  K I s.1 s.2 hp) (x34, k8) hp)
theorem F46_r16 : R46 [1, 1, 1, 0, 0] 5 (upd (upd e 5 (sR 5 0)) 0 (sP x0)) (upd (upd V0 8 (75, k8)) 5 (73, k5)) hp K =
    (ldL (cellsN k5 0 4) fun l1 => (CF Try.prog 99 [(.pointer x0), (.agg ⟨l1⟩)] hp fun u2 h3 => (slcV u2 fun a4 n5 c6 => (K (upd (upd (upd (upd (upd (upd (upd e 5 (sR 5 0)) 0 (sP x0)) 30 (sP x0)) 31 (sA l1)) 32 (sS a4 n5 c6)) 33 (sI ((n5 : Nat)))) 34 (sI 0)) (upd (upd V0 8 (75, k8)) 5 (73, k5)) h3)))) := by kernel_rfl
def F46_j1 (x0 : Option Addr) (x2 : Int) (x3 : Bool) (x24 : Bool) (k5 : List Value) (k8 : List Value) (hp : HP) (K : Value → HP → Prop) : Prop :=
  (ite2 x24 (if List.length [(Value.int .u8 0), .int .u8 0, .int .u8 0, .int .u8 0, .int .i64 0] = 5 then (if List.all [(Value.int .u8 0), .int .u8 0, .int .u8 0, .int .u8 0, .int .i64 0] one = true then (if 0 + List.length [(Value.int .u8 0), .int .u8 0, .int .u8 0, .int .u8 0, .int .i64 0] ≤ List.length k8 then (ldL (cellsN (splice k8 0 [.int .u8 0, .int .u8 0, .int .u8 0, .int .u8 0, .int .i64 0]) 0 5) fun l_1 => (K (.tuple ⟨[(.agg ⟨l_1⟩), (.int .i64 2)]⟩) hp)) else False) else False) else False) (CF Try.prog 74 [(.int .i64 x2)] hp fun u_2 h_3 => (boolV u_2 fun q_4 => (ite2 (!q_4) (if List.length [(Value.int .u8 0), .int .u8 0, .int .u8 0, .int .u8 0, .int .i64 0] = 5 then (if List.all [(Value.int .u8 0), .int .u8 0, .int .u8 0, .int .u8 0, .int .i64 0] one = true then (if 0 + List.length [(Value.int .u8 0), .int .u8 0, .int .u8 0, .int .u8 0, .int .i64 0] ≤ List.length k8 then (ldL (cellsN (splice k8 0 [.int .u8 0, .int .u8 0, .int .u8 0, .int .u8 0, .int .i64 0]) 0 5) fun l_5 => (K (.tuple ⟨[(.agg ⟨l_5⟩), (.int .i64 1)]⟩) h_3)) else False) else False) else False) (ldL (cellsN k5 0 4) fun l_41 => (CF Try.prog 99 [(.pointer x0), (.agg ⟨l_41⟩)] h_3 fun u_42 h_43 => (slcV u_42 fun a_44 n_45 c_46 => (F46_j3 x0 x2 x3 a_44 n_45 c_46 (n_45 : Nat) 0 k8 h_43  K))))))))
theorem F46_r17 : R46 [1, 0, 0] 9 (upd e 0 (sP x0)) (upd (upd V0 8 (75, k8)) 5 (73, k5)) hp K =
    (ite2 (Option.isNone x0) (K (upd (upd (upd (upd (upd (upd (upd (upd (upd (upd e 0 (sP x0)) 16 (sP x0)) 17 (sB ((Option.isNone x0)))) 18 (sB true)) 19 sU) 20 sU) 21 sU) 22 sU) 23 sU) 24 (sB true)) (upd (upd V0 8 (75, k8)) 5 (73, k5)) hp) (ptrN x0 fun b1 o2 => (ldV (HP.cell hp b1 (o2 + 3)) fun v3 => (mapV v3 fun m4 => (K (upd (upd (upd (upd (upd (upd (upd (upd (upd (upd e 0 (sP x0)) 16 (sP x0)) 17 (sB ((Option.isNone x0)))) 18 (sB false)) 19 (sP x0)) 20 (sQ b1 o2)) 21 (sQ b1 (o2 + 3))) 22 (sV (.map m4))) 23 (sB ((Option.isNone m4)))) 24 (sB ((Option.isNone m4)))) (upd (upd V0 8 (75, k8)) 5 (73, k5)) hp))))) := by kernel_rfl
def F46 (x0 : Option Addr) (x1 : List Value) (x2 : Int) (x3 : Bool) (hp : HP) (K : Value → HP → Prop) : Prop :=
  (ite2 (Option.isNone x0) (F46_j1 x0 x2 x3 true x1 [.int .u8 0, .int .u8 0, .int .u8 0, .int .u8 0, .int .i64 0] hp  K) (ptrN x0 fun b_47 o_48 => (ldV (HP.cell hp b_47 (o_48 + 3)) fun v_49 => (mapV v_49 fun m_50 => (F46_j1 x0 x2 x3 (Option.isNone m_50) x1 [.int .u8 0, .int .u8 0, .int .u8 0, .int .u8 0, .int .i64 0] hp  K)))))
noncomputable def F46_code : Code := (.seq (.region 0 (opsAt Try.f46 [0]) false) (.seq (.seq (.region 1 (opsAt Try.f46 [1, 0, 0]) false) (.cond (.tmp 24) (.seq (.region 2 (opsAt Try.f46 [1, 0, 1, 0, 0]) false) .ret) .skip)) (.seq (.seq (.region 3 (opsAt Try.f46 [1, 1, 0, 0]) false) (.cond (.tmp 28) (.seq (.region 4 (opsAt Try.f46 [1, 1, 0, 1, 0, 0]) false) .ret) .skip)) (.seq (.seq (.region 5 (opsAt Try.f46 [1, 1, 1, 0, 0]) false) (.block 0 (.loop (.seq (.region 6 (opsAt Try.f46 [1, 1, 1, 0, 1, 0, 0, 0]) false) (.seq (.cond (.tmp 35) .skip (.exit 0)) (.seq (.block 1 (.seq (.region 7 (opsAt Try.f46 [1, 1, 1, 0, 1, 0, 0, 1, 1, 0, 0, 0]) false) (.seq (.region 8 (opsAt Try.f46 [1, 1, 1, 0, 1, 0, 0, 1, 1, 0, 0, 1, 0]) false) (.block 2 (.loop (.seq (.seq (.region 9 (opsAt Try.f46 [1, 1, 1, 0, 1, 0, 0, 1, 1, 0, 0, 1, 1, 0, 0, 0, 0]) false) (.cond (.tmp 47) .skip (.exit 2))) (.seq (.block 3 (.seq (.region 11 (opsAt Try.f46 [1, 1, 1, 0, 1, 0, 0, 1, 1, 0, 0, 1, 1, 0, 0, 1, 0, 0, 0]) false) (.seq (.region 12 (opsAt Try.f46 [1, 1, 1, 0, 1, 0, 0, 1, 1, 0, 0, 1, 1, 0, 0, 1, 0, 0, 1, 0]) true) (.seq (.region 13 (opsAt Try.f46 [1, 1, 1, 0, 1, 0, 0, 1, 1, 0, 0, 1, 1, 0, 0, 1, 0, 0, 1, 1, 0]) false) (.cond (.tmp 71) (.seq (.region 14 (opsAt Try.f46 [1, 1, 1, 0, 1, 0, 0, 1, 1, 0, 0, 1, 1, 0, 0, 1, 0, 0, 1, 1, 1, 0, 0]) true) (.seq (.region 15 (opsAt Try.f46 [1, 1, 1, 0, 1, 0, 0, 1, 1, 0, 0, 1, 1, 0, 0, 1, 0, 0, 1, 1, 1, 0, 1, 0]) false) .ret)) .skip))))) (.region 10 (opsAt Try.f46 [1, 1, 1, 0, 1, 0, 0, 1, 1, 0, 0, 1, 1, 0, 0, 1, 1]) false)))))))) (.region 16 (opsAt Try.f46 [1, 1, 1, 0, 1, 0, 0, 1, 1, 1]) false))))))) (.seq (.region 17 (opsAt Try.f46 [1, 1, 1, 1, 0]) false) .ret)))))
theorem F46_body : Try.f46.body = some F46_code := by kernel_rfl
theorem F46_ok (x0 : Option Addr) (x1 : List Value) (x2 : Int) (x3 : Bool) (hp : HP) (K : Value → HP → Prop) (h : F46 x0 x1 x2 x3 hp K) : CF Try.prog 46 [(.pointer x0), (.agg ⟨x1⟩), (.int .i64 x2), (.bool x3)] hp K := by
 refine .inl ⟨by kernel_rfl, AC.intro (N := 80) Try.func46 F46_body rfl (Nat.le_of_ble_eq_true rfl) ?_⟩
 unfold F46 at h
 unfold F46_code
 refine AWP.seq' ?_
 refine AWP.rgn (F46_r0 (upd (upd (upd E0 3 (sB x3)) 2 (sI x2)) 0 (sP x0)) x1 hp _) ?_ (Ru 1 (Ru 0 (Ru 2 (Ru 3 Rn)))) (Sc rfl (Sc rfl (Sc rfl (Sc rfl Sn)))) Sn
 refine AWP.seq' ?_
 refine AWP.seq (fun env pv hp => ∃ (x0 : Option Addr) (x2 : Int) (x3 : Bool) (x24 : Bool) (k5 : List Value) (k8 : List Value), Sub (upd (upd (upd (upd (upd (upd E0 24 (sB x24)) 8 (sR 8 0)) 5 (sR 5 0)) 3 (sB x3)) 2 (sI x2)) 0 (sP x0)) env ∧ Sub (upd (upd V0 8 (75, k8)) 5 (73, k5)) pv ∧ (F46_j1 x0 x2 x3 x24 k5 k8 hp  K)) ?_ ?_
 ·refine AWP.rgn (F46_r17 (upd (upd (upd (upd E0 8 (sR 8 0)) 5 (sR 5 0)) 3 (sB x3)) 2 (sI x2)) x0 x1 [.int .u8 0, .int .u8 0, .int .u8 0, .int .u8 0, .int .i64 0] hp _) ?_ (Ru 0 (Ru 2 (Ru 3 (RefOk.p 5 5 0 (RefOk.p 8 8 0 Rn (fun e => by cases e)) (fun e => by cases e))))) (Sc rfl (Sc rfl (Sc rfl (Sc rfl (Sc rfl Sn))))) (Sc rfl (Sc rfl Sn))
  refine mt h (fun h => ?_) (fun h => ?_)
  ·exact ⟨x0, x2, x3, true, x1, [.int .u8 0, .int .u8 0, .int .u8 0, .int .u8 0, .int .i64 0], (Sc rfl (Sc rfl (Sc rfl (Sc rfl (Sc rfl (Sc rfl Sn)))))), (Sc rfl (Sc rfl Sn)), h⟩
  ·refine mN h fun b_47 o_48 h => mV h fun v_49 h => mM h fun m_50 h => ?_
   exact ⟨x0, x2, x3, (Option.isNone m_50), x1, [.int .u8 0, .int .u8 0, .int .u8 0, .int .u8 0, .int .i64 0], (Sc rfl (Sc rfl (Sc rfl (Sc rfl (Sc rfl (Sc rfl Sn)))))), (Sc rfl (Sc rfl Sn)), h⟩
 ·rintro env pv hp ⟨x0, x2, x3, x24, k5, k8, he, hv, h⟩
  refine AWP.sub (env' := (upd (upd (upd (upd (upd (upd E0 24 (sB x24)) 8 (sR 8 0)) 5 (sR 5 0)) 3 (sB x3)) 2 (sI x2)) 0 (sP x0))) (pv' := (upd (upd V0 8 (75, k8)) 5 (73, k5))) ?_ (Ru 0 (Ru 2 (Ru 3 (RefOk.p 5 5 0 (RefOk.p 8 8 0 (Ru 24 Rn) (fun e => by cases e)) (fun e => by cases e))))) he hv (HSub.refl _)
  clear he hv
  unfold F46_j1 at h
  refine AWP.cond (t := x24) rfl (fun e => ?_) (fun e => ?_)
  ·replace h := ite2_t h e
   refine AWP.seq' ?_
   refine AWP.rgn (F46_r1 E0 k8 hp _) ?_ (RefOk.p 8 8 0 Rn (fun e => by cases e)) (Sc rfl Sn) (Sc rfl Sn)
   refine mf h fun h => mf h fun h => mf h fun h => ?_
   refine AWP.ret ?_
   exact h
  ·replace h := ite2_f h e
   refine AWP.skip ?_
   refine AWP.seq' ?_
   refine AWP.seq' ?_
   refine AWP.rgn (F46_r2 (upd (upd (upd (upd E0 8 (sR 8 0)) 5 (sR 5 0)) 3 (sB x3)) 0 (sP x0)) x2 k5 k8 hp _) ?_ (Ru 2 (Ru 0 (Ru 3 (RefOk.p 5 5 0 (RefOk.p 8 8 0 Rn (fun e => by cases e)) (fun e => by cases e))))) (Sc rfl (Sc rfl (Sc rfl (Sc rfl (Sc rfl Sn))))) (Sc rfl (Sc rfl Sn))
   refine mC h fun u_2 h_3 h => mB h fun q_4 h => ?_
   refine AWP.cond (t := (!q_4)) rfl (fun e => ?_) (fun e => ?_)
   ·replace h := ite2_t h e
    refine AWP.seq' ?_
    refine AWP.rgn (F46_r3 E0 k8 h_3 _) ?_ (RefOk.p 8 8 0 Rn (fun e => by cases e)) (Sc rfl Sn) (Sc rfl Sn)
    refine mf h fun h => mf h fun h => mf h fun h => ?_
    refine AWP.ret ?_
    exact h
   ·replace h := ite2_f h e
    refine AWP.skip ?_
    refine AWP.seq (fun env pv hp => ∃ (k8 : List Value), Sub (upd E0 8 (sR 8 0)) env ∧ Sub (upd V0 8 (75, k8)) pv ∧ (F46_j2 k8 hp  K)) ?_ ?_
    ·refine AWP.seq (fun env pv hp => ∃ (x0 : Option Addr) (x2 : Int) (x3 : Bool) (x32a : Option Addr) (x32n : Nat) (x32c : Nat) (x33 : Int) (x34 : Int) (k8 : List Value), Sub (upd (upd (upd (upd (upd (upd (upd E0 34 (sI x34)) 33 (sI x33)) 32 (sS x32a x32n x32c)) 8 (sR 8 0)) 3 (sB x3)) 2 (sI x2)) 0 (sP x0)) env ∧ Sub (upd V0 8 (75, k8)) pv ∧ (F46_j3 x0 x2 x3 x32a x32n x32c x33 x34 k8 hp  K)) ?_ ?_
     ·refine AWP.rgn (F46_r16 (upd (upd (upd E0 8 (sR 8 0)) 3 (sB x3)) 2 (sI x2)) x0 k5 k8 h_3 _) ?_ (Ru 0 (RefOk.p 5 5 0 (Ru 2 (Ru 3 (RefOk.p 8 8 0 Rn (fun e => by cases e)))) (fun e => by cases e))) (Sc rfl (Sc rfl (Sc rfl (Sc rfl (Sc rfl Sn))))) (Sc rfl (Sc rfl Sn))
      refine mL h fun l_41 h => mC h fun u_42 h_43 h => mS h fun a_44 n_45 c_46 h => ?_
      exact ⟨x0, x2, x3, a_44, n_45, c_46, (n_45 : Nat), 0, k8, (Sc rfl (Sc rfl (Sc rfl (Sc rfl (Sc rfl (Sc rfl (Sc rfl Sn))))))), (Sc rfl Sn), h⟩
     ·rintro env pv hp ⟨x0, x2, x3, x32a, x32n, x32c, x33, x34, k8, he, hv, h⟩
      refine AWP.sub (env' := (upd (upd (upd (upd (upd (upd (upd E0 34 (sI x34)) 33 (sI x33)) 32 (sS x32a x32n x32c)) 8 (sR 8 0)) 3 (sB x3)) 2 (sI x2)) 0 (sP x0))) (pv' := (upd V0 8 (75, k8))) ?_ (Ru 0 (Ru 2 (Ru 3 (RefOk.p 8 8 0 (Ru 32 (Ru 33 (Ru 34 Rn))) (fun e => by cases e))))) he hv (HSub.refl _)
      clear he hv
      unfold F46_j3 at h
      refine AWP.block ?_
      refine AWP.loop (σ := Int × (List Value)) (fun I s hp => F46_l4 x0 x2 x3 x32a x32n x32c x33  K I s.1 s.2 hp) (fun s => (upd (upd (upd (upd (upd (upd (upd E0 34 (sI (s.1))) 33 (sI x33)) 32 (sS x32a x32n x32c)) 8 (sR 8 0)) 3 (sB x3)) 2 (sI x2)) 0 (sP x0))) (fun s => (upd V0 8 (75, s.2))) (x34, k8) h (fun s => (Ru 0 (Ru 2 (Ru 3 (RefOk.p 8 8 0 (Ru 32 (Ru 33 (Ru 34 Rn))) (fun e => by cases e)))))) (Sc rfl (Sc rfl (Sc rfl (Sc rfl (Sc rfl (Sc rfl (Sc rfl Sn))))))) (Sc rfl Sn) ?_
      intro I4 s hp h
      obtain ⟨x34, k8⟩ := s
      replace h : F46_l4 x0 x2 x3 x32a x32n x32c x33  K I4 x34 k8 hp := h
      unfold F46_l4 at h
      refine AWP.seq' ?_
      refine AWP.rgn (F46_r5 (upd (upd (upd (upd (upd E0 32 (sS x32a x32n x32c)) 8 (sR 8 0)) 3 (sB x3)) 2 (sI x2)) 0 (sP x0)) x33 x34 k8 hp _) ?_ (Ru 33 (Ru 34 (Ru 0 (Ru 2 (Ru 3 (RefOk.p 8 8 0 (Ru 32 Rn) (fun e => by cases e))))))) (Sc rfl (Sc rfl (Sc rfl (Sc rfl (Sc rfl (Sc rfl (Sc rfl Sn))))))) (Sc rfl Sn)
      refine AWP.seq' ?_
      refine AWP.cond (t := (decide (x34 < x33))) rfl (fun e => ?_) (fun e => ?_)
      ·replace h := ite2_t h e
       refine AWP.skip ?_
       refine AWP.seq (fun env pv hp => ∃ (x34 : Int) (k8 : List Value), Sub (upd (upd (upd (upd (upd (upd (upd E0 34 (sI x34)) 33 (sI x33)) 32 (sS x32a x32n x32c)) 8 (sR 8 0)) 3 (sB x3)) 2 (sI x2)) 0 (sP x0)) env ∧ Sub (upd V0 8 (75, k8)) pv ∧ (F46_j5 x0 x2 x3 x32a x32n x32c x33 x34 k8 hp I4 K)) ?_ ?_
       ·refine AWP.block ?_
        refine AWP.seq' ?_
        refine AWP.rgn (F46_r7 (upd (upd (upd (upd (upd E0 33 (sI x33)) 8 (sR 8 0)) 3 (sB x3)) 2 (sI x2)) 0 (sP x0)) x32a x32n x32c x34 k8 hp _) ?_ (Ru 32 (Ru 34 (Ru 0 (Ru 2 (Ru 3 (RefOk.p 8 8 0 (Ru 33 Rn) (fun e => by cases e))))))) (Sc rfl (Sc rfl (Sc rfl (Sc rfl (Sc rfl (Sc rfl (Sc rfl Sn))))))) (Sc rfl Sn)
        refine ⟨h.1, h.2.1, mN h.2.2 fun b_7 o_8 h => mL h fun l_9 h => mf h fun h => mf h fun h => mf h fun h => ?_⟩
        refine AWP.seq (fun env pv hp => ∃ (x12 : Int) (x34 : Int) (k8 : List Value) (k11 : List Value), Sub (upd (upd (upd (upd (upd (upd (upd (upd (upd E0 34 (sI x34)) 33 (sI x33)) 32 (sS x32a x32n x32c)) 12 (sI x12)) 11 (sR 11 0)) 8 (sR 8 0)) 3 (sB x3)) 2 (sI x2)) 0 (sP x0)) env ∧ Sub (upd (upd V0 11 (73, k11)) 8 (75, k8)) pv ∧ (F46_j6 x0 x2 x3 x12 x32a x32n x32c x33 x34 k8 k11 hp I4 K)) ?_ ?_
        ·refine AWP.rgn (F46_r15 (upd (upd (upd (upd (upd (upd (upd E0 34 (sI x34)) 33 (sI x33)) 32 (sS x32a x32n x32c)) 11 (sR 11 0)) 8 (sR 8 0)) 3 (sB x3)) 2 (sI x2)) x0 k8 (splice [.int .u8 0, .int .u8 0, .int .u8 0, .int .u8 0] 0 l_9) hp _) ?_ (Ru 0 (Ru 2 (Ru 3 (RefOk.p 8 8 0 (RefOk.p 11 11 0 (Ru 32 (Ru 33 (Ru 34 Rn))) (fun e => by cases e)) (fun e => by cases e))))) (Sc rfl (Sc rfl (Sc rfl (Sc rfl (Sc rfl (Sc rfl (Sc rfl (Sc rfl Sn)))))))) (Sc rfl (Sc rfl Sn))
         refine mN h fun b_37 o_38 h => mV h fun v_39 h => mI h fun i_40 h => ?_
         exact ⟨i_40, x34, k8, (splice [.int .u8 0, .int .u8 0, .int .u8 0, .int .u8 0] 0 l_9), (Sc rfl (Sc rfl (Sc rfl (Sc rfl (Sc rfl (Sc rfl (Sc rfl (Sc rfl (Sc rfl Sn))))))))), (Sc rfl (Sc rfl Sn)), h⟩
        ·rintro env pv hp ⟨x12, x34, k8, k11, he, hv, h⟩
         refine AWP.sub (env' := (upd (upd (upd (upd (upd (upd (upd (upd (upd E0 34 (sI x34)) 33 (sI x33)) 32 (sS x32a x32n x32c)) 12 (sI x12)) 11 (sR 11 0)) 8 (sR 8 0)) 3 (sB x3)) 2 (sI x2)) 0 (sP x0))) (pv' := (upd (upd V0 11 (73, k11)) 8 (75, k8))) ?_ (Ru 0 (Ru 2 (Ru 3 (RefOk.p 8 8 0 (RefOk.p 11 11 0 (Ru 12 (Ru 32 (Ru 33 (Ru 34 Rn)))) (fun e => by cases e)) (fun e => by cases e))))) he hv (HSub.refl _)
         clear he hv
         unfold F46_j6 at h
         refine AWP.block ?_
         refine AWP.loop (σ := Int × (List Value)) (fun I s hp => F46_l7 x0 x2 x3 x32a x32n x32c x33 x34 k11 I4 K I s.1 s.2 hp) (fun s => (upd (upd (upd (upd (upd (upd (upd (upd (upd E0 34 (sI x34)) 33 (sI x33)) 32 (sS x32a x32n x32c)) 12 (sI (s.1))) 11 (sR 11 0)) 8 (sR 8 0)) 3 (sB x3)) 2 (sI x2)) 0 (sP x0))) (fun s => (upd (upd V0 11 (73, k11)) 8 (75, s.2))) (x12, k8) h (fun s => (Ru 0 (Ru 2 (Ru 3 (RefOk.p 8 8 0 (RefOk.p 11 11 0 (Ru 12 (Ru 32 (Ru 33 (Ru 34 Rn)))) (fun e => by cases e)) (fun e => by cases e)))))) (Sc rfl (Sc rfl (Sc rfl (Sc rfl (Sc rfl (Sc rfl (Sc rfl (Sc rfl (Sc rfl Sn))))))))) (Sc rfl (Sc rfl Sn)) ?_
         intro I7 s hp h
         obtain ⟨x12, k8⟩ := s
         replace h : F46_l7 x0 x2 x3 x32a x32n x32c x33 x34 k11 I4 K I7 x12 k8 hp := h
         unfold F46_l7 at h
         refine AWP.seq' ?_
         refine AWP.seq' ?_
         refine AWP.rgn (F46_r8 (upd (upd (upd (upd (upd (upd (upd E0 34 (sI x34)) 33 (sI x33)) 32 (sS x32a x32n x32c)) 11 (sR 11 0)) 8 (sR 8 0)) 3 (sB x3)) 2 (sI x2)) x0 x12 k8 k11 hp _) ?_ (Ru 0 (Ru 12 (Ru 2 (Ru 3 (RefOk.p 8 8 0 (RefOk.p 11 11 0 (Ru 32 (Ru 33 (Ru 34 Rn))) (fun e => by cases e)) (fun e => by cases e)))))) (Sc rfl (Sc rfl (Sc rfl (Sc rfl (Sc rfl (Sc rfl (Sc rfl (Sc rfl (Sc rfl Sn))))))))) (Sc rfl (Sc rfl Sn))
         refine mN h fun b_10 o_11 h => mV h fun v_12 h => mI h fun i_13 h => ?_
         refine AWP.cond (t := (decide (x12 ≤ i_13))) rfl (fun e => ?_) (fun e => ?_)
         ·replace h := ite2_t h e
          refine AWP.skip ?_
          refine AWP.seq' ?_
          refine AWP.block ?_
          refine AWP.seq' ?_
          refine AWP.rgn (F46_r9 (upd (upd (upd (upd (upd (upd (upd E0 34 (sI x34)) 33 (sI x33)) 32 (sS x32a x32n x32c)) 8 (sR 8 0)) 3 (sB x3)) 2 (sI x2)) 0 (sP x0)) x12 k8 k11 hp _) ?_ (RefOk.p 11 11 0 (Ru 12 (Ru 0 (Ru 2 (Ru 3 (RefOk.p 8 8 0 (Ru 32 (Ru 33 (Ru 34 Rn))) (fun e => by cases e)))))) (fun e => by cases e)) (Sc rfl (Sc rfl (Sc rfl (Sc rfl (Sc rfl (Sc rfl (Sc rfl (Sc rfl (Sc rfl Sn))))))))) (Sc rfl (Sc rfl Sn))
          refine mL h fun l_14 h => mf h fun h => mf h fun h => mf h fun h => mf h fun h => ?_
          refine AWP.seq' ?_
          refine AWP.rgnD (by kernel_rfl) (by kernel_rfl) (F46_r10 (upd (upd (upd (upd (upd (upd (upd (upd E0 34 (sI x34)) 33 (sI x33)) 32 (sS x32a x32n x32c)) 12 (sI x12)) 11 (sR 11 0)) 8 (sR 8 0)) 3 (sB x3)) 2 (sI x2)) x0 k8 k11 (splice [.int .u8 0, .int .u8 0, .int .u8 0, .int .u8 0, .int .i64 0] 0 (List.set (splice [.int .u8 0, .int .u8 0, .int .u8 0, .int .u8 0, .int .i64 0] 0 l_14) 4 (.int .i64 x12))) hp _) ?_ (Ru 0 (RefOk.p 13 13 0 (Ru 2 (Ru 3 (RefOk.p 8 8 0 (RefOk.p 11 11 0 (Ru 12 (Ru 32 (Ru 33 (Ru 34 Rn)))) (fun e => by cases e)) (fun e => by cases e)))) (fun e => by cases e))) (Sc rfl (Sc rfl (Sc rfl (Sc rfl (Sc rfl (Sc rfl (Sc rfl (Sc rfl (Sc rfl (Sc rfl Sn)))))))))) (Sc rfl (Sc rfl (Sc rfl Sn)))
          refine mN h fun b_15 o_16 h => mV h fun v_17 h => mM h fun m_18 h => mL h fun l_19 h => mR h fun u_20 h => mT h fun u_21 u_22 h => mB h fun q_23 h => mB h fun q_24 h => ?_
          refine AWP.seq (fun env pv hp => ∃ (x12 : Int) (x71 : Bool) (k8 : List Value) (k13 : List Value), Sub (upd (upd (upd (upd (upd (upd (upd (upd (upd (upd (upd E0 71 (sB x71)) 34 (sI x34)) 33 (sI x33)) 32 (sS x32a x32n x32c)) 13 (sR 13 0)) 12 (sI x12)) 11 (sR 11 0)) 8 (sR 8 0)) 3 (sB x3)) 2 (sI x2)) 0 (sP x0)) env ∧ Sub (upd (upd (upd V0 13 (75, k13)) 11 (73, k11)) 8 (75, k8)) pv ∧ (F46_j8 x0 x2 x3 x12 x32a x32n x32c x33 x34 x71 k8 k11 k13 hp I4 I7 K)) ?_ ?_
          ·refine AWP.rgn (F46_r14 (upd (upd (upd (upd (upd (upd (upd E0 34 (sI x34)) 33 (sI x33)) 32 (sS x32a x32n x32c)) 13 (sR 13 0)) 11 (sR 11 0)) 8 (sR 8 0)) 0 (sP x0)) x2 x3 x12 q_24 k8 k11 (splice [.int .u8 0, .int .u8 0, .int .u8 0, .int .u8 0, .int .i64 0] 0 (List.set (splice [.int .u8 0, .int .u8 0, .int .u8 0, .int .u8 0, .int .i64 0] 0 l_14) 4 (.int .i64 x12))) hp _) ?_ (Ru 2 (Ru 3 (Ru 12 (Ru 15 (Ru 0 (RefOk.p 8 8 0 (RefOk.p 11 11 0 (RefOk.p 13 13 0 (Ru 32 (Ru 33 (Ru 34 Rn))) (fun e => by cases e)) (fun e => by cases e)) (fun e => by cases e))))))) (Sc rfl (Sc rfl (Sc rfl (Sc rfl (Sc rfl (Sc rfl (Sc rfl (Sc rfl (Sc rfl (Sc rfl (Sc rfl Sn))))))))))) (Sc rfl (Sc rfl (Sc rfl Sn)))
           refine mt h (fun h => ?_) (fun h => ?_)
           ·refine mt h (fun h => ?_) (fun h => ?_)
            ·exact ⟨x12, true, k8, (splice [.int .u8 0, .int .u8 0, .int .u8 0, .int .u8 0, .int .i64 0] 0 (List.set (splice [.int .u8 0, .int .u8 0, .int .u8 0, .int .u8 0, .int .i64 0] 0 l_14) 4 (.int .i64 x12))), (Sc rfl (Sc rfl (Sc rfl (Sc rfl (Sc rfl (Sc rfl (Sc rfl (Sc rfl (Sc rfl (Sc rfl (Sc rfl Sn))))))))))), (Sc rfl (Sc rfl (Sc rfl Sn))), h⟩
            ·refine mC h fun u_34 h_35 h => mB h fun q_36 h => ?_
             exact ⟨x12, q_36, k8, (splice [.int .u8 0, .int .u8 0, .int .u8 0, .int .u8 0, .int .i64 0] 0 (List.set (splice [.int .u8 0, .int .u8 0, .int .u8 0, .int .u8 0, .int .i64 0] 0 l_14) 4 (.int .i64 x12))), (Sc rfl (Sc rfl (Sc rfl (Sc rfl (Sc rfl (Sc rfl (Sc rfl (Sc rfl (Sc rfl (Sc rfl (Sc rfl Sn))))))))))), (Sc rfl (Sc rfl (Sc rfl Sn))), h⟩
           ·exact ⟨x12, false, k8, (splice [.int .u8 0, .int .u8 0, .int .u8 0, .int .u8 0, .int .i64 0] 0 (List.set (splice [.int .u8 0, .int .u8 0, .int .u8 0, .int .u8 0, .int .i64 0] 0 l_14) 4 (.int .i64 x12))), (Sc rfl (Sc rfl (Sc rfl (Sc rfl (Sc rfl (Sc rfl (Sc rfl (Sc rfl (Sc rfl (Sc rfl (Sc rfl Sn))))))))))), (Sc rfl (Sc rfl (Sc rfl Sn))), h⟩
          ·rintro env pv hp ⟨x12, x71, k8, k13, he, hv, h⟩
           refine AWP.sub (env' := (upd (upd (upd (upd (upd (upd (upd (upd (upd (upd (upd E0 71 (sB x71)) 34 (sI x34)) 33 (sI x33)) 32 (sS x32a x32n x32c)) 13 (sR 13 0)) 12 (sI x12)) 11 (sR 11 0)) 8 (sR 8 0)) 3 (sB x3)) 2 (sI x2)) 0 (sP x0))) (pv' := (upd (upd (upd V0 13 (75, k13)) 11 (73, k11)) 8 (75, k8))) ?_ (Ru 0 (Ru 2 (Ru 3 (RefOk.p 8 8 0 (RefOk.p 11 11 0 (Ru 12 (RefOk.p 13 13 0 (Ru 32 (Ru 33 (Ru 34 (Ru 71 Rn)))) (fun e => by cases e))) (fun e => by cases e)) (fun e => by cases e))))) he hv (HSub.refl _)
           clear he hv
           unfold F46_j8 at h
           refine AWP.cond (t := x71) rfl (fun e => ?_) (fun e => ?_)
           ·replace h := ite2_t h e
            refine AWP.seq' ?_
            refine AWP.rgnD (by kernel_rfl) (by kernel_rfl) (F46_r11 (upd E0 8 (sR 8 0)) x0 k8 k13 hp _) ?_ (Ru 0 (RefOk.p 13 13 0 (RefOk.p 8 8 0 Rn (fun e => by cases e)) (fun e => by cases e))) (Sc rfl (Sc rfl (Sc rfl Sn))) (Sc rfl (Sc rfl Sn))
            refine mN h fun b_25 o_26 h => mV h fun v_27 h => mM h fun m_28 h => mL h fun l_29 h => mO h fun u_30 h_31 h => ?_
            refine AWP.seq' ?_
            refine AWP.rgn (F46_r12 E0 k8 k13 h_31 _) ?_ (RefOk.p 8 8 0 (RefOk.p 13 13 0 Rn (fun e => by cases e)) (fun e => by cases e)) (Sc rfl (Sc rfl Sn)) (Sc rfl (Sc rfl Sn))
            refine mL h fun l_32 h => mf h fun h => mf h fun h => mf h fun h => ?_
            refine AWP.ret ?_
            exact h
           ·replace h := ite2_f h e
            refine AWP.skip ?_
            refine AWP.rgn (F46_r13 (upd (upd (upd (upd (upd (upd (upd (upd E0 34 (sI x34)) 33 (sI x33)) 32 (sS x32a x32n x32c)) 11 (sR 11 0)) 8 (sR 8 0)) 3 (sB x3)) 2 (sI x2)) 0 (sP x0)) x12 k8 k11 hp _) ?_ (Ru 12 (Ru 0 (Ru 2 (Ru 3 (RefOk.p 8 8 0 (RefOk.p 11 11 0 (Ru 32 (Ru 33 (Ru 34 Rn))) (fun e => by cases e)) (fun e => by cases e)))))) (Sc rfl (Sc rfl (Sc rfl (Sc rfl (Sc rfl (Sc rfl (Sc rfl (Sc rfl (Sc rfl Sn))))))))) (Sc rfl (Sc rfl Sn))
            exact ⟨((wr (x12 + 1)), k8), (Sc rfl (Sc rfl (Sc rfl (Sc rfl (Sc rfl (Sc rfl (Sc rfl (Sc rfl (Sc rfl Sn))))))))), (Sc rfl (Sc rfl Sn)), h⟩
         ·replace h := ite2_f h e
          refine AWP.exit ?_
          exact ⟨x34, k8, (Sc rfl (Sc rfl (Sc rfl (Sc rfl (Sc rfl (Sc rfl (Sc rfl Sn))))))), (Sc rfl Sn), h⟩
       ·rintro env pv hp ⟨x34, k8, he, hv, h⟩
        refine AWP.sub (env' := (upd (upd (upd (upd (upd (upd (upd E0 34 (sI x34)) 33 (sI x33)) 32 (sS x32a x32n x32c)) 8 (sR 8 0)) 3 (sB x3)) 2 (sI x2)) 0 (sP x0))) (pv' := (upd V0 8 (75, k8))) ?_ (Ru 0 (Ru 2 (Ru 3 (RefOk.p 8 8 0 (Ru 32 (Ru 33 (Ru 34 Rn))) (fun e => by cases e))))) he hv (HSub.refl _)
        clear he hv
        unfold F46_j5 at h
        refine AWP.rgn (F46_r6 (upd (upd (upd (upd (upd (upd E0 33 (sI x33)) 32 (sS x32a x32n x32c)) 8 (sR 8 0)) 3 (sB x3)) 2 (sI x2)) 0 (sP x0)) x34 k8 hp _) ?_ (Ru 34 (Ru 0 (Ru 2 (Ru 3 (RefOk.p 8 8 0 (Ru 32 (Ru 33 Rn)) (fun e => by cases e)))))) (Sc rfl (Sc rfl (Sc rfl (Sc rfl (Sc rfl (Sc rfl (Sc rfl Sn))))))) (Sc rfl Sn)
        exact ⟨((wr (x34 + 1)), k8), (Sc rfl (Sc rfl (Sc rfl (Sc rfl (Sc rfl (Sc rfl (Sc rfl Sn))))))), (Sc rfl Sn), h⟩
      ·replace h := ite2_f h e
       refine AWP.exit ?_
       exact ⟨k8, (Sc rfl Sn), (Sc rfl Sn), h⟩
    ·rintro env pv hp ⟨k8, he, hv, h⟩
     refine AWP.sub (env' := (upd E0 8 (sR 8 0))) (pv' := (upd V0 8 (75, k8))) ?_ (RefOk.p 8 8 0 Rn (fun e => by cases e)) he hv (HSub.refl _)
     clear he hv
     unfold F46_j2 at h
     refine AWP.seq' ?_
     refine AWP.rgn (F46_r4 E0 k8 hp _) ?_ (RefOk.p 8 8 0 Rn (fun e => by cases e)) (Sc rfl Sn) (Sc rfl Sn)
     refine mf h fun h => mf h fun h => mf h fun h => ?_
     refine AWP.ret ?_
     exact h
end
-- 52 interpreter/interpreterlaw18.one
section
variable (e : Env) (k0 : List Value) (hp : HP) (K : Env → PV → HP → Prop)
abbrev R52 (p : List Nat) (n : Nat) := RW Try.prog 2 [0] (opsAt Try.f52 p) (List.range n)
theorem F52_r0 : R52 [0] 1 e V0 hp K =
    (K (upd e 0 (sR 0 0)) (upd V0 0 (73, [.int .u8 0, .int .u8 0, .int .u8 0, .int .u8 0])) hp) := by kernel_rfl
theorem F52_r1 : R52 [1, 0] 2 (upd e 0 (sR 0 0)) (upd V0 0 (73, k0)) hp K =
    (if List.length [(Value.int .u8 1), .int .u8 0, .int .u8 0, (.int .u8 1)] = 4 then (if List.all [(Value.int .u8 1), .int .u8 0, .int .u8 0, (.int .u8 1)] one = true then (if 0 + List.length [(Value.int .u8 1), .int .u8 0, .int .u8 0, (.int .u8 1)] ≤ List.length k0 then (K (upd (upd e 0 (sR 0 0)) 1 (sV (.agg ⟨[(.int .u8 1), .int .u8 0, .int .u8 0, (.int .u8 1)]⟩))) (upd (upd V0 0 (73, k0)) 0 (73, (splice k0 0 [(.int .u8 1), .int .u8 0, .int .u8 0, (.int .u8 1)]))) hp) else False) else False) else False) := by kernel_rfl
def F52 (hp : HP) (K : Value → HP → Prop) : Prop :=
  (if List.length [(Value.int .u8 1), .int .u8 0, .int .u8 0, (.int .u8 1)] = 4 then (if List.all [(Value.int .u8 1), .int .u8 0, .int .u8 0, (.int .u8 1)] one = true then (if 0 + List.length [(Value.int .u8 1), .int .u8 0, .int .u8 0, (.int .u8 1)] ≤ List.length [(Value.int .u8 0), .int .u8 0, .int .u8 0, .int .u8 0] then (ldL (cellsN (splice [.int .u8 0, .int .u8 0, .int .u8 0, .int .u8 0] 0 [(.int .u8 1), .int .u8 0, .int .u8 0, (.int .u8 1)]) 0 4) fun l_1 => (K (.agg ⟨l_1⟩) hp)) else False) else False) else False)
noncomputable def F52_code : Code := (.seq (.region 0 (opsAt Try.f52 [0]) false) (.seq (.region 1 (opsAt Try.f52 [1, 0]) false) .ret))
theorem F52_body : Try.f52.body = some F52_code := by kernel_rfl
theorem F52_ok (hp : HP) (K : Value → HP → Prop) (h : F52  hp K) : CF Try.prog 52 [] hp K := by
 refine .inl ⟨by kernel_rfl, AC.intro (N := 2) Try.func52 F52_body rfl (Nat.le_of_ble_eq_true rfl) ?_⟩
 unfold F52 at h
 unfold F52_code
 refine AWP.seq' ?_
 refine AWP.rgn (F52_r0 E0  hp _) ?_ Rn Sn Sn
 refine AWP.seq' ?_
 refine AWP.rgn (F52_r1 E0 [.int .u8 0, .int .u8 0, .int .u8 0, .int .u8 0] hp _) ?_ (RefOk.p 0 0 0 Rn (fun e => by cases e)) (Sc rfl Sn) (Sc rfl Sn)
 refine mf h fun h => mf h fun h => mf h fun h => ?_
 refine AWP.ret ?_
 exact h
end
-- 53 interpreter/interpreterlaw18.two
section
variable (e : Env) (k0 : List Value) (hp : HP) (K : Env → PV → HP → Prop)
abbrev R53 (p : List Nat) (n : Nat) := RW Try.prog 2 [0] (opsAt Try.f53 p) (List.range n)
theorem F53_r0 : R53 [0] 1 e V0 hp K =
    (K (upd e 0 (sR 0 0)) (upd V0 0 (73, [.int .u8 0, .int .u8 0, .int .u8 0, .int .u8 0])) hp) := by kernel_rfl
theorem F53_r1 : R53 [1, 0] 2 (upd e 0 (sR 0 0)) (upd V0 0 (73, k0)) hp K =
    (if List.length [(Value.int .u8 1), .int .u8 0, .int .u8 0, (.int .u8 2)] = 4 then (if List.all [(Value.int .u8 1), .int .u8 0, .int .u8 0, (.int .u8 2)] one = true then (if 0 + List.length [(Value.int .u8 1), .int .u8 0, .int .u8 0, (.int .u8 2)] ≤ List.length k0 then (K (upd (upd e 0 (sR 0 0)) 1 (sV (.agg ⟨[(.int .u8 1), .int .u8 0, .int .u8 0, (.int .u8 2)]⟩))) (upd (upd V0 0 (73, k0)) 0 (73, (splice k0 0 [(.int .u8 1), .int .u8 0, .int .u8 0, (.int .u8 2)]))) hp) else False) else False) else False) := by kernel_rfl
def F53 (hp : HP) (K : Value → HP → Prop) : Prop :=
  (if List.length [(Value.int .u8 1), .int .u8 0, .int .u8 0, (.int .u8 2)] = 4 then (if List.all [(Value.int .u8 1), .int .u8 0, .int .u8 0, (.int .u8 2)] one = true then (if 0 + List.length [(Value.int .u8 1), .int .u8 0, .int .u8 0, (.int .u8 2)] ≤ List.length [(Value.int .u8 0), .int .u8 0, .int .u8 0, .int .u8 0] then (ldL (cellsN (splice [.int .u8 0, .int .u8 0, .int .u8 0, .int .u8 0] 0 [(.int .u8 1), .int .u8 0, .int .u8 0, (.int .u8 2)]) 0 4) fun l_1 => (K (.agg ⟨l_1⟩) hp)) else False) else False) else False)
noncomputable def F53_code : Code := (.seq (.region 0 (opsAt Try.f53 [0]) false) (.seq (.region 1 (opsAt Try.f53 [1, 0]) false) .ret))
theorem F53_body : Try.f53.body = some F53_code := by kernel_rfl
theorem F53_ok (hp : HP) (K : Value → HP → Prop) (h : F53  hp K) : CF Try.prog 53 [] hp K := by
 refine .inl ⟨by kernel_rfl, AC.intro (N := 2) Try.func53 F53_body rfl (Nat.le_of_ble_eq_true rfl) ?_⟩
 unfold F53 at h
 unfold F53_code
 refine AWP.seq' ?_
 refine AWP.rgn (F53_r0 E0  hp _) ?_ Rn Sn Sn
 refine AWP.seq' ?_
 refine AWP.rgn (F53_r1 E0 [.int .u8 0, .int .u8 0, .int .u8 0, .int .u8 0] hp _) ?_ (RefOk.p 0 0 0 Rn (fun e => by cases e)) (Sc rfl Sn) (Sc rfl Sn)
 refine mf h fun h => mf h fun h => mf h fun h => ?_
 refine AWP.ret ?_
 exact h
end
-- 74 interpreter/pool.port
section
variable (e : Env) (x0 : Int) (hp : HP) (K : Env → PV → HP → Prop)
abbrev R74 (p : List Nat) (n : Nat) := RW Try.prog 9 [] (opsAt Try.f74 p) (List.range n)
theorem F74_r0 : R74 [0] 1 e V0 hp K =
    (K (upd e 2 (sB false)) V0 hp) := by kernel_rfl
theorem F74_r1 : R74 [1, 0] 7 (upd e 0 (sI x0)) V0 hp K =
    (ite2 (decide (x0 ≥ 0)) (K (upd (upd (upd (upd (upd (upd (upd (upd e 0 (sI x0)) 3 (sI x0)) 4 (sB (decide (x0 ≥ 0)))) 5 (sB true)) 6 (sI x0)) 7 (sB (decide (x0 ≤ 65535)))) 8 (sB (decide (x0 ≤ 65535)))) 2 (sB (decide (x0 ≤ 65535)))) V0 hp) (K (upd (upd (upd (upd (upd (upd (upd (upd e 0 (sI x0)) 3 (sI x0)) 4 (sB (decide (x0 ≥ 0)))) 5 (sB false)) 6 sU) 7 sU) 8 (sB false)) 2 (sB false)) V0 hp)) := by kernel_rfl
def F74 (x0 : Int) (hp : HP) (K : Value → HP → Prop) : Prop :=
  (ite2 (decide (x0 ≥ 0)) (K (.bool (decide (x0 ≤ 65535))) hp) (K (.bool false) hp))
noncomputable def F74_code : Code := (.seq (.region 0 (opsAt Try.f74 [0]) false) (.seq (.region 1 (opsAt Try.f74 [1, 0]) false) .ret))
theorem F74_body : Try.f74.body = some F74_code := by kernel_rfl
theorem F74_ok (x0 : Int) (hp : HP) (K : Value → HP → Prop) (h : F74 x0 hp K) : CF Try.prog 74 [(.int .i64 x0)] hp K := by
 refine .inl ⟨by kernel_rfl, AC.intro (N := 9) Try.func74 F74_body rfl (Nat.le_of_ble_eq_true rfl) ?_⟩
 unfold F74 at h
 unfold F74_code
 refine AWP.seq' ?_
 refine AWP.rgn (F74_r0 (upd E0 0 (sI x0))  hp _) ?_ (Ru 0 Rn) (Sc rfl Sn) Sn
 refine AWP.seq' ?_
 refine AWP.rgn (F74_r1 E0 x0 hp _) ?_ (Ru 0 Rn) (Sc rfl Sn) Sn
 refine mt h (fun h => ?_) (fun h => ?_)
 ·refine AWP.ret ?_
  exact h
 ·refine AWP.ret ?_
  exact h
end
-- 92 slices.Contains[[]interpreter/api.V4,interpreter/api.V4]
section
variable (e : Env) (x0a : Option Addr) (x0n x0c : Nat) (x1 k3 : List Value) (hp : HP) (K : Env → PV → HP → Prop)
abbrev R92 (p : List Nat) (n : Nat) := RW Try.prog 9 [3] (opsAt Try.f92 p) (List.range n)
theorem F92_r0 : R92 [0] 2 (upd e 1 (sA x1)) V0 hp K =
    (K (upd (upd (upd e 1 (sA x1)) 3 (sR 3 0)) 4 (sB false)) (upd V0 3 (73, x1)) hp) := by kernel_rfl
theorem F92_r1 : R92 [1, 0] 5 (upd (upd e 3 (sR 3 0)) 0 (sS x0a x0n x0c)) (upd V0 3 (73, k3)) hp K =
    (ldL (cellsN k3 0 4) fun l1 => (CF Try.prog 98 [(.slice x0a x0n x0c), (.agg ⟨l1⟩)] hp fun u2 h3 => (intV u2 .i64 fun i4 => (K (upd (upd (upd (upd (upd (upd (upd e 3 (sR 3 0)) 0 (sS x0a x0n x0c)) 5 (sS x0a x0n x0c)) 6 (sA l1)) 7 (sI i4)) 8 (sB (decide (i4 ≥ 0)))) 4 (sB (decide (i4 ≥ 0)))) (upd V0 3 (73, k3)) h3)))) := by kernel_rfl
def F92 (x0a : Option Addr) (x0n : Nat) (x0c : Nat) (x1 : List Value) (hp : HP) (K : Value → HP → Prop) : Prop :=
  (ldL (cellsN x1 0 4) fun l_1 => (CF Try.prog 98 [(.slice x0a x0n x0c), (.agg ⟨l_1⟩)] hp fun u_2 h_3 => (intV u_2 .i64 fun i_4 => (K (.bool (decide (i_4 ≥ 0))) h_3))))
noncomputable def F92_code : Code := (.seq (.region 0 (opsAt Try.f92 [0]) false) (.seq (.region 1 (opsAt Try.f92 [1, 0]) false) .ret))
theorem F92_body : Try.f92.body = some F92_code := by kernel_rfl
theorem F92_ok (x0a : Option Addr) (x0n : Nat) (x0c : Nat) (x1 : List Value) (hp : HP) (K : Value → HP → Prop) (h : F92 x0a x0n x0c x1 hp K) : CF Try.prog 92 [(.slice x0a x0n x0c), (.agg ⟨x1⟩)] hp K := by
 refine .inl ⟨by kernel_rfl, AC.intro (N := 9) Try.func92 F92_body rfl (Nat.le_of_ble_eq_true rfl) ?_⟩
 unfold F92 at h
 unfold F92_code
 refine AWP.seq' ?_
 refine AWP.rgn (F92_r0 (upd E0 0 (sS x0a x0n x0c)) x1 hp _) ?_ (Ru 1 (Ru 0 Rn)) (Sc rfl (Sc rfl Sn)) Sn
 refine AWP.seq' ?_
 refine AWP.rgn (F92_r1 E0 x0a x0n x0c x1 hp _) ?_ (Ru 0 (RefOk.p 3 3 0 Rn (fun e => by cases e))) (Sc rfl (Sc rfl Sn)) (Sc rfl Sn)
 refine mL h fun l_1 h => mC h fun u_2 h_3 h => mI h fun i_4 h => ?_
 refine AWP.ret ?_
 exact h
end
-- 93 slices.Clone[[]interpreter/api.V4,interpreter/api.V4]
section
variable (e : Env) (x0a : Option Addr) (x0n x0c : Nat) (hp : HP) (K : Env → PV → HP → Prop)
abbrev R93 (p : List Nat) (n : Nat) := RW Try.prog 8 [] (opsAt Try.f93 p) (List.range n)
theorem F93_r0 : R93 [0] 1 e V0 hp K =
    (K (upd e 2 (sS none 0 0)) V0 hp) := by kernel_rfl
theorem F93_r1 : R93 [1, 0, 0] 2 (upd e 0 (sS x0a x0n x0c)) V0 hp K =
    (K (upd (upd (upd e 0 (sS x0a x0n x0c)) 3 (sS x0a x0n x0c)) 4 (sB ((Option.isNone x0a)))) V0 hp) := by kernel_rfl
theorem F93_r2 : R93 [1, 0, 1, 0, 0] 1 e V0 hp K =
    (K (upd e 2 (sS none 0 0)) V0 hp) := by kernel_rfl
theorem F93_r3 : R93 [1, 1, 0] 4 (upd e 0 (sS x0a x0n x0c)) V0 hp K =
    (∀ b1 : Nat, hp b1 = .none → (opS Try.prog (Builtin.append_ #[66, 66] 66 ⟨[(.slice (some ⟨b1, 0, none⟩) 0 0), (.slice x0a x0n x0c)]⟩) (HP.set hp b1 (.cells 73 [] 0)) fun u2 h3 => (slcV u2 fun a4 n5 c6 => (K (upd (upd (upd (upd (upd e 0 (sS x0a x0n x0c)) 5 (sV (.slice (some ⟨b1, 0, none⟩) 0 0))) 6 (sS x0a x0n x0c)) 7 (sS a4 n5 c6)) 2 (sS a4 n5 c6)) V0 h3)))) := by kernel_rfl
def F93 (x0a : Option Addr) (x0n : Nat) (x0c : Nat) (hp : HP) (K : Value → HP → Prop) : Prop :=
  (ite2 (Option.isNone x0a) (K (.slice none 0 0) hp) (∀ b_1 : Nat, hp b_1 = .none → (opS Try.prog (Builtin.append_ #[66, 66] 66 ⟨[(.slice (some ⟨b_1, 0, none⟩) 0 0), (.slice x0a x0n x0c)]⟩) (HP.set hp b_1 (.cells 73 [] 0)) fun u_2 h_3 => (slcV u_2 fun a_4 n_5 c_6 => (K (.slice a_4 n_5 c_6) h_3)))))
noncomputable def F93_code : Code := (.seq (.region 0 (opsAt Try.f93 [0]) false) (.seq (.seq (.region 1 (opsAt Try.f93 [1, 0, 0]) false) (.cond (.tmp 4) (.seq (.region 2 (opsAt Try.f93 [1, 0, 1, 0, 0]) false) .ret) .skip)) (.seq (.region 3 (opsAt Try.f93 [1, 1, 0]) false) .ret)))
theorem F93_body : Try.f93.body = some F93_code := by kernel_rfl
theorem F93_ok (x0a : Option Addr) (x0n : Nat) (x0c : Nat) (hp : HP) (K : Value → HP → Prop) (h : F93 x0a x0n x0c hp K) : CF Try.prog 93 [(.slice x0a x0n x0c)] hp K := by
 refine .inl ⟨by kernel_rfl, AC.intro (N := 8) Try.func93 F93_body rfl (Nat.le_of_ble_eq_true rfl) ?_⟩
 unfold F93 at h
 unfold F93_code
 refine AWP.seq' ?_
 refine AWP.rgn (F93_r0 (upd E0 0 (sS x0a x0n x0c))  hp _) ?_ (Ru 0 Rn) (Sc rfl Sn) Sn
 refine AWP.seq' ?_
 refine AWP.seq' ?_
 refine AWP.rgn (F93_r1 E0 x0a x0n x0c hp _) ?_ (Ru 0 Rn) (Sc rfl Sn) Sn
 refine AWP.cond (t := (Option.isNone x0a)) rfl (fun e => ?_) (fun e => ?_)
 ·replace h := ite2_t h e
  refine AWP.seq' ?_
  refine AWP.rgn (F93_r2 E0  hp _) ?_ Rn Sn Sn
  refine AWP.ret ?_
  exact h
 ·replace h := ite2_f h e
  refine AWP.skip ?_
  refine AWP.seq' ?_
  refine AWP.rgn (F93_r3 E0 x0a x0n x0c hp _) ?_ (Ru 0 Rn) (Sc rfl Sn) Sn
  refine fun b_1 hb_b_1 => ?_
  replace h := h b_1 hb_b_1
  refine mO h fun u_2 h_3 h => mS h fun a_4 n_5 c_6 h => ?_
  refine AWP.ret ?_
  exact h
end
-- 98 slices.Index[[]interpreter/api.V4,interpreter/api.V4]
section
variable (e : Env) (x0a : Option Addr) (x0n x0c : Nat) (x1 : List Value) (x5 x7 x8 : Int) (k3 : List Value) (hp : HP) (K : Env → PV → HP → Prop)
abbrev R98 (p : List Nat) (n : Nat) := RW Try.prog 19 [3] (opsAt Try.f98 p) (List.range n)
theorem F98_r0 : R98 [0] 2 (upd e 1 (sA x1)) V0 hp K =
    (K (upd (upd (upd e 1 (sA x1)) 3 (sR 3 0)) 4 (sI 0)) (upd V0 3 (73, x1)) hp) := by kernel_rfl
theorem F98_r1 : R98 [1, 0, 1, 0, 0, 0] 1 (upd (upd e 8 (sI x8)) 7 (sI x7)) (upd V0 3 (73, k3)) hp K =
    (K (upd (upd (upd e 8 (sI x8)) 7 (sI x7)) 9 (sB (decide (x8 < x7)))) (upd V0 3 (73, k3)) hp) := by kernel_rfl
theorem F98_r2 : R98 [1, 0, 1, 0, 0, 1, 1, 0, 0, 0] 2 (upd e 8 (sI x8)) (upd V0 3 (73, k3)) hp K =
    (K (upd (upd (upd e 8 (sI x8)) 10 (sI x8)) 5 (sI x8)) (upd V0 3 (73, k3)) hp) := by kernel_rfl
theorem F98_r3 : R98 [1, 0, 1, 0, 0, 1, 1, 0, 0, 1, 0] 6 (upd (upd (upd e 5 (sI x5)) 3 (sR 3 0)) 0 (sS x0a x0n x0c)) (upd V0 3 (73, k3)) hp K =
    (ldL (cellsN k3 0 4) fun l1 => ((0 ≤ x5) ∧ (x5 < x0n) ∧ (ptrN x0a fun b2 o3 => (ldL (HP.cellN hp b2 (o3 + Int.toNat x5 * 4) 4) fun l4 => (eqAgg Try.prog 73 l1 l4 fun q5 => (K (upd (upd (upd (upd (upd (upd (upd (upd (upd e 5 (sI x5)) 3 (sR 3 0)) 0 (sS x0a x0n x0c)) 11 (sA l1)) 12 (sS x0a x0n x0c)) 13 (sI x5)) 14 (sQ b2 (o3 + Int.toNat x5 * 4))) 15 (sA l4)) 16 (sB q5)) (upd V0 3 (73, k3)) hp)))))) := by kernel_rfl
theorem F98_r4 : R98 [1, 0, 1, 0, 0, 1, 1, 0, 0, 1, 1, 0, 0] 2 (upd e 5 (sI x5)) V0 hp K =
    (K (upd (upd (upd e 5 (sI x5)) 17 (sI x5)) 4 (sI x5)) V0 hp) := by kernel_rfl
theorem F98_r5 : R98 [1, 0, 1, 0, 0, 1, 1, 1] 2 (upd e 8 (sI x8)) (upd V0 3 (73, k3)) hp K =
    (K (upd (upd (upd e 8 (sI x8)) 18 (sI ((wr (x8 + 1))))) 8 (sI ((wr (x8 + 1))))) (upd V0 3 (73, k3)) hp) := by kernel_rfl
theorem F98_r6 : R98 [1, 1, 0] 1 e V0 hp K =
    (K (upd e 4 (sI ((-1)))) V0 hp) := by kernel_rfl
def F98_l2 (x0a : Option Addr) (x0n : Nat) (x0c : Nat) (x7 : Int) (k3 : List Value) (K : Value → HP → Prop) (I2 : (Int) → HP → Prop) (x8 : Int) (hp : HP) : Prop :=
  (ite2 (decide (x8 < x7)) (ldL (cellsN k3 0 4) fun l_1 => ((0 ≤ x8) ∧ (x8 < x0n) ∧ (ptrN x0a fun b_2 o_3 => (ldL (HP.cellN hp b_2 (o_3 + Int.toNat x8 * 4) 4) fun l_4 => (eqAgg Try.prog 73 l_1 l_4 fun q_5 => (ite2 q_5 (K (.int .i64 x8) hp) (I2 (IntKind.wrap .i64 (x8 + 1)) hp))))))) (K (.int .i64 (-1)) hp))
def F98_j1 (x0a : Option Addr) (x0n : Nat) (x0c : Nat) (x7 : Int) (x8 : Int) (k3 : List Value) (hp : HP) (K : Value → HP → Prop) : Prop :=
  (LoopP (σ := Int) (fun I s hp => F98_l2 x0a x0n x0c x7 k3  K I s hp) x8 hp)
theorem F98_r7 : R98 [1, 0, 0] 3 (upd e 0 (sS x0a x0n x0c)) (upd V0 3 (73, k3)) hp K =
    (K (upd (upd (upd (upd e 0 (sS x0a x0n x0c)) 6 (sS x0a x0n x0c)) 7 (sI ((x0n : Nat)))) 8 (sI 0)) (upd V0 3 (73, k3)) hp) := by kernel_rfl
def F98 (x0a : Option Addr) (x0n : Nat) (x0c : Nat) (x1 : List Value) (hp : HP) (K : Value → HP → Prop) : Prop :=
  (F98_j1 x0a x0n x0c (x0n : Nat) 0 x1 hp  K)
noncomputable def F98_code : Code := (.seq (.region 0 (opsAt Try.f98 [0]) false) (.seq (.seq (.region 1 (opsAt Try.f98 [1, 0, 0]) false) (.block 0 (.loop (.seq (.region 2 (opsAt Try.f98 [1, 0, 1, 0, 0, 0]) false) (.seq (.cond (.tmp 9) .skip (.exit 0)) (.seq (.block 1 (.seq (.region 3 (opsAt Try.f98 [1, 0, 1, 0, 0, 1, 1, 0, 0, 0]) false) (.seq (.region 4 (opsAt Try.f98 [1, 0, 1, 0, 0, 1, 1, 0, 0, 1, 0]) true) (.cond (.tmp 16) (.seq (.region 5 (opsAt Try.f98 [1, 0, 1, 0, 0, 1, 1, 0, 0, 1, 1, 0, 0]) false) .ret) .skip)))) (.region 6 (opsAt Try.f98 [1, 0, 1, 0, 0, 1, 1, 1]) false))))))) (.seq (.region 7 (opsAt Try.f98 [1, 1, 0]) false) .ret)))
theorem F98_body : Try.f98.body = some F98_code := by kernel_rfl
theorem F98_ok (x0a : Option Addr) (x0n : Nat) (x0c : Nat) (x1 : List Value) (hp : HP) (K : Value → HP → Prop) (h : F98 x0a x0n x0c x1 hp K) : CF Try.prog 98 [(.slice x0a x0n x0c), (.agg ⟨x1⟩)] hp K := by
 refine .inl ⟨by kernel_rfl, AC.intro (N := 19) Try.func98 F98_body rfl (Nat.le_of_ble_eq_true rfl) ?_⟩
 unfold F98 at h
 unfold F98_code
 refine AWP.seq' ?_
 refine AWP.rgn (F98_r0 (upd E0 0 (sS x0a x0n x0c)) x1 hp _) ?_ (Ru 1 (Ru 0 Rn)) (Sc rfl (Sc rfl Sn)) Sn
 refine AWP.seq' ?_
 refine AWP.seq (fun env pv hp => ∃ (x0a : Option Addr) (x0n : Nat) (x0c : Nat) (x7 : Int) (x8 : Int) (k3 : List Value), Sub (upd (upd (upd (upd E0 8 (sI x8)) 7 (sI x7)) 3 (sR 3 0)) 0 (sS x0a x0n x0c)) env ∧ Sub (upd V0 3 (73, k3)) pv ∧ (F98_j1 x0a x0n x0c x7 x8 k3 hp  K)) ?_ ?_
 ·refine AWP.rgn (F98_r7 (upd E0 3 (sR 3 0)) x0a x0n x0c x1 hp _) ?_ (Ru 0 (RefOk.p 3 3 0 Rn (fun e => by cases e))) (Sc rfl (Sc rfl Sn)) (Sc rfl Sn)
  exact ⟨x0a, x0n, x0c, (x0n : Nat), 0, x1, (Sc rfl (Sc rfl (Sc rfl (Sc rfl Sn)))), (Sc rfl Sn), h⟩
 ·rintro env pv hp ⟨x0a, x0n, x0c, x7, x8, k3, he, hv, h⟩
  refine AWP.sub (env' := (upd (upd (upd (upd E0 8 (sI x8)) 7 (sI x7)) 3 (sR 3 0)) 0 (sS x0a x0n x0c))) (pv' := (upd V0 3 (73, k3))) ?_ (Ru 0 (RefOk.p 3 3 0 (Ru 7 (Ru 8 Rn)) (fun e => by cases e))) he hv (HSub.refl _)
  clear he hv
  unfold F98_j1 at h
  refine AWP.block ?_
  refine AWP.loop (σ := Int) (fun I s hp => F98_l2 x0a x0n x0c x7 k3  K I s hp) (fun s => (upd (upd (upd (upd E0 8 (sI s)) 7 (sI x7)) 3 (sR 3 0)) 0 (sS x0a x0n x0c))) (fun s => (upd V0 3 (73, k3))) x8 h (fun s => (Ru 0 (RefOk.p 3 3 0 (Ru 7 (Ru 8 Rn)) (fun e => by cases e)))) (Sc rfl (Sc rfl (Sc rfl (Sc rfl Sn)))) (Sc rfl Sn) ?_
  intro I2 s hp h
  obtain ⟨x8, hs⟩ : ∃ x, x = s := ⟨s, rfl⟩
  subst hs
  replace h : F98_l2 x0a x0n x0c x7 k3  K I2 x8 hp := h
  unfold F98_l2 at h
  refine AWP.seq' ?_
  refine AWP.rgn (F98_r1 (upd (upd E0 3 (sR 3 0)) 0 (sS x0a x0n x0c)) x7 x8 k3 hp _) ?_ (Ru 7 (Ru 8 (Ru 0 (RefOk.p 3 3 0 Rn (fun e => by cases e))))) (Sc rfl (Sc rfl (Sc rfl (Sc rfl Sn)))) (Sc rfl Sn)
  refine AWP.seq' ?_
  refine AWP.cond (t := (decide (x8 < x7))) rfl (fun e => ?_) (fun e => ?_)
  ·replace h := ite2_t h e
   refine AWP.skip ?_
   refine AWP.seq' ?_
   refine AWP.block ?_
   refine AWP.seq' ?_
   refine AWP.rgn (F98_r2 (upd (upd (upd E0 7 (sI x7)) 3 (sR 3 0)) 0 (sS x0a x0n x0c)) x8 k3 hp _) ?_ (Ru 8 (Ru 0 (RefOk.p 3 3 0 (Ru 7 Rn) (fun e => by cases e)))) (Sc rfl (Sc rfl (Sc rfl (Sc rfl Sn)))) (Sc rfl Sn)
   refine AWP.seq' ?_
   refine AWP.rgnD (by kernel_rfl) (by kernel_rfl) (F98_r3 (upd (upd E0 8 (sI x8)) 7 (sI x7)) x0a x0n x0c x8 k3 hp _) ?_ (Ru 0 (RefOk.p 3 3 0 (Ru 5 (Ru 7 (Ru 8 Rn))) (fun e => by cases e))) (Sc rfl (Sc rfl (Sc rfl (Sc rfl (Sc rfl Sn))))) (Sc rfl Sn)
   refine mL h (fun l_1 h => ⟨h.1, h.2.1, mN h.2.2 fun b_2 o_3 h => mL h fun l_4 h => mE h fun q_5 h => ?_⟩)
   refine AWP.cond (t := q_5) rfl (fun e => ?_) (fun e => ?_)
   ·replace h := ite2_t h e
    refine AWP.seq' ?_
    refine AWP.rgn (F98_r4 E0 x8 hp _) ?_ (Ru 5 Rn) (Sc rfl Sn) Sn
    refine AWP.ret ?_
    exact h
   ·replace h := ite2_f h e
    refine AWP.skip ?_
    refine AWP.rgn (F98_r5 (upd (upd (upd E0 7 (sI x7)) 3 (sR 3 0)) 0 (sS x0a x0n x0c)) x8 k3 hp _) ?_ (Ru 8 (Ru 0 (RefOk.p 3 3 0 (Ru 7 Rn) (fun e => by cases e)))) (Sc rfl (Sc rfl (Sc rfl (Sc rfl Sn)))) (Sc rfl Sn)
    exact ⟨(wr (x8 + 1)), (Sc rfl (Sc rfl (Sc rfl (Sc rfl Sn)))), (Sc rfl Sn), h⟩
  ·replace h := ite2_f h e
   refine AWP.exit ?_
   refine AWP.seq' ?_
   refine AWP.rgn (F98_r6 E0  hp _) ?_ Rn Sn Sn
   refine AWP.ret ?_
   exact h
end
-- 99 (*interpreter/pool.Pool).order
section
variable (e : Env) (x0 : Option Addr) (x1 : List Value) (x5a : Option Addr) (x5n x5c : Nat) (x6 : Int) (k3 : List Value) (hp : HP) (K : Env → PV → HP → Prop)
abbrev R99 (p : List Nat) (n : Nat) := RW Try.prog 26 [3] (opsAt Try.f99 p) (List.range n)
theorem F99_r0 : R99 [0] 2 (upd e 1 (sA x1)) V0 hp K =
    (K (upd (upd (upd e 1 (sA x1)) 3 (sR 3 0)) 4 (sS none 0 0)) (upd V0 3 (73, x1)) hp) := by kernel_rfl
theorem F99_r1 : R99 [1, 0] 6 (upd e 0 (sP x0)) (upd V0 3 (73, k3)) hp K =
    (ptrN x0 fun b1 o2 => (ldV (HP.cell hp b1 (o2 + 0)) fun v3 => (slcV v3 fun a4 n5 c6 => (CF Try.prog 93 [(.slice a4 n5 c6)] hp fun u7 h8 => (slcV u7 fun a9 n10 c11 => (K (upd (upd (upd (upd (upd (upd (upd e 0 (sP x0)) 7 (sP x0)) 8 (sQ b1 o2)) 9 (sQ b1 (o2 + 0))) 10 (sS a4 n5 c6)) 11 (sS a9 n10 c11)) 5 (sS a9 n10 c11)) (upd V0 3 (73, k3)) h8)))))) := by kernel_rfl
theorem F99_r2 : R99 [1, 1, 1, 0] 2 (upd e 5 (sS x5a x5n x5c)) V0 hp K =
    (K (upd (upd (upd e 5 (sS x5a x5n x5c)) 25 (sS x5a x5n x5c)) 4 (sS x5a x5n x5c)) V0 hp) := by kernel_rfl
def F99_j1 (x5a : Option Addr) (x5n : Nat) (x5c : Nat) (hp : HP) (K : Value → HP → Prop) : Prop :=
  (K (.slice x5a x5n x5c) hp)
theorem F99_r3 : R99 [1, 1, 0, 0] 4 (upd (upd e 5 (sS x5a x5n x5c)) 3 (sR 3 0)) (upd V0 3 (73, k3)) hp K =
    (ldL (cellsN k3 0 4) fun l1 => (CF Try.prog 98 [(.slice x5a x5n x5c), (.agg ⟨l1⟩)] hp fun u2 h3 => (intV u2 .i64 fun i4 => (K (upd (upd (upd (upd (upd (upd e 5 (sS x5a x5n x5c)) 3 (sR 3 0)) 12 (sS x5a x5n x5c)) 13 (sA l1)) 14 (sI i4)) 6 (sI i4)) (upd V0 3 (73, k3)) h3)))) := by kernel_rfl
theorem F99_r4 : R99 [1, 1, 0, 1, 0] 2 (upd e 6 (sI x6)) (upd V0 3 (73, k3)) hp K =
    (K (upd (upd (upd e 6 (sI x6)) 15 (sI x6)) 16 (sB (decide (x6 > 0)))) (upd V0 3 (73, k3)) hp) := by kernel_rfl
theorem F99_r5 (e : Env) (x5a : Option Addr) (x5n : Nat) (x5c : Nat) (x6 : Int) (k3 : List Value) (hp : HP) (K : Env → PV → HP → Prop) : RW Try.prog 26 [3] (opsAt Try.f99 [1, 1, 0, 1, 1, 0]) [0, 1, 2, 3, 4, 5, 6, 7, 8] (upd (upd (upd e 6 (sI x6)) 5 (sS x5a x5n x5c)) 3 (sR 3 0)) (upd V0 3 (73, k3)) hp K =
    (CF Try.prog 133 [(.slice x5a x5n x5c), (.int .i64 x6), (.int .i64 (wr (x6 + 1)))] hp fun u1 h2 => (slcV u1 fun a3 n4 c5 => (ldL (cellsN k3 0 4) fun l6 => (if List.length l6 = 4 then (∀ b7 : Nat, h2 b7 = .none → (CF Try.prog 132 [(.slice a3 n4 c5), .int .i64 0, (.slice (some ⟨b7, 0, none⟩) 1 1)] (HP.set h2 b7 (.cells 73 (splice [.int .u8 0, .int .u8 0, .int .u8 0, .int .u8 0] 0 l6) 0)) fun u8 h9 => (slcV u8 fun a10 n11 c12 => (K (upd (upd (upd (upd (upd (upd (upd (upd (upd (upd (upd (upd e 6 (sI x6)) 5 (sS x5a x5n x5c)) 3 (sR 3 0)) 17 (sS x5a x5n x5c)) 18 (sI x6)) 19 (sI x6)) 20 (sI ((wr (x6 + 1))))) 21 (sS a3 n4 c5)) 22 (sA l6)) 23 (sV (.slice (some ⟨b7, 0, none⟩) 1 1))) 24 (sS a10 n11 c12)) 5 (sS a10 n11 c12)) (upd V0 3 (73, k3)) h9)))) else False)))) := by kernel_rfl
theorem F99_r6 (e : Env) (x5a : Option Addr) (x5n : Nat) (x5c : Nat) (x6 : Int) (k3 : List Value) (hp : HP) (K : Env → PV → HP → Prop) : RW Try.prog 26 [3] (opsAt Try.f99 [1, 1, 0, 1, 1, 0]) [0, 1, 2, 3, 5, 6, 4, 7, 8] (upd (upd (upd e 6 (sI x6)) 5 (sS x5a x5n x5c)) 3 (sR 3 0)) (upd V0 3 (73, k3)) hp K =
    (ldL (cellsN k3 0 4) fun l1 => (if List.length l1 = 4 then (∀ b2 : Nat, hp b2 = .none → (CF Try.prog 133 [(.slice x5a x5n x5c), (.int .i64 x6), (.int .i64 (wr (x6 + 1)))] (HP.set hp b2 (.cells 73 (splice [.int .u8 0, .int .u8 0, .int .u8 0, .int .u8 0] 0 l1) 0)) fun u3 h4 => (slcV u3 fun a5 n6 c7 => (CF Try.prog 132 [(.slice a5 n6 c7), .int .i64 0, (.slice (some ⟨b2, 0, none⟩) 1 1)] h4 fun u8 h9 => (slcV u8 fun a10 n11 c12 => (K (upd (upd (upd (upd (upd (upd (upd (upd (upd (upd (upd (upd e 6 (sI x6)) 5 (sS x5a x5n x5c)) 3 (sR 3 0)) 17 (sS x5a x5n x5c)) 18 (sI x6)) 19 (sI x6)) 20 (sI ((wr (x6 + 1))))) 22 (sA l1)) 23 (sV (.slice (some ⟨b2, 0, none⟩) 1 1))) 21 (sS a5 n6 c7)) 24 (sS a10 n11 c12)) 5 (sS a10 n11 c12)) (upd V0 3 (73, k3)) h9)))))) else False)) := by kernel_rfl
def F99 (x0 : Option Addr) (x1 : List Value) (hp : HP) (K : Value → HP → Prop) : Prop :=
  (ptrN x0 fun b_1 o_2 => (ldV (HP.cell hp b_1 (o_2 + 0)) fun v_3 => (slcV v_3 fun a_4 n_5 c_6 => (CF Try.prog 93 [(.slice a_4 n_5 c_6)] hp fun u_7 h_8 => (slcV u_7 fun a_9 n_10 c_11 => (ldL (cellsN x1 0 4) fun l_12 => (CF Try.prog 98 [(.slice a_9 n_10 c_11), (.agg ⟨l_12⟩)] h_8 fun u_13 h_14 => (intV u_13 .i64 fun i_15 => (ite2 (decide (i_15 > 0)) ((CF Try.prog 133 [(.slice a_9 n_10 c_11), (.int .i64 i_15), (.int .i64 (IntKind.wrap .i64 (i_15 + 1)))] h_14 fun u_16 h_17 => (slcV u_16 fun a_18 n_19 c_20 => (ldL (cellsN x1 0 4) fun l_21 => (if List.length l_21 = 4 then (∀ b_22 : Nat, h_17 b_22 = .none → (CF Try.prog 132 [(.slice a_18 n_19 c_20), .int .i64 0, (.slice (some ⟨b_22, 0, none⟩) 1 1)] (HP.set h_17 b_22 (.cells 73 (splice [.int .u8 0, .int .u8 0, .int .u8 0, .int .u8 0] 0 l_21) 0)) fun u_23 h_24 => (slcV u_23 fun a_25 n_26 c_27 => (F99_j1 a_25 n_26 c_27 h_24  K)))) else False)))) ∧ (ldL (cellsN x1 0 4) fun l_28 => (if List.length l_28 = 4 then (∀ b_29 : Nat, h_14 b_29 = .none → (CF Try.prog 133 [(.slice a_9 n_10 c_11), (.int .i64 i_15), (.int .i64 (IntKind.wrap .i64 (i_15 + 1)))] (HP.set h_14 b_29 (.cells 73 (splice [.int .u8 0, .int .u8 0, .int .u8 0, .int .u8 0] 0 l_28) 0)) fun u_30 h_31 => (slcV u_30 fun a_32 n_33 c_34 => (CF Try.prog 132 [(.slice a_32 n_33 c_34), .int .i64 0, (.slice (some ⟨b_29, 0, none⟩) 1 1)] h_31 fun u_35 h_36 => (slcV u_35 fun a_37 n_38 c_39 => (F99_j1 a_37 n_38 c_39 h_36  K)))))) else False))) (F99_j1 a_9 n_10 c_11 h_14  K))))))))))
noncomputable def F99_code : Code := (.seq (.region 0 (opsAt Try.f99 [0]) false) (.seq (.region 1 (opsAt Try.f99 [1, 0]) false) (.seq (.seq (.region 2 (opsAt Try.f99 [1, 1, 0, 0]) false) (.seq (.region 3 (opsAt Try.f99 [1, 1, 0, 1, 0]) false) (.cond (.tmp 16) (.region 4 (opsAt Try.f99 [1, 1, 0, 1, 1, 0]) true) .skip))) (.seq (.region 5 (opsAt Try.f99 [1, 1, 1, 0]) false) .ret))))
theorem F99_body : Try.f99.body = some F99_code := by kernel_rfl
theorem F99_ok (x0 : Option Addr) (x1 : List Value) (hp : HP) (K : Value → HP → Prop) (h : F99 x0 x1 hp K) : CF Try.prog 99 [(.pointer x0), (.agg ⟨x1⟩)] hp K := by
 refine .inl ⟨by kernel_rfl, AC.intro (N := 26) Try.func99 F99_body rfl (Nat.le_of_ble_eq_true rfl) ?_⟩
 unfold F99 at h
 unfold F99_code
 refine AWP.seq' ?_
 refine AWP.rgn (F99_r0 (upd E0 0 (sP x0)) x1 hp _) ?_ (Ru 1 (Ru 0 Rn)) (Sc rfl (Sc rfl Sn)) Sn
 refine AWP.seq' ?_
 refine AWP.rgn (F99_r1 (upd E0 3 (sR 3 0)) x0 x1 hp _) ?_ (Ru 0 (RefOk.p 3 3 0 Rn (fun e => by cases e))) (Sc rfl (Sc rfl Sn)) (Sc rfl Sn)
 refine mN h fun b_1 o_2 h => mV h fun v_3 h => mS h fun a_4 n_5 c_6 h => mC h fun u_7 h_8 h => mS h fun a_9 n_10 c_11 h => ?_
 refine AWP.seq (fun env pv hp => ∃ (x5a : Option Addr) (x5n : Nat) (x5c : Nat), Sub (upd E0 5 (sS x5a x5n x5c)) env ∧ Sub V0 pv ∧ (F99_j1 x5a x5n x5c hp  K)) ?_ ?_
 ·refine AWP.seq' ?_
  refine AWP.rgn (F99_r3 E0 a_9 n_10 c_11 x1 h_8 _) ?_ (RefOk.p 3 3 0 (Ru 5 Rn) (fun e => by cases e)) (Sc rfl (Sc rfl Sn)) (Sc rfl Sn)
  refine mL h fun l_12 h => mC h fun u_13 h_14 h => mI h fun i_15 h => ?_
  refine AWP.seq' ?_
  refine AWP.rgn (F99_r4 (upd (upd E0 5 (sS a_9 n_10 c_11)) 3 (sR 3 0)) i_15 x1 h_14 _) ?_ (Ru 6 (RefOk.p 3 3 0 (Ru 5 Rn) (fun e => by cases e))) (Sc rfl (Sc rfl (Sc rfl Sn))) (Sc rfl Sn)
  refine AWP.cond (t := (decide (i_15 > 0))) rfl (fun e => ?_) (fun e => ?_)
  ·replace h := ite2_t h e
   refine AWP.rgnC (cf := [(4, 6)]) (c := [([true], true, [0, 1, 2, 3, 4, 5, 6, 7, 8]), ([false], true, [0, 1, 2, 3, 5, 6, 4, 7, 8])]) (by kernel_rfl) (by kernel_rfl) (by kernel_rfl) (by kernel_rfl) (allO_t (Eq.mpr (F99_r5 E0 a_9 n_10 c_11 i_15 x1 h_14 _) ?_) (allO_t (Eq.mpr (F99_r6 E0 a_9 n_10 c_11 i_15 x1 h_14 _) ?_) trivial)) (RefOk.p 3 3 0 (Ru 5 (Ru 6 Rn)) (fun e => by cases e)) (Sc rfl (Sc rfl (Sc rfl Sn))) (Sc rfl Sn)
   ·replace h := h.1
    refine mC h fun u_16 h_17 h => mS h fun a_18 n_19 c_20 h => mL h fun l_21 h => mf h fun h => ?_
    refine fun b_22 hb_b_22 => ?_
    replace h := h b_22 hb_b_22
    refine mC h fun u_23 h_24 h => mS h fun a_25 n_26 c_27 h => ?_
    exact ⟨a_25, n_26, c_27, (Sc rfl Sn), Sn, h⟩
   ·replace h := h.2
    refine mL h fun l_28 h => mf h fun h => ?_
    refine fun b_29 hb_b_29 => ?_
    replace h := h b_29 hb_b_29
    refine mC h fun u_30 h_31 h => mS h fun a_32 n_33 c_34 h => mC h fun u_35 h_36 h => mS h fun a_37 n_38 c_39 h => ?_
    exact ⟨a_37, n_38, c_39, (Sc rfl Sn), Sn, h⟩
  ·replace h := ite2_f h e
   refine AWP.skip ?_
   exact ⟨a_9, n_10, c_11, (Sc rfl Sn), Sn, h⟩
 ·rintro env pv hp ⟨x5a, x5n, x5c, he, hv, h⟩
  refine AWP.sub (env' := (upd E0 5 (sS x5a x5n x5c))) (pv' := V0) ?_ (Ru 5 Rn) he hv (HSub.refl _)
  clear he hv
  unfold F99_j1 at h
  refine AWP.seq' ?_
  refine AWP.rgn (F99_r2 E0 x5a x5n x5c hp _) ?_ (Ru 5 Rn) (Sc rfl Sn) Sn
  refine AWP.ret ?_
  exact h
end
end Go.Proofs

set_option linter.unusedVariables false
namespace Go.Proofs
open Go Go.HL

/-- An address: four bytes. -/
abbrev Q := Int × Int × Int × Int
def v4 (q : Q) : List Value := [.int .u8 q.1, .int .u8 q.2.1, .int .u8 q.2.2.1, .int .u8 q.2.2.2]
def t4 (t : Q × Int) : List Value := [.int .u8 t.1.1, .int .u8 t.1.2.1, .int .u8 t.1.2.2.1, .int .u8 t.1.2.2.2, .int .i64 t.2]
theorem v4_len (q : Q) : (v4 q).length = 4 := rfl
theorem t4_len (q : Q × Int) : (t4 q).length = 5 := rfl
theorem v4_one (q : Q) : (v4 q).all one = true := rfl
theorem t4_one (q : Q × Int) : (t4 q).all one = true := rfl
theorem v4_inj {p q : Q} : v4 p = v4 q ↔ p = q := by
  simp only [v4, List.cons.injEq, Value.int.injEq, true_and, and_true]
  constructor
  · rintro ⟨a, b, c, d⟩; exact Prod.ext a (Prod.ext b (Prod.ext c d))
  · rintro rfl; exact ⟨rfl, rfl, rfl, rfl⟩
theorem t4_inj {p q : Q × Int} : t4 p = t4 q ↔ p = q := by
  simp only [t4, List.cons.injEq, Value.int.injEq, true_and, and_true]
  constructor
  · rintro ⟨a, b, c, d, e⟩; exact Prod.ext (Prod.ext a (Prod.ext b (Prod.ext c d))) e
  · rintro rfl; exact ⟨rfl, rfl, rfl, rfl, rfl⟩

theorem v4_shaped (q : Q) : shaped Try.prog 3 73 (v4 q) = true := by kernel_rfl
theorem t4_shaped (q : Q × Int) : shaped Try.prog 3 75 (t4 q) = true := by kernel_rfl

theorem eq73 {p q : Q} {c : Bool → Prop} (h : c (decide (p = q))) : eqAgg Try.prog 73 (v4 p) (v4 q) c :=
  eqAgg_of (m := 3) (D := 3) (by kernel_rfl) (v4_shaped p) (v4_shaped q) (by simp [v4_inj]) h
theorem eq75 {p q : Q × Int} {c : Bool → Prop} (h : c (decide (p = q))) : eqAgg Try.prog 75 (t4 p) (t4 q) c :=
  eqAgg_of (m := 3) (D := 3) (by kernel_rfl) (t4_shaped p) (t4_shaped q) (by simp [t4_inj]) h

/-! Class, the two addresses. -/
def isPort (x : Int) : Bool := decide (0 ≤ x ∧ x ≤ 65535)
def cls (x y : Int) : Bool := isPort x && isPort y && (decide (x < 1024) == decide (y < 1024)) && (x.tmod 2 == y.tmod 2)

theorem C74 {x : Int} {hp : HP} {K : Value → HP → Prop} (h : K (.bool (isPort x)) hp) : CF Try.prog 74 [.int .i64 x] hp K := by
  refine F74_ok x hp K ?_
  unfold F74
  unfold isPort at h
  by_cases h0 : 0 ≤ x
  · simpa [h0] using h
  · simpa [h0] using h

theorem C20 {x y : Int} {hp : HP} {K : Value → HP → Prop} (h : K (.bool (cls x y)) hp) : CF Try.prog 20 [.int .i64 x, .int .i64 y] hp K := by
  refine F20_ok x y hp K ?_
  unfold F20
  unfold cls at h
  refine C74 ?_
  simp only [boolV_bool]
  cases hx : isPort x
  · simpa [hx] using h
  · refine C74 ?_
    simp only [boolV_bool, ite2_true]
    cases hy : isPort y
    · simpa [hx, hy] using h
    · simp only [hx, hy, Bool.true_and] at h
      simp only [ite2_true]
      cases hz : (decide (x < 1024) == decide (y < 1024))
      · simpa [hz] using h
      · simpa [hz] using h

theorem C52 {hp : HP} {K : Value → HP → Prop} (h : K (.agg ⟨v4 (1, 0, 0, 1)⟩) hp) : CF Try.prog 52 [] hp K := F52_ok hp K h
theorem C53 {hp : HP} {K : Value → HP → Prop} (h : K (.agg ⟨v4 (1, 0, 0, 2)⟩) hp) : CF Try.prog 53 [] hp K := F53_ok hp K h

/-- Where an address is in a list, or -1. -/
def idx (q : Q) (l : List Q) : Int := if q ∈ l then (l.idxOf q : Int) else -1

theorem idx_none {q : Q} {l : List Q} (h : ∀ j : Nat, l[j]? ≠ some q) : idx q l = -1 := by
  have : q ∉ l := fun hm => by obtain ⟨j, hj⟩ := List.mem_iff_getElem?.1 hm; exact h j hj
  simp [idx, this]
theorem idx_at {q : Q} {l : List Q} {i : Nat} (h : l[i]? = some q) (hn : ∀ j : Nat, j < i → l[j]? ≠ some q) : idx q l = i := by
  have hm : q ∈ l := List.mem_iff_getElem?.2 ⟨i, h⟩
  have hlt : l.idxOf q < l.length := List.idxOf_lt_length_of_mem hm
  have h1 : l[l.idxOf q]? = some q := by rw [List.getElem?_eq_getElem hlt]; simp
  have h2 : ¬ l.idxOf q < i := fun h' => hn _ h' h1
  have h3 : ¬ i < l.idxOf q := fun h' => by
    have := List.not_of_lt_findIdx (xs := l) (p := (· == q)) (i := i) h'
    have hi : i < l.length := by omega
    rw [List.getElem?_eq_getElem hi] at h
    simp at this h
    exact this h
  simp only [idx, hm, if_true]
  omega

theorem C98 {a : Option Addr} {n c : Nat} {l : List Q} {q : Q} {hp : HP} {K : Value → HP → Prop} (hs : Shows hp a n 4 (l.flatMap v4)) (hl : l.length = n) (hn : n ≤ 9223372036854775806)
    (h : K (.int .i64 (idx q l)) hp) : CF Try.prog 98 [.slice a n c, .agg ⟨v4 q⟩] hp K := by
  refine F98_ok a n c (v4 q) hp K ?_
  unfold F98 F98_j1
  refine LoopP.by (J := fun k (x : Int) hp' => hp' = hp ∧ ∃ i : Nat, x = i ∧ i + k = n ∧ ∀ j : Nat, j < i → l[j]? ≠ some q) ?_ (n := n) ⟨rfl, 0, rfl, by omega, fun j hj => by omega⟩
  rintro I k x hp' ⟨rfl, i, rfl, hik, hnone⟩ hI
  unfold F98_l2
  by_cases hi : i < n
  · have hlt : decide ((i : Int) < (n : Int)) = true := by simpa using hi
    obtain ⟨b, o, rfl, hc⟩ := hs.get v4_len hl hi
    simp only [hlt, ite2_true, cellsN_all (v4_len q), ldL_some, ptrN_some, Int.toNat_natCast, hc]
    refine ⟨by omega, by omega, eq73 ?_⟩
    by_cases he : q = l[i]'(hl ▸ hi)
    · have : l[i]? = some q := by rw [List.getElem?_eq_getElem (hl ▸ hi), he]
      rw [idx_at this hnone] at h
      simpa [he] using h
    · simp only [he, decide_false, ite2_false]
      rw [w64 (by omega) (by omega)]
      refine hI (k - 1) _ _ (by omega) ⟨rfl, i + 1, by omega, by omega, fun j hj => ?_⟩
      by_cases hji : j = i
      · subst hji
        rw [List.getElem?_eq_getElem (hl ▸ hi)]
        intro hh
        exact he (Option.some.inj hh).symm
      · exact hnone j (by omega)
  · have hlt : decide ((i : Int) < (n : Int)) = false := by simpa using hi
    simp only [hlt, ite2_false]
    rw [idx_none] at h
    · exact h
    · intro j
      by_cases hj : j < i
      · exact hnone j hj
      · rw [List.getElem?_eq_none (by omega)]; simp

theorem C92 {a : Option Addr} {n c : Nat} {l : List Q} {q : Q} {hp : HP} {K : Value → HP → Prop} (hs : Shows hp a n 4 (l.flatMap v4)) (hl : l.length = n) (hn : n ≤ 9223372036854775806)
    (h : K (.bool (decide (q ∈ l))) hp) : CF Try.prog 92 [.slice a n c, .agg ⟨v4 q⟩] hp K := by
  refine F92_ok a n c (v4 q) hp K ?_
  unfold F92
  simp only [cellsN_all (v4_len q), ldL_some]
  refine C98 hs hl hn ?_
  simp only [intV_int]
  have : decide (idx q l ≥ 0) = decide (q ∈ l) := by
    unfold idx
    by_cases hm : q ∈ l <;> simp [hm]
  rw [this]; exact h

/-- Clone: a new row. -/
theorem C93 {a : Option Addr} {n c : Nat} {l : List Q} {hp : HP} {K : Value → HP → Prop} (hs : Shows hp a n 4 (l.flatMap v4)) (hl : l.length = n) (hn : n ≤ 10000000000)
    (h : ∀ s2 c2 hp', HSub hp hp' → Row hp' s2 n c2 73 4 (l.flatMap v4) → (∀ b, s2 = some ⟨b, 0, none⟩ → hp b = .none) → K (.slice s2 n c2) hp') : CF Try.prog 93 [.slice a n c] hp K := by
  refine F93_ok a n c hp K ?_
  unfold F93
  cases a with
  | none =>
    have hn0 : n = 0 := by
      rcases hs with h | ⟨b, o, h, _⟩
      · exact h.1
      · cases h
    subst hn0
    have : l = [] := List.eq_nil_of_length_eq_zero hl
    subst this
    simp only [Option.isNone_none, ite2_true]
    exact h none 0 hp (HSub.refl _) (.inl ⟨rfl, rfl, rfl, rfl⟩) (fun b hb => by cases hb)
  | some a =>
    simp only [Option.isNone_some, ite2_false]
    intro b hb
    have hsub := HSub.set_fresh hp (.cells 73 [] 0) hb
    refine opS_app (e := 73) (size := 4) (bytes := 4) (xs := []) (by kernel_rfl) (.inr ⟨b, rfl, Nat.le_refl _, by simp, by simp [HP.set_eq]⟩) (hs.sub hsub) (all_flat v4_one l) (by omega) (by omega) ?_
    intro s2 c2 hp' hrow hupd
    simp only [Nat.zero_add, List.nil_append, slcV_slice] at hrow ⊢
    have hsub' : HSub hp hp' ∧ ∀ b', s2 = some ⟨b', 0, none⟩ → hp b' = .none := by
      rcases hupd with ⟨rfl, rfl⟩ | ⟨b', e', rfl, hb', rfl⟩
      · exact ⟨hsub, fun b' e => by cases e; exact hb⟩
      · have hn' : hp b' = .none := by
          rcases hb' with hb' | hb'
          · exact hsub.none hb'
          · cases hb'; exact hb
        refine ⟨fun x => ?_, fun b'' e => by cases e; exact hn'⟩
        by_cases hx : x = b'
        · subst hx; exact .inl hn'
        · rw [HP.set_ne _ _ hx]; exact hsub x
    exact h s2 c2 hp' hsub'.1 hrow hsub'.2
end Go.Proofs

set_option linter.unusedVariables false
set_option maxRecDepth 20000
namespace Go.Proofs
open Go Go.HL

theorem dec5 {D : Nat} {cs : List Value} (h : wellS Try.prog D 5 cs = true) : ∃ n : Int, (0 ≤ n ∧ n ≤ 255) ∧ cs = [.int .u8 n] := by
  cases D with
  | zero => cases h
  | succ D =>
    unfold wellS at h
    rw [show Try.prog.underlying 5 = some (.int .u8) by kernel_rfl] at h
    simp only at h
    split at h
    · rename_i q n
      simp only [Bool.and_eq_true, decide_eq_true_eq] at h
      obtain ⟨rfl, hw⟩ := h
      exact ⟨n, (Go.Lit.wf_int_iff _ _).1 hw, rfl⟩
    · cases h
theorem dec3 {D : Nat} {cs : List Value} (h : wellS Try.prog D 3 cs = true) : ∃ n : Int, (-9223372036854775808 ≤ n ∧ n ≤ 9223372036854775807) ∧ cs = [.int .i64 n] := by
  cases D with
  | zero => cases h
  | succ D =>
    unfold wellS at h
    rw [show Try.prog.underlying 3 = some (.int .i64) by kernel_rfl] at h
    simp only at h
    split at h
    · rename_i q n
      simp only [Bool.and_eq_true, decide_eq_true_eq] at h
      obtain ⟨rfl, hw⟩ := h
      exact ⟨n, (Go.Lit.wf_int_iff _ _).1 hw, rfl⟩
    · cases h
theorem dec4 {D : Nat} {cs : List Value} (h : wellS Try.prog D 4 cs = true) : ∃ b : Bool, cs = [.bool b] := by
  cases D with
  | zero => cases h
  | succ D =>
    unfold wellS at h
    rw [show Try.prog.underlying 4 = some .bool by kernel_rfl] at h
    simp only at h
    split at h
    · exact ⟨_, rfl⟩
    · cases h

/-- Are the bytes of an address bytes? -/
def okQ (q : Q) : Prop := (0 ≤ q.1 ∧ q.1 ≤ 255) ∧ (0 ≤ q.2.1 ∧ q.2.1 ≤ 255) ∧ (0 ≤ q.2.2.1 ∧ q.2.2.1 ≤ 255) ∧ (0 ≤ q.2.2.2 ∧ q.2.2.2 ≤ 255)

theorem dec73 : ∀ (D : Nat) (cs : List Value), wellS Try.prog D 73 cs = true → ∃ q : Q, okQ q ∧ cs = v4 q := by
  intro D cs h
  cases D with
  | zero => cases h
  | succ D =>
    unfold wellS at h
    rw [show Try.prog.underlying 73 = some (.array 4 5) by kernel_rfl] at h
    simp only [show Try.prog.cellsOf 73 = 4 by kernel_rfl, show Try.prog.cellsOf 5 = 1 by kernel_rfl, Bool.and_eq_true, decide_eq_true_eq, List.all_eq_true, List.mem_range] at h
    obtain ⟨hl, he⟩ := h
    match cs, hl with
    | [c0, c1, c2, c3], _ =>
      obtain ⟨n0, r0, e0⟩ := dec5 (he 0 (by omega))
      obtain ⟨n1, r1, e1⟩ := dec5 (he 1 (by omega))
      obtain ⟨n2, r2, e2⟩ := dec5 (he 2 (by omega))
      obtain ⟨n3, r3, e3⟩ := dec5 (he 3 (by omega))
      simp at e0 e1 e2 e3
      subst e0; subst e1; subst e2; subst e3
      exact ⟨(n0, n1, n2, n3), ⟨r0, r1, r2, r3⟩, rfl⟩
end Go.Proofs

set_option linter.unusedVariables false
set_option maxRecDepth 20000
namespace Go.Proofs
open Go Go.HL

def okT (t : Q × Int) : Prop := okQ t.1 ∧ -9223372036854775808 ≤ t.2 ∧ t.2 ≤ 9223372036854775807

/-- An act: what, on which, plain or not. -/
abbrev Act := Int × (Q × Int) × Bool
def act (a : Act) : List Value := [.int .u8 a.1, .int .u8 a.2.1.1.1, .int .u8 a.2.1.1.2.1, .int .u8 a.2.1.1.2.2.1, .int .u8 a.2.1.1.2.2.2, .int .i64 a.2.1.2, .bool a.2.2]
def okA (a : Act) : Prop := (0 ≤ a.1 ∧ a.1 ≤ 255) ∧ okT a.2.1
theorem act_len (a : Act) : (act a).length = 7 := rfl
theorem act_one (a : Act) : (act a).all one = true := rfl

theorem dec75 : ∀ (D : Nat) (cs : List Value), wellS Try.prog D 75 cs = true → ∃ t : Q × Int, okT t ∧ cs = t4 t := by
  intro D cs h
  cases D with
  | zero => cases h
  | succ D =>
    obtain ⟨hl, hf⟩ := wellS_struct (fs0 := [(73, 0), (3, 4)]) (by kernel_rfl) (by simp) h
    rw [show Try.prog.cellsOf 75 = 5 by kernel_rfl] at hl
    have f1 := hf (73, 0) (by simp)
    have f2 := hf (3, 4) (by simp)
    simp only [show Try.prog.cellsOf 73 = 4 by kernel_rfl, show Try.prog.cellsOf 3 = 1 by kernel_rfl] at f1 f2
    obtain ⟨q, hq, e1⟩ := dec73 _ _ f1
    obtain ⟨n, hn, e2⟩ := dec3 f2
    match cs, hl with
    | [c0, c1, c2, c3, c4], _ =>
      simp only [List.drop_zero, List.take_succ_cons, List.take_zero, v4, List.cons.injEq, and_true] at e1
      simp only [List.drop_succ_cons, List.drop_zero, List.take_succ_cons, List.take_zero, List.cons.injEq, and_true] at e2
      obtain ⟨rfl, rfl, rfl, rfl⟩ := e1
      subst e2
      exact ⟨(q, n), ⟨hq, hn⟩, rfl⟩

theorem dec77 : ∀ (D : Nat) (cs : List Value), wellS Try.prog D 77 cs = true → ∃ a : Act, okA a ∧ cs = act a := by
  intro D cs h
  cases D with
  | zero => cases h
  | succ D =>
    obtain ⟨hl, hf⟩ := wellS_struct (fs0 := flds Try.prog 77) rfl (by rw [show flds Try.prog 77 = [(5, 0), (75, 1), (4, 6)] by kernel_rfl]; simp) h
    rw [show flds Try.prog 77 = [(5, 0), (75, 1), (4, 6)] by kernel_rfl] at hf
    rw [show Try.prog.cellsOf 77 = 7 by kernel_rfl] at hl
    have f1 := hf (5, 0) (by simp)
    have f2 := hf (75, 1) (by simp)
    have f3 := hf (4, 6) (by simp)
    simp only [show Try.prog.cellsOf 5 = 1 by kernel_rfl, show Try.prog.cellsOf 75 = 5 by kernel_rfl, show Try.prog.cellsOf 4 = 1 by kernel_rfl] at f1 f2 f3
    obtain ⟨n, hn, e1⟩ := dec5 f1
    obtain ⟨t, ht, e2⟩ := dec75 _ _ f2
    obtain ⟨b, e3⟩ := dec4 f3
    match cs, hl with
    | [c0, c1, c2, c3, c4, c5, c6], _ =>
      simp only [List.drop_zero, List.take_succ_cons, List.take_zero, List.cons.injEq, and_true] at e1
      simp only [List.drop_succ_cons, List.drop_zero, List.take_succ_cons, List.take_zero, t4, List.cons.injEq, and_true] at e2
      simp only [List.drop_succ_cons, List.drop_zero, List.take_succ_cons, List.take_zero, List.cons.injEq, and_true] at e3
      subst e1
      obtain ⟨rfl, rfl, rfl, rfl, rfl⟩ := e2
      subst e3
      exact ⟨(n, t, b), ⟨hn, ht⟩, rfl⟩
end Go.Proofs

set_option linter.unusedVariables false
set_option maxRecDepth 20000
namespace Go.Proofs
open Go Go.HL

theorem size_of {P : Program} {t z : Nat} (h : (P.info? t).map (·.size) = some z) (w : World) : (Go.sizeOf t).run P w = .ok z w := run_size h

theorem C164 {b1 o1 n1 c1 b2 o2 n2 c2 : Nat} {cs1 cs2 : List Value} {sp1 sp2 : Nat} {hp : HP} {K : Value → HP → Prop} (h1 : hp b1 = .cells 73 cs1 sp1) (h2 : hp b2 = .cells 73 cs2 sp2) (hne : b1 ≠ b2) (hz : cs2 ≠ [])
    (h : K (.bool false) hp) : CF Try.prog 164 [.slice (some ⟨b1, o1, none⟩) n1 c1, .slice (some ⟨b2, o2, none⟩) n2 c2] hp K := by
  refine .inr fun F w0 w hf => ⟨.bool false, w, hp, ?_, hf, h⟩
  obtain ⟨r1, _, e1⟩ := (h1 ▸ hf.ent b1 : (Ent.cells 73 cs1 sp1).ok _)
  obtain ⟨r2, _, e2⟩ := (h2 ▸ hf.ent b2 : (Ent.cells 73 cs2 sp2).ok _)
  rw [run_callFunc_extern Try.func164 (by kernel_rfl) (by kernel_rfl) (by kernel_rfl) (e := Extern.SlicesOverlaps.overlaps #[66, 66] #[4]) (by kernel_rfl)]
  have hpos : (cs2 ++ r2).toArray.size ≠ 0 := by
    intro hh
    apply hz
    have : (cs2 ++ r2).length = 0 := by simpa using hh
    exact List.eq_nil_of_length_eq_zero (by simp at this; simp [this.1])
  have hrun := Lib.run_overlaps_apart (P := Try.prog) w 66 4 73 (by kernel_rfl) 4 (size_of (by kernel_rfl)) ⟨b1, o1, none⟩ ⟨b2, o2, none⟩ n1 c1 n2 c2 hne 73 73 (cs1 ++ r1).toArray.size (cs2 ++ r2).toArray.size
    (by simp [World.shape?, e1]) (by simp [World.shape?, e2]) hpos (by simp [World.frozen?, e1]) (by simp [World.frozen?, e1])
  rw [hrun]
  rfl
end Go.Proofs

set_option linter.unusedVariables false
set_option maxRecDepth 20000
namespace Go.Proofs
open Go Go.HL
-- 132 slices.Insert[[]interpreter/api.V4,interpreter/api.V4]
section
variable (e : Env) (x0a : Option Addr) (x0n x0c : Nat) (x1 : Int) (x2a : Option Addr) (x2n x2c : Nat) (x7 x8 : Int) (x9a : Option Addr) (x9n x9c : Nat) (hp : HP) (K : Env → PV → HP → Prop)
abbrev R132 (p : List Nat) (n : Nat) := RW Try.prog 95 [] (opsAt Try.f132 p) (List.range n)
theorem F132_r0 : R132 [0] 1 e V0 hp K =
    (K (upd e 6 (sS none 0 0)) V0 hp) := by kernel_rfl
theorem F132_r1 : R132 [1, 0] 3 (upd (upd e 1 (sI x1)) 0 (sS x0a x0n x0c)) V0 hp K =
    ((0 ≤ x1) ∧ (x1 ≤ x0n) ∧ (x0n ≤ x0c) ∧ (K (upd (upd (upd (upd (upd e 1 (sI x1)) 0 (sS x0a x0n x0c)) 10 (sS x0a x0n x0c)) 11 (sI x1)) 12 (sV (.slice (sub0 x0a x0c (Int.toNat x1) 4) (x0n - Int.toNat x1) (x0c - Int.toNat x1)))) V0 hp)) := by kernel_rfl
theorem F132_r2 : R132 [1, 1, 0] 3 (upd e 2 (sS x2a x2n x2c)) V0 hp K =
    (K (upd (upd (upd (upd e 2 (sS x2a x2n x2c)) 13 (sS x2a x2n x2c)) 14 (sI ((x2n : Nat)))) 7 (sI ((x2n : Nat)))) V0 hp) := by kernel_rfl
theorem F132_r3 : R132 [1, 1, 1, 0, 0] 2 (upd e 7 (sI x7)) V0 hp K =
    (K (upd (upd (upd e 7 (sI x7)) 15 (sI x7)) 16 (sB ((x7 == 0)))) V0 hp) := by kernel_rfl
theorem F132_r4 : R132 [1, 1, 1, 0, 1, 0, 0] 2 (upd e 0 (sS x0a x0n x0c)) V0 hp K =
    (K (upd (upd (upd e 0 (sS x0a x0n x0c)) 17 (sS x0a x0n x0c)) 6 (sS x0a x0n x0c)) V0 hp) := by kernel_rfl
theorem F132_r5 : R132 [1, 1, 1, 1, 0] 3 (upd e 0 (sS x0a x0n x0c)) V0 hp K =
    (K (upd (upd (upd (upd e 0 (sS x0a x0n x0c)) 18 (sS x0a x0n x0c)) 19 (sI ((x0n : Nat)))) 8 (sI ((x0n : Nat)))) V0 hp) := by kernel_rfl
theorem F132_r6 : R132 [1, 1, 1, 1, 1, 0, 0] 3 (upd (upd e 8 (sI x8)) 1 (sI x1)) V0 hp K =
    (K (upd (upd (upd (upd (upd e 8 (sI x8)) 1 (sI x1)) 20 (sI x1)) 21 (sI x8)) 22 (sB ((x1 == x8)))) V0 hp) := by kernel_rfl
theorem F132_r7 : R132 [1, 1, 1, 1, 1, 0, 1, 0, 0] 4 (upd (upd e 2 (sS x2a x2n x2c)) 0 (sS x0a x0n x0c)) V0 hp K =
    (opS Try.prog (Builtin.append_ #[66, 66] 66 ⟨[(.slice x0a x0n x0c), (.slice x2a x2n x2c)]⟩) hp fun u1 h2 => (slcV u1 fun a3 n4 c5 => (K (upd (upd (upd (upd (upd (upd e 2 (sS x2a x2n x2c)) 0 (sS x0a x0n x0c)) 23 (sS x0a x0n x0c)) 24 (sS x2a x2n x2c)) 25 (sS a3 n4 c5)) 6 (sS a3 n4 c5)) V0 h2))) := by kernel_rfl
theorem F132_r8 : R132 [1, 1, 1, 1, 1, 1, 0, 0] 6 (upd (upd (upd e 8 (sI x8)) 7 (sI x7)) 0 (sS x0a x0n x0c)) V0 hp K =
    (K (upd (upd (upd (upd (upd (upd (upd (upd (upd e 8 (sI x8)) 7 (sI x7)) 0 (sS x0a x0n x0c)) 26 (sI x8)) 27 (sI x7)) 28 (sI ((wr (x8 + x7))))) 29 (sS x0a x0n x0c)) 30 (sI ((x0c : Nat)))) 31 (sB ((decide (((wr (x8 + x7)) : Int) > (x0c : Nat)))))) V0 hp) := by kernel_rfl
theorem F132_r9 : R132 [1, 1, 1, 1, 1, 1, 0, 1, 0, 0] 10 (upd (upd (upd (upd e 8 (sI x8)) 7 (sI x7)) 1 (sI x1)) 0 (sS x0a x0n x0c)) V0 hp K =
    ((0 ≤ x1) ∧ (x1 ≤ (x0c : Nat)) ∧ (opS Try.prog (Builtin.append_ #[66, 3] 66 ⟨[(.slice x0a (Int.toNat x1) x0c), (.int .i64 (wr ((wr (x8 + x7)) - x1)))]⟩) hp fun u1 h2 => (slcV u1 fun a3 n4 c5 => (K (upd (upd (upd (upd (upd (upd (upd (upd (upd (upd (upd (upd (upd (upd e 8 (sI x8)) 7 (sI x7)) 1 (sI x1)) 0 (sS x0a x0n x0c)) 32 (sS x0a x0n x0c)) 33 (sI x1)) 34 (sV (.slice x0a (Int.toNat x1) x0c))) 35 (sI x8)) 36 (sI x7)) 37 (sI ((wr (x8 + x7))))) 38 (sI x1)) 39 (sI ((wr ((wr (x8 + x7)) - x1))))) 40 (sS a3 n4 c5)) 9 (sS a3 n4 c5)) V0 h2)))) := by kernel_rfl
theorem F132_r10 : R132 [1, 1, 1, 1, 1, 1, 0, 1, 0, 1, 0] 5 (upd (upd (upd e 9 (sS x9a x9n x9c)) 2 (sS x2a x2n x2c)) 1 (sI x1)) V0 hp K =
    ((0 ≤ x1) ∧ (x1 ≤ x9n) ∧ (x9n ≤ x9c) ∧ (opS Try.prog (Builtin.copy_ #[66, 66] 3 ⟨[(.slice (sub0 x9a x9c (Int.toNat x1) 4) (x9n - Int.toNat x1) (x9c - Int.toNat x1)), (.slice x2a x2n x2c)]⟩) hp fun u1 h2 => (intV u1 .i64 fun i3 => (K (upd (upd (upd (upd (upd (upd (upd (upd e 9 (sS x9a x9n x9c)) 2 (sS x2a x2n x2c)) 1 (sI x1)) 41 (sS x9a x9n x9c)) 42 (sI x1)) 43 (sV (.slice (sub0 x9a x9c (Int.toNat x1) 4) (x9n - Int.toNat x1) (x9c - Int.toNat x1)))) 44 (sS x2a x2n x2c)) 45 (sI i3)) V0 h2)))) := by kernel_rfl
theorem F132_r11 : R132 [1, 1, 1, 1, 1, 1, 0, 1, 0, 1, 1, 0] 9 (upd (upd (upd (upd e 9 (sS x9a x9n x9c)) 7 (sI x7)) 1 (sI x1)) 0 (sS x0a x0n x0c)) V0 hp K =
    ((0 ≤ ((wr (x1 + x7)) : Int)) ∧ (((wr (x1 + x7)) : Int) ≤ x9n) ∧ (x9n ≤ x9c) ∧ ((0 ≤ x1) ∧ (x1 ≤ x0n) ∧ (x0n ≤ x0c) ∧ (opS Try.prog (Builtin.copy_ #[66, 66] 3 ⟨[(.slice (sub0 x9a x9c (Int.toNat (wr (x1 + x7))) 4) (x9n - Int.toNat (wr (x1 + x7))) (x9c - Int.toNat (wr (x1 + x7)))), (.slice (sub0 x0a x0c (Int.toNat x1) 4) (x0n - Int.toNat x1) (x0c - Int.toNat x1))]⟩) hp fun u1 h2 => (intV u1 .i64 fun i3 => (K (upd (upd (upd (upd (upd (upd (upd (upd (upd (upd (upd (upd (upd e 9 (sS x9a x9n x9c)) 7 (sI x7)) 1 (sI x1)) 0 (sS x0a x0n x0c)) 46 (sS x9a x9n x9c)) 47 (sI x1)) 48 (sI x7)) 49 (sI ((wr (x1 + x7))))) 50 (sV (.slice (sub0 x9a x9c (Int.toNat (wr (x1 + x7))) 4) (x9n - Int.toNat (wr (x1 + x7))) (x9c - Int.toNat (wr (x1 + x7)))))) 51 (sS x0a x0n x0c)) 52 (sI x1)) 53 (sV (.slice (sub0 x0a x0c (Int.toNat x1) 4) (x0n - Int.toNat x1) (x0c - Int.toNat x1)))) 54 (sI i3)) V0 h2))))) := by kernel_rfl
theorem F132_r12 : R132 [1, 1, 1, 1, 1, 1, 0, 1, 0, 1, 1, 1, 0] 2 (upd e 9 (sS x9a x9n x9c)) V0 hp K =
    (K (upd (upd (upd e 9 (sS x9a x9n x9c)) 55 (sS x9a x9n x9c)) 6 (sS x9a x9n x9c)) V0 hp) := by kernel_rfl
theorem F132_r13 : R132 [1, 1, 1, 1, 1, 1, 1, 0] 6 (upd (upd (upd e 8 (sI x8)) 7 (sI x7)) 0 (sS x0a x0n x0c)) V0 hp K =
    ((0 ≤ ((wr (x8 + x7)) : Int)) ∧ (((wr (x8 + x7)) : Int) ≤ (x0c : Nat)) ∧ (K (upd (upd (upd (upd (upd (upd (upd (upd (upd e 8 (sI x8)) 7 (sI x7)) 0 (sS x0a x0n x0c)) 56 (sS x0a x0n x0c)) 57 (sI x8)) 58 (sI x7)) 59 (sI ((wr (x8 + x7))))) 60 (sV (.slice x0a (Int.toNat (wr (x8 + x7))) x0c))) 0 (sV (.slice x0a (Int.toNat (wr (x8 + x7))) x0c))) V0 hp)) := by kernel_rfl
theorem F132_r14 : R132 [1, 1, 1, 1, 1, 1, 1, 1, 0, 0] 8 (upd (upd (upd (upd e 7 (sI x7)) 2 (sS x2a x2n x2c)) 1 (sI x1)) 0 (sS x0a x0n x0c)) V0 hp K =
    ((0 ≤ ((wr (x1 + x7)) : Int)) ∧ (((wr (x1 + x7)) : Int) ≤ x0n) ∧ (x0n ≤ x0c) ∧ (CF Try.prog 164 [(.slice x2a x2n x2c), (.slice (sub0 x0a x0c (Int.toNat (wr (x1 + x7))) 4) (x0n - Int.toNat (wr (x1 + x7))) (x0c - Int.toNat (wr (x1 + x7))))] hp fun u1 h2 => (boolV u1 fun q3 => (K (upd (upd (upd (upd (upd (upd (upd (upd (upd (upd (upd (upd e 7 (sI x7)) 2 (sS x2a x2n x2c)) 1 (sI x1)) 0 (sS x0a x0n x0c)) 61 (sS x2a x2n x2c)) 62 (sS x0a x0n x0c)) 63 (sI x1)) 64 (sI x7)) 65 (sI ((wr (x1 + x7))))) 66 (sV (.slice (sub0 x0a x0c (Int.toNat (wr (x1 + x7))) 4) (x0n - Int.toNat (wr (x1 + x7))) (x0c - Int.toNat (wr (x1 + x7)))))) 67 (sB q3)) 68 (sB ((!q3)))) V0 h2)))) := by kernel_rfl
theorem F132_r15 : R132 [1, 1, 1, 1, 1, 1, 1, 1, 0, 1, 0, 0] 9 (upd (upd (upd e 7 (sI x7)) 1 (sI x1)) 0 (sS x0a x0n x0c)) V0 hp K =
    ((0 ≤ ((wr (x1 + x7)) : Int)) ∧ (((wr (x1 + x7)) : Int) ≤ x0n) ∧ (x0n ≤ x0c) ∧ ((0 ≤ x1) ∧ (x1 ≤ x0n) ∧ (x0n ≤ x0c) ∧ (opS Try.prog (Builtin.copy_ #[66, 66] 3 ⟨[(.slice (sub0 x0a x0c (Int.toNat (wr (x1 + x7))) 4) (x0n - Int.toNat (wr (x1 + x7))) (x0c - Int.toNat (wr (x1 + x7)))), (.slice (sub0 x0a x0c (Int.toNat x1) 4) (x0n - Int.toNat x1) (x0c - Int.toNat x1))]⟩) hp fun u1 h2 => (intV u1 .i64 fun i3 => (K (upd (upd (upd (upd (upd (upd (upd (upd (upd (upd (upd (upd e 7 (sI x7)) 1 (sI x1)) 0 (sS x0a x0n x0c)) 69 (sS x0a x0n x0c)) 70 (sI x1)) 71 (sI x7)) 72 (sI ((wr (x1 + x7))))) 73 (sV (.slice (sub0 x0a x0c (Int.toNat (wr (x1 + x7))) 4) (x0n - Int.toNat (wr (x1 + x7))) (x0c - Int.toNat (wr (x1 + x7)))))) 74 (sS x0a x0n x0c)) 75 (sI x1)) 76 (sV (.slice (sub0 x0a x0c (Int.toNat x1) 4) (x0n - Int.toNat x1) (x0c - Int.toNat x1)))) 77 (sI i3)) V0 h2))))) := by kernel_rfl
theorem F132_r16 : R132 [1, 1, 1, 1, 1, 1, 1, 1, 0, 1, 0, 1, 0] 5 (upd (upd (upd e 2 (sS x2a x2n x2c)) 1 (sI x1)) 0 (sS x0a x0n x0c)) V0 hp K =
    ((0 ≤ x1) ∧ (x1 ≤ x0n) ∧ (x0n ≤ x0c) ∧ (opS Try.prog (Builtin.copy_ #[66, 66] 3 ⟨[(.slice (sub0 x0a x0c (Int.toNat x1) 4) (x0n - Int.toNat x1) (x0c - Int.toNat x1)), (.slice x2a x2n x2c)]⟩) hp fun u1 h2 => (intV u1 .i64 fun i3 => (K (upd (upd (upd (upd (upd (upd (upd (upd e 2 (sS x2a x2n x2c)) 1 (sI x1)) 0 (sS x0a x0n x0c)) 78 (sS x0a x0n x0c)) 79 (sI x1)) 80 (sV (.slice (sub0 x0a x0c (Int.toNat x1) 4) (x0n - Int.toNat x1) (x0c - Int.toNat x1)))) 81 (sS x2a x2n x2c)) 82 (sI i3)) V0 h2)))) := by kernel_rfl
theorem F132_r17 : R132 [1, 1, 1, 1, 1, 1, 1, 1, 0, 1, 0, 1, 1, 0] 2 (upd e 0 (sS x0a x0n x0c)) V0 hp K =
    (K (upd (upd (upd e 0 (sS x0a x0n x0c)) 83 (sS x0a x0n x0c)) 6 (sS x0a x0n x0c)) V0 hp) := by kernel_rfl
theorem F132_r18 : R132 [1, 1, 1, 1, 1, 1, 1, 1, 1, 0] 5 (upd (upd (upd e 8 (sI x8)) 2 (sS x2a x2n x2c)) 0 (sS x0a x0n x0c)) V0 hp K =
    ((0 ≤ x8) ∧ (x8 ≤ x0n) ∧ (x0n ≤ x0c) ∧ (opS Try.prog (Builtin.copy_ #[66, 66] 3 ⟨[(.slice (sub0 x0a x0c (Int.toNat x8) 4) (x0n - Int.toNat x8) (x0c - Int.toNat x8)), (.slice x2a x2n x2c)]⟩) hp fun u1 h2 => (intV u1 .i64 fun i3 => (K (upd (upd (upd (upd (upd (upd (upd (upd e 8 (sI x8)) 2 (sS x2a x2n x2c)) 0 (sS x0a x0n x0c)) 84 (sS x0a x0n x0c)) 85 (sI x8)) 86 (sV (.slice (sub0 x0a x0c (Int.toNat x8) 4) (x0n - Int.toNat x8) (x0c - Int.toNat x8)))) 87 (sS x2a x2n x2c)) 88 (sI i3)) V0 h2)))) := by kernel_rfl
theorem F132_r19 : R132 [1, 1, 1, 1, 1, 1, 1, 1, 1, 1, 0] 5 (upd (upd (upd e 7 (sI x7)) 1 (sI x1)) 0 (sS x0a x0n x0c)) V0 hp K =
    ((0 ≤ x1) ∧ (x1 ≤ x0n) ∧ (x0n ≤ x0c) ∧ (CF Try.prog 165 [(.slice (sub0 x0a x0c (Int.toNat x1) 4) (x0n - Int.toNat x1) (x0c - Int.toNat x1)), (.int .i64 x7)] hp fun u1 h2 => (K (upd (upd (upd (upd (upd (upd (upd (upd e 7 (sI x7)) 1 (sI x1)) 0 (sS x0a x0n x0c)) 89 (sS x0a x0n x0c)) 90 (sI x1)) 91 (sV (.slice (sub0 x0a x0c (Int.toNat x1) 4) (x0n - Int.toNat x1) (x0c - Int.toNat x1)))) 92 (sI x7)) 93 (sV u1)) V0 h2))) := by kernel_rfl
theorem F132_r20 : R132 [1, 1, 1, 1, 1, 1, 1, 1, 1, 1, 1, 0] 2 (upd e 0 (sS x0a x0n x0c)) V0 hp K =
    (K (upd (upd (upd e 0 (sS x0a x0n x0c)) 94 (sS x0a x0n x0c)) 6 (sS x0a x0n x0c)) V0 hp) := by kernel_rfl
def F132 (x0a : Option Addr) (x0n : Nat) (x0c : Nat) (x1 : Int) (x2a : Option Addr) (x2n : Nat) (x2c : Nat) (hp : HP) (K : Value → HP → Prop) : Prop :=
  ((0 ≤ x1) ∧ (x1 ≤ x0n) ∧ (x0n ≤ x0c) ∧ (ite2 (((x2n : Nat) : Int) == 0) (K (.slice x0a x0n x0c) hp) (ite2 (x1 == x0n) (opS Try.prog (Builtin.append_ #[66, 66] 66 ⟨[(.slice x0a x0n x0c), (.slice x2a x2n x2c)]⟩) hp fun u_1 h_2 => (slcV u_1 fun a_3 n_4 c_5 => (K (.slice a_3 n_4 c_5) h_2))) (ite2 (decide (((IntKind.wrap .i64 ((x0n : Nat) + (x2n : Nat))) : Int) > (x0c : Nat))) ((0 ≤ x1) ∧ (x1 ≤ (x0c : Nat)) ∧ (opS Try.prog (Builtin.append_ #[66, 3] 66 ⟨[(.slice x0a (Int.toNat x1) x0c), (.int .i64 (IntKind.wrap .i64 ((IntKind.wrap .i64 ((x0n : Nat) + (x2n : Nat))) - x1)))]⟩) hp fun u_6 h_7 => (slcV u_6 fun a_8 n_9 c_10 => ((0 ≤ x1) ∧ (x1 ≤ n_9) ∧ (n_9 ≤ c_10) ∧ (opS Try.prog (Builtin.copy_ #[66, 66] 3 ⟨[(.slice (sub0 a_8 c_10 (Int.toNat x1) 4) (n_9 - Int.toNat x1) (c_10 - Int.toNat x1)), (.slice x2a x2n x2c)]⟩) h_7 fun u_11 h_12 => (intV u_11 .i64 fun i_13 => ((0 ≤ ((IntKind.wrap .i64 (x1 + (x2n : Nat))) : Int)) ∧ (((IntKind.wrap .i64 (x1 + (x2n : Nat))) : Int) ≤ n_9) ∧ (n_9 ≤ c_10) ∧ ((0 ≤ x1) ∧ (x1 ≤ x0n) ∧ (x0n ≤ x0c) ∧ (opS Try.prog (Builtin.copy_ #[66, 66] 3 ⟨[(.slice (sub0 a_8 c_10 (Int.toNat (IntKind.wrap .i64 (x1 + (x2n : Nat)))) 4) (n_9 - Int.toNat (IntKind.wrap .i64 (x1 + (x2n : Nat)))) (c_10 - Int.toNat (IntKind.wrap .i64 (x1 + (x2n : Nat))))), (.slice (sub0 x0a x0c (Int.toNat x1) 4) (x0n - Int.toNat x1) (x0c - Int.toNat x1))]⟩) h_12 fun u_14 h_15 => (intV u_14 .i64 fun i_16 => (K (.slice a_8 n_9 c_10) h_15))))))))))) ((0 ≤ ((IntKind.wrap .i64 ((x0n : Nat) + (x2n : Nat))) : Int)) ∧ (((IntKind.wrap .i64 ((x0n : Nat) + (x2n : Nat))) : Int) ≤ (x0c : Nat)) ∧ ((0 ≤ ((IntKind.wrap .i64 (x1 + (x2n : Nat))) : Int)) ∧ (((IntKind.wrap .i64 (x1 + (x2n : Nat))) : Int) ≤ ((Int.toNat (IntKind.wrap .i64 ((x0n : Nat) + (x2n : Nat)))) : Nat)) ∧ ((Int.toNat (IntKind.wrap .i64 ((x0n : Nat) + (x2n : Nat)))) ≤ x0c) ∧ (CF Try.prog 164 [(.slice x2a x2n x2c), (.slice (sub0 x0a x0c (Int.toNat (IntKind.wrap .i64 (x1 + (x2n : Nat)))) 4) ((Int.toNat (IntKind.wrap .i64 ((x0n : Nat) + (x2n : Nat)))) - Int.toNat (IntKind.wrap .i64 (x1 + (x2n : Nat)))) (x0c - Int.toNat (IntKind.wrap .i64 (x1 + (x2n : Nat)))))] hp fun u_17 h_18 => (boolV u_17 fun q_19 => (ite2 (!q_19) ((0 ≤ ((IntKind.wrap .i64 (x1 + (x2n : Nat))) : Int)) ∧ (((IntKind.wrap .i64 (x1 + (x2n : Nat))) : Int) ≤ ((Int.toNat (IntKind.wrap .i64 ((x0n : Nat) + (x2n : Nat)))) : Nat)) ∧ ((Int.toNat (IntKind.wrap .i64 ((x0n : Nat) + (x2n : Nat)))) ≤ x0c) ∧ ((0 ≤ x1) ∧ (x1 ≤ ((Int.toNat (IntKind.wrap .i64 ((x0n : Nat) + (x2n : Nat)))) : Nat)) ∧ ((Int.toNat (IntKind.wrap .i64 ((x0n : Nat) + (x2n : Nat)))) ≤ x0c) ∧ (opS Try.prog (Builtin.copy_ #[66, 66] 3 ⟨[(.slice (sub0 x0a x0c (Int.toNat (IntKind.wrap .i64 (x1 + (x2n : Nat)))) 4) ((Int.toNat (IntKind.wrap .i64 ((x0n : Nat) + (x2n : Nat)))) - Int.toNat (IntKind.wrap .i64 (x1 + (x2n : Nat)))) (x0c - Int.toNat (IntKind.wrap .i64 (x1 + (x2n : Nat))))), (.slice (sub0 x0a x0c (Int.toNat x1) 4) ((Int.toNat (IntKind.wrap .i64 ((x0n : Nat) + (x2n : Nat)))) - Int.toNat x1) (x0c - Int.toNat x1))]⟩) h_18 fun u_20 h_21 => (intV u_20 .i64 fun i_22 => ((0 ≤ x1) ∧ (x1 ≤ ((Int.toNat (IntKind.wrap .i64 ((x0n : Nat) + (x2n : Nat)))) : Nat)) ∧ ((Int.toNat (IntKind.wrap .i64 ((x0n : Nat) + (x2n : Nat)))) ≤ x0c) ∧ (opS Try.prog (Builtin.copy_ #[66, 66] 3 ⟨[(.slice (sub0 x0a x0c (Int.toNat x1) 4) ((Int.toNat (IntKind.wrap .i64 ((x0n : Nat) + (x2n : Nat)))) - Int.toNat x1) (x0c - Int.toNat x1)), (.slice x2a x2n x2c)]⟩) h_21 fun u_23 h_24 => (intV u_23 .i64 fun i_25 => (K (.slice x0a (Int.toNat (IntKind.wrap .i64 ((x0n : Nat) + (x2n : Nat)))) x0c) h_24)))))))) ((0 ≤ ((x0n : Nat) : Int)) ∧ (((x0n : Nat) : Int) ≤ ((Int.toNat (IntKind.wrap .i64 ((x0n : Nat) + (x2n : Nat)))) : Nat)) ∧ ((Int.toNat (IntKind.wrap .i64 ((x0n : Nat) + (x2n : Nat)))) ≤ x0c) ∧ (opS Try.prog (Builtin.copy_ #[66, 66] 3 ⟨[(.slice (sub0 x0a x0c (Int.toNat (x0n : Nat)) 4) ((Int.toNat (IntKind.wrap .i64 ((x0n : Nat) + (x2n : Nat)))) - Int.toNat (x0n : Nat)) (x0c - Int.toNat (x0n : Nat))), (.slice x2a x2n x2c)]⟩) h_18 fun u_26 h_27 => (intV u_26 .i64 fun i_28 => ((0 ≤ x1) ∧ (x1 ≤ ((Int.toNat (IntKind.wrap .i64 ((x0n : Nat) + (x2n : Nat)))) : Nat)) ∧ ((Int.toNat (IntKind.wrap .i64 ((x0n : Nat) + (x2n : Nat)))) ≤ x0c) ∧ (CF Try.prog 165 [(.slice (sub0 x0a x0c (Int.toNat x1) 4) ((Int.toNat (IntKind.wrap .i64 ((x0n : Nat) + (x2n : Nat)))) - Int.toNat x1) (x0c - Int.toNat x1)), (.int .i64 (x2n : Nat))] h_27 fun u_29 h_30 => (K (.slice x0a (Int.toNat (IntKind.wrap .i64 ((x0n : Nat) + (x2n : Nat)))) x0c) h_30)))))))))))))))
noncomputable def F132_code : Code := (.seq (.region 0 (opsAt Try.f132 [0]) false) (.seq (.region 1 (opsAt Try.f132 [1, 0]) false) (.seq (.region 2 (opsAt Try.f132 [1, 1, 0]) false) (.seq (.seq (.region 3 (opsAt Try.f132 [1, 1, 1, 0, 0]) false) (.cond (.tmp 16) (.seq (.region 4 (opsAt Try.f132 [1, 1, 1, 0, 1, 0, 0]) false) .ret) .skip)) (.seq (.region 5 (opsAt Try.f132 [1, 1, 1, 1, 0]) false) (.seq (.seq (.region 6 (opsAt Try.f132 [1, 1, 1, 1, 1, 0, 0]) false) (.cond (.tmp 22) (.seq (.region 7 (opsAt Try.f132 [1, 1, 1, 1, 1, 0, 1, 0, 0]) false) .ret) .skip)) (.seq (.seq (.region 8 (opsAt Try.f132 [1, 1, 1, 1, 1, 1, 0, 0]) false) (.cond (.tmp 31) (.seq (.region 9 (opsAt Try.f132 [1, 1, 1, 1, 1, 1, 0, 1, 0, 0]) false) (.seq (.region 10 (opsAt Try.f132 [1, 1, 1, 1, 1, 1, 0, 1, 0, 1, 0]) false) (.seq (.region 11 (opsAt Try.f132 [1, 1, 1, 1, 1, 1, 0, 1, 0, 1, 1, 0]) true) (.seq (.region 12 (opsAt Try.f132 [1, 1, 1, 1, 1, 1, 0, 1, 0, 1, 1, 1, 0]) false) .ret)))) .skip)) (.seq (.region 13 (opsAt Try.f132 [1, 1, 1, 1, 1, 1, 1, 0]) false) (.seq (.seq (.region 14 (opsAt Try.f132 [1, 1, 1, 1, 1, 1, 1, 1, 0, 0]) false) (.cond (.tmp 68) (.seq (.region 15 (opsAt Try.f132 [1, 1, 1, 1, 1, 1, 1, 1, 0, 1, 0, 0]) true) (.seq (.region 16 (opsAt Try.f132 [1, 1, 1, 1, 1, 1, 1, 1, 0, 1, 0, 1, 0]) false) (.seq (.region 17 (opsAt Try.f132 [1, 1, 1, 1, 1, 1, 1, 1, 0, 1, 0, 1, 1, 0]) false) .ret))) .skip)) (.seq (.region 18 (opsAt Try.f132 [1, 1, 1, 1, 1, 1, 1, 1, 1, 0]) false) (.seq (.region 19 (opsAt Try.f132 [1, 1, 1, 1, 1, 1, 1, 1, 1, 1, 0]) false) (.seq (.region 20 (opsAt Try.f132 [1, 1, 1, 1, 1, 1, 1, 1, 1, 1, 1, 0]) false) .ret))))))))))))
theorem F132_body : Try.f132.body = some F132_code := by kernel_rfl
theorem F132_ok (x0a : Option Addr) (x0n : Nat) (x0c : Nat) (x1 : Int) (x2a : Option Addr) (x2n : Nat) (x2c : Nat) (hp : HP) (K : Value → HP → Prop) (h : F132 x0a x0n x0c x1 x2a x2n x2c hp K) : CF Try.prog 132 [(.slice x0a x0n x0c), (.int .i64 x1), (.slice x2a x2n x2c)] hp K := by
 refine .inl ⟨by kernel_rfl, AC.intro (N := 95) Try.func132 F132_body rfl (Nat.le_of_ble_eq_true rfl) ?_⟩
 unfold F132 at h
 unfold F132_code
 refine AWP.seq' ?_
 refine AWP.rgn (F132_r0 (upd (upd (upd E0 2 (sS x2a x2n x2c)) 1 (sI x1)) 0 (sS x0a x0n x0c))  hp _) ?_ (Ru 0 (Ru 1 (Ru 2 Rn))) (Sc rfl (Sc rfl (Sc rfl Sn))) Sn
 refine AWP.seq' ?_
 refine AWP.rgn (F132_r1 (upd E0 2 (sS x2a x2n x2c)) x0a x0n x0c x1 hp _) ?_ (Ru 0 (Ru 1 (Ru 2 Rn))) (Sc rfl (Sc rfl (Sc rfl Sn))) Sn
 refine ⟨h.1, h.2.1, h.2.2.1, ?_⟩
 replace h := h.2.2.2
 refine AWP.seq' ?_
 refine AWP.rgn (F132_r2 (upd (upd E0 1 (sI x1)) 0 (sS x0a x0n x0c)) x2a x2n x2c hp _) ?_ (Ru 2 (Ru 0 (Ru 1 Rn))) (Sc rfl (Sc rfl (Sc rfl Sn))) Sn
 refine AWP.seq' ?_
 refine AWP.seq' ?_
 refine AWP.rgn (F132_r3 (upd (upd (upd E0 2 (sS x2a x2n x2c)) 1 (sI x1)) 0 (sS x0a x0n x0c)) (x2n : Nat) hp _) ?_ (Ru 7 (Ru 0 (Ru 1 (Ru 2 Rn)))) (Sc rfl (Sc rfl (Sc rfl (Sc rfl Sn)))) Sn
 refine AWP.cond (t := (((x2n : Nat) : Int) == 0)) rfl (fun e => ?_) (fun e => ?_)
 ·replace h := ite2_t h e
  refine AWP.seq' ?_
  refine AWP.rgn (F132_r4 E0 x0a x0n x0c hp _) ?_ (Ru 0 Rn) (Sc rfl Sn) Sn
  refine AWP.ret ?_
  exact h
 ·replace h := ite2_f h e
  refine AWP.skip ?_
  refine AWP.seq' ?_
  refine AWP.rgn (F132_r5 (upd (upd (upd E0 7 (sI ((x2n : Nat)))) 2 (sS x2a x2n x2c)) 1 (sI x1)) x0a x0n x0c hp _) ?_ (Ru 0 (Ru 1 (Ru 2 (Ru 7 Rn)))) (Sc rfl (Sc rfl (Sc rfl (Sc rfl Sn)))) Sn
  refine AWP.seq' ?_
  refine AWP.seq' ?_
  refine AWP.rgn (F132_r6 (upd (upd (upd E0 7 (sI ((x2n : Nat)))) 2 (sS x2a x2n x2c)) 0 (sS x0a x0n x0c)) x1 (x0n : Nat) hp _) ?_ (Ru 1 (Ru 8 (Ru 0 (Ru 2 (Ru 7 Rn))))) (Sc rfl (Sc rfl (Sc rfl (Sc rfl (Sc rfl Sn))))) Sn
  refine AWP.cond (t := (x1 == x0n)) rfl (fun e => ?_) (fun e => ?_)
  ·replace h := ite2_t h e
   refine AWP.seq' ?_
   refine AWP.rgn (F132_r7 E0 x0a x0n x0c x2a x2n x2c hp _) ?_ (Ru 0 (Ru 2 Rn)) (Sc rfl (Sc rfl Sn)) Sn
   refine mO h fun u_1 h_2 h => mS h fun a_3 n_4 c_5 h => ?_
   refine AWP.ret ?_
   exact h
  ·replace h := ite2_f h e
   refine AWP.skip ?_
   refine AWP.seq' ?_
   refine AWP.seq' ?_
   refine AWP.rgn (F132_r8 (upd (upd E0 2 (sS x2a x2n x2c)) 1 (sI x1)) x0a x0n x0c (x2n : Nat) (x0n : Nat) hp _) ?_ (Ru 0 (Ru 7 (Ru 8 (Ru 1 (Ru 2 Rn))))) (Sc rfl (Sc rfl (Sc rfl (Sc rfl (Sc rfl Sn))))) Sn
   refine AWP.cond (t := (decide (((wr ((x0n : Nat) + (x2n : Nat))) : Int) > (x0c : Nat)))) rfl (fun e => ?_) (fun e => ?_)
   ·replace h := ite2_t h e
    refine AWP.seq' ?_
    refine AWP.rgn (F132_r9 (upd E0 2 (sS x2a x2n x2c)) x0a x0n x0c x1 (x2n : Nat) (x0n : Nat) hp _) ?_ (Ru 0 (Ru 1 (Ru 7 (Ru 8 (Ru 2 Rn))))) (Sc rfl (Sc rfl (Sc rfl (Sc rfl (Sc rfl Sn))))) Sn
    refine ⟨h.1, h.2.1, mO h.2.2 fun u_6 h_7 h => mS h fun a_8 n_9 c_10 h => ?_⟩
    refine AWP.seq' ?_
    refine AWP.rgn (F132_r10 (upd (upd E0 7 (sI ((x2n : Nat)))) 0 (sS x0a x0n x0c)) x1 x2a x2n x2c a_8 n_9 c_10 h_7 _) ?_ (Ru 1 (Ru 2 (Ru 9 (Ru 0 (Ru 7 Rn))))) (Sc rfl (Sc rfl (Sc rfl (Sc rfl (Sc rfl Sn))))) Sn
    refine ⟨h.1, h.2.1, h.2.2.1, ?_⟩
    replace h := h.2.2.2
    refine mO h fun u_11 h_12 h => mI h fun i_13 h => ?_
    refine AWP.seq' ?_
    refine AWP.rgnD (by kernel_rfl) (by kernel_rfl) (F132_r11 E0 x0a x0n x0c x1 (x2n : Nat) a_8 n_9 c_10 h_12 _) ?_ (Ru 0 (Ru 1 (Ru 7 (Ru 9 Rn)))) (Sc rfl (Sc rfl (Sc rfl (Sc rfl Sn)))) Sn
    refine ⟨h.1, h.2.1, h.2.2.1, ?_⟩
    replace h := h.2.2.2
    refine ⟨h.1, h.2.1, h.2.2.1, ?_⟩
    replace h := h.2.2.2
    refine mO h fun u_14 h_15 h => mI h fun i_16 h => ?_
    refine AWP.seq' ?_
    refine AWP.rgn (F132_r12 E0 a_8 n_9 c_10 h_15 _) ?_ (Ru 9 Rn) (Sc rfl Sn) Sn
    refine AWP.ret ?_
    exact h
   ·replace h := ite2_f h e
    refine AWP.skip ?_
    refine AWP.seq' ?_
    refine AWP.rgn (F132_r13 (upd (upd E0 2 (sS x2a x2n x2c)) 1 (sI x1)) x0a x0n x0c (x2n : Nat) (x0n : Nat) hp _) ?_ (Ru 0 (Ru 7 (Ru 8 (Ru 1 (Ru 2 Rn))))) (Sc rfl (Sc rfl (Sc rfl (Sc rfl (Sc rfl Sn))))) Sn
    refine ⟨h.1, h.2.1, ?_⟩
    replace h := h.2.2
    refine AWP.seq' ?_
    refine AWP.seq' ?_
    refine AWP.rgn (F132_r14 (upd E0 8 (sI ((x0n : Nat)))) x0a (Int.toNat (wr ((x0n : Nat) + (x2n : Nat)))) x0c x1 x2a x2n x2c (x2n : Nat) hp _) ?_ (Ru 0 (Ru 1 (Ru 2 (Ru 7 (Ru 8 Rn))))) (Sc rfl (Sc rfl (Sc rfl (Sc rfl (Sc rfl Sn))))) Sn
    refine ⟨h.1, h.2.1, h.2.2.1, ?_⟩
    replace h := h.2.2.2
    refine mC h fun u_17 h_18 h => mB h fun q_19 h => ?_
    refine AWP.cond (t := (!q_19)) rfl (fun e => ?_) (fun e => ?_)
    ·replace h := ite2_t h e
     refine AWP.seq' ?_
     refine AWP.rgnD (by kernel_rfl) (by kernel_rfl) (F132_r15 (upd E0 2 (sS x2a x2n x2c)) x0a (Int.toNat (wr ((x0n : Nat) + (x2n : Nat)))) x0c x1 (x2n : Nat) h_18 _) ?_ (Ru 0 (Ru 1 (Ru 7 (Ru 2 Rn)))) (Sc rfl (Sc rfl (Sc rfl (Sc rfl Sn)))) Sn
     refine ⟨h.1, h.2.1, h.2.2.1, ?_⟩
     replace h := h.2.2.2
     refine ⟨h.1, h.2.1, h.2.2.1, ?_⟩
     replace h := h.2.2.2
     refine mO h fun u_20 h_21 h => mI h fun i_22 h => ?_
     refine AWP.seq' ?_
     refine AWP.rgn (F132_r16 E0 x0a (Int.toNat (wr ((x0n : Nat) + (x2n : Nat)))) x0c x1 x2a x2n x2c h_21 _) ?_ (Ru 0 (Ru 1 (Ru 2 Rn))) (Sc rfl (Sc rfl (Sc rfl Sn))) Sn
     refine ⟨h.1, h.2.1, h.2.2.1, ?_⟩
     replace h := h.2.2.2
     refine mO h fun u_23 h_24 h => mI h fun i_25 h => ?_
     refine AWP.seq' ?_
     refine AWP.rgn (F132_r17 E0 x0a (Int.toNat (wr ((x0n : Nat) + (x2n : Nat)))) x0c h_24 _) ?_ (Ru 0 Rn) (Sc rfl Sn) Sn
     refine AWP.ret ?_
     exact h
    ·replace h := ite2_f h e
     refine AWP.skip ?_
     refine AWP.seq' ?_
     refine AWP.rgn (F132_r18 (upd (upd E0 7 (sI ((x2n : Nat)))) 1 (sI x1)) x0a (Int.toNat (wr ((x0n : Nat) + (x2n : Nat)))) x0c x2a x2n x2c (x0n : Nat) h_18 _) ?_ (Ru 0 (Ru 2 (Ru 8 (Ru 1 (Ru 7 Rn))))) (Sc rfl (Sc rfl (Sc rfl (Sc rfl (Sc rfl Sn))))) Sn
     refine ⟨h.1, h.2.1, h.2.2.1, ?_⟩
     replace h := h.2.2.2
     refine mO h fun u_26 h_27 h => mI h fun i_28 h => ?_
     refine AWP.seq' ?_
     refine AWP.rgn (F132_r19 E0 x0a (Int.toNat (wr ((x0n : Nat) + (x2n : Nat)))) x0c x1 (x2n : Nat) h_27 _) ?_ (Ru 0 (Ru 1 (Ru 7 Rn))) (Sc rfl (Sc rfl (Sc rfl Sn))) Sn
     refine ⟨h.1, h.2.1, h.2.2.1, ?_⟩
     replace h := h.2.2.2
     refine mC h fun u_29 h_30 h => ?_
     refine AWP.seq' ?_
     refine AWP.rgn (F132_r20 E0 x0a (Int.toNat (wr ((x0n : Nat) + (x2n : Nat)))) x0c h_30 _) ?_ (Ru 0 Rn) (Sc rfl Sn) Sn
     refine AWP.ret ?_
     exact h
end
-- 133 slices.Delete[[]interpreter/api.V4,interpreter/api.V4]
section
variable (e : Env) (x0a : Option Addr) (x0n x0c : Nat) (x1 x2 x7 : Int) (hp : HP) (K : Env → PV → HP → Prop)
abbrev R133 (p : List Nat) (n : Nat) := RW Try.prog 33 [] (opsAt Try.f133 p) (List.range n)
theorem F133_r0 : R133 [0] 1 e V0 hp K =
    (K (upd e 6 (sS none 0 0)) V0 hp) := by kernel_rfl
theorem F133_r1 : R133 [1, 0] 6 (upd (upd (upd e 2 (sI x2)) 1 (sI x1)) 0 (sS x0a x0n x0c)) V0 hp K =
    ((0 ≤ x1) ∧ (x1 ≤ x2) ∧ (x2 ≤ ((x0n : Nat) : Int)) ∧ (((x0n : Nat) : Int) ≤ (x0c : Nat)) ∧ (K (upd (upd (upd (upd (upd (upd (upd (upd (upd e 2 (sI x2)) 1 (sI x1)) 0 (sS x0a x0n x0c)) 8 (sS x0a x0n x0c)) 9 (sI x1)) 10 (sI x2)) 11 (sS x0a x0n x0c)) 12 (sI ((x0n : Nat)))) 13 (sV (.slice (sub0 x0a (Int.toNat (x0n : Nat)) (Int.toNat x1) 4) (Int.toNat x2 - Int.toNat x1) (Int.toNat (x0n : Nat) - Int.toNat x1)))) V0 hp)) := by kernel_rfl
theorem F133_r2 : R133 [1, 1, 0, 0] 3 (upd (upd e 2 (sI x2)) 1 (sI x1)) V0 hp K =
    (K (upd (upd (upd (upd (upd e 2 (sI x2)) 1 (sI x1)) 14 (sI x1)) 15 (sI x2)) 16 (sB ((x1 == x2)))) V0 hp) := by kernel_rfl
theorem F133_r3 : R133 [1, 1, 0, 1, 0, 0] 2 (upd e 0 (sS x0a x0n x0c)) V0 hp K =
    (K (upd (upd (upd e 0 (sS x0a x0n x0c)) 17 (sS x0a x0n x0c)) 6 (sS x0a x0n x0c)) V0 hp) := by kernel_rfl
theorem F133_r4 : R133 [1, 1, 1, 0] 3 (upd e 0 (sS x0a x0n x0c)) V0 hp K =
    (K (upd (upd (upd (upd e 0 (sS x0a x0n x0c)) 18 (sS x0a x0n x0c)) 19 (sI ((x0n : Nat)))) 7 (sI ((x0n : Nat)))) V0 hp) := by kernel_rfl
theorem F133_r5 : R133 [1, 1, 1, 1, 0] 8 (upd (upd (upd e 2 (sI x2)) 1 (sI x1)) 0 (sS x0a x0n x0c)) V0 hp K =
    ((0 ≤ x1) ∧ (x1 ≤ (x0c : Nat)) ∧ ((0 ≤ x2) ∧ (x2 ≤ x0n) ∧ (x0n ≤ x0c) ∧ (opS Try.prog (Builtin.append_ #[66, 66] 66 ⟨[(.slice x0a (Int.toNat x1) x0c), (.slice (sub0 x0a x0c (Int.toNat x2) 4) (x0n - Int.toNat x2) (x0c - Int.toNat x2))]⟩) hp fun u1 h2 => (slcV u1 fun a3 n4 c5 => (K (upd (upd (upd (upd (upd (upd (upd (upd (upd (upd (upd e 2 (sI x2)) 1 (sI x1)) 0 (sS x0a x0n x0c)) 20 (sS x0a x0n x0c)) 21 (sI x1)) 22 (sV (.slice x0a (Int.toNat x1) x0c))) 23 (sS x0a x0n x0c)) 24 (sI x2)) 25 (sV (.slice (sub0 x0a x0c (Int.toNat x2) 4) (x0n - Int.toNat x2) (x0c - Int.toNat x2)))) 26 (sS a3 n4 c5)) 0 (sS a3 n4 c5)) V0 h2))))) := by kernel_rfl
theorem F133_r6 : R133 [1, 1, 1, 1, 1, 0] 6 (upd (upd e 7 (sI x7)) 0 (sS x0a x0n x0c)) V0 hp K =
    ((0 ≤ ((x0n : Nat) : Int)) ∧ (((x0n : Nat) : Int) ≤ x7) ∧ (x7 ≤ (x0c : Nat)) ∧ (opS Try.prog (Builtin.clear_ #[66] 0 ⟨[(.slice (sub0 x0a x0c (Int.toNat (x0n : Nat)) 4) (Int.toNat x7 - Int.toNat (x0n : Nat)) (x0c - Int.toNat (x0n : Nat)))]⟩) hp fun u1 h2 => (K (upd (upd (upd (upd (upd (upd (upd e 7 (sI x7)) 0 (sS x0a x0n x0c)) 27 (sS x0a x0n x0c)) 28 (sS x0a x0n x0c)) 29 (sI ((x0n : Nat)))) 30 (sI x7)) 31 (sV (.slice (sub0 x0a x0c (Int.toNat (x0n : Nat)) 4) (Int.toNat x7 - Int.toNat (x0n : Nat)) (x0c - Int.toNat (x0n : Nat))))) V0 h2))) := by kernel_rfl
theorem F133_r7 : R133 [1, 1, 1, 1, 1, 1, 0] 2 (upd e 0 (sS x0a x0n x0c)) V0 hp K =
    (K (upd (upd (upd e 0 (sS x0a x0n x0c)) 32 (sS x0a x0n x0c)) 6 (sS x0a x0n x0c)) V0 hp) := by kernel_rfl
def F133 (x0a : Option Addr) (x0n : Nat) (x0c : Nat) (x1 : Int) (x2 : Int) (hp : HP) (K : Value → HP → Prop) : Prop :=
  ((0 ≤ x1) ∧ (x1 ≤ x2) ∧ (x2 ≤ ((x0n : Nat) : Int)) ∧ (((x0n : Nat) : Int) ≤ (x0c : Nat)) ∧ (ite2 (x1 == x2) (K (.slice x0a x0n x0c) hp) ((0 ≤ x1) ∧ (x1 ≤ (x0c : Nat)) ∧ ((0 ≤ x2) ∧ (x2 ≤ x0n) ∧ (x0n ≤ x0c) ∧ (opS Try.prog (Builtin.append_ #[66, 66] 66 ⟨[(.slice x0a (Int.toNat x1) x0c), (.slice (sub0 x0a x0c (Int.toNat x2) 4) (x0n - Int.toNat x2) (x0c - Int.toNat x2))]⟩) hp fun u_1 h_2 => (slcV u_1 fun a_3 n_4 c_5 => ((0 ≤ ((n_4 : Nat) : Int)) ∧ (((n_4 : Nat) : Int) ≤ ((x0n : Nat) : Int)) ∧ (((x0n : Nat) : Int) ≤ (c_5 : Nat)) ∧ (opS Try.prog (Builtin.clear_ #[66] 0 ⟨[(.slice (sub0 a_3 c_5 (Int.toNat (n_4 : Nat)) 4) (Int.toNat (x0n : Nat) - Int.toNat (n_4 : Nat)) (c_5 - Int.toNat (n_4 : Nat)))]⟩) h_2 fun u_6 h_7 => (K (.slice a_3 n_4 c_5) h_7)))))))))
noncomputable def F133_code : Code := (.seq (.region 0 (opsAt Try.f133 [0]) false) (.seq (.region 1 (opsAt Try.f133 [1, 0]) false) (.seq (.seq (.region 2 (opsAt Try.f133 [1, 1, 0, 0]) false) (.cond (.tmp 16) (.seq (.region 3 (opsAt Try.f133 [1, 1, 0, 1, 0, 0]) false) .ret) .skip)) (.seq (.region 4 (opsAt Try.f133 [1, 1, 1, 0]) false) (.seq (.region 5 (opsAt Try.f133 [1, 1, 1, 1, 0]) true) (.seq (.region 6 (opsAt Try.f133 [1, 1, 1, 1, 1, 0]) false) (.seq (.region 7 (opsAt Try.f133 [1, 1, 1, 1, 1, 1, 0]) false) .ret)))))))
theorem F133_body : Try.f133.body = some F133_code := by kernel_rfl
theorem F133_ok (x0a : Option Addr) (x0n : Nat) (x0c : Nat) (x1 : Int) (x2 : Int) (hp : HP) (K : Value → HP → Prop) (h : F133 x0a x0n x0c x1 x2 hp K) : CF Try.prog 133 [(.slice x0a x0n x0c), (.int .i64 x1), (.int .i64 x2)] hp K := by
 refine .inl ⟨by kernel_rfl, AC.intro (N := 33) Try.func133 F133_body rfl (Nat.le_of_ble_eq_true rfl) ?_⟩
 unfold F133 at h
 unfold F133_code
 refine AWP.seq' ?_
 refine AWP.rgn (F133_r0 (upd (upd (upd E0 2 (sI x2)) 1 (sI x1)) 0 (sS x0a x0n x0c))  hp _) ?_ (Ru 0 (Ru 1 (Ru 2 Rn))) (Sc rfl (Sc rfl (Sc rfl Sn))) Sn
 refine AWP.seq' ?_
 refine AWP.rgn (F133_r1 E0 x0a x0n x0c x1 x2 hp _) ?_ (Ru 0 (Ru 1 (Ru 2 Rn))) (Sc rfl (Sc rfl (Sc rfl Sn))) Sn
 refine ⟨h.1, h.2.1, h.2.2.1, h.2.2.2.1, ?_⟩
 replace h := h.2.2.2.2
 refine AWP.seq' ?_
 refine AWP.seq' ?_
 refine AWP.rgn (F133_r2 (upd E0 0 (sS x0a x0n x0c)) x1 x2 hp _) ?_ (Ru 1 (Ru 2 (Ru 0 Rn))) (Sc rfl (Sc rfl (Sc rfl Sn))) Sn
 refine AWP.cond (t := (x1 == x2)) rfl (fun e => ?_) (fun e => ?_)
 ·replace h := ite2_t h e
  refine AWP.seq' ?_
  refine AWP.rgn (F133_r3 E0 x0a x0n x0c hp _) ?_ (Ru 0 Rn) (Sc rfl Sn) Sn
  refine AWP.ret ?_
  exact h
 ·replace h := ite2_f h e
  refine AWP.skip ?_
  refine AWP.seq' ?_
  refine AWP.rgn (F133_r4 (upd (upd E0 2 (sI x2)) 1 (sI x1)) x0a x0n x0c hp _) ?_ (Ru 0 (Ru 1 (Ru 2 Rn))) (Sc rfl (Sc rfl (Sc rfl Sn))) Sn
  refine AWP.seq' ?_
  refine AWP.rgnD (by kernel_rfl) (by kernel_rfl) (F133_r5 (upd E0 7 (sI ((x0n : Nat)))) x0a x0n x0c x1 x2 hp _) ?_ (Ru 0 (Ru 1 (Ru 2 (Ru 7 Rn)))) (Sc rfl (Sc rfl (Sc rfl (Sc rfl Sn)))) Sn
  refine ⟨h.1, h.2.1, ?_⟩
  replace h := h.2.2
  refine ⟨h.1, h.2.1, h.2.2.1, ?_⟩
  replace h := h.2.2.2
  refine mO h fun u_1 h_2 h => mS h fun a_3 n_4 c_5 h => ?_
  refine AWP.seq' ?_
  refine AWP.rgn (F133_r6 E0 a_3 n_4 c_5 (x0n : Nat) h_2 _) ?_ (Ru 0 (Ru 7 Rn)) (Sc rfl (Sc rfl Sn)) Sn
  refine ⟨h.1, h.2.1, h.2.2.1, ?_⟩
  replace h := h.2.2.2
  refine mO h fun u_6 h_7 h => ?_
  refine AWP.seq' ?_
  refine AWP.rgn (F133_r7 E0 a_3 n_4 c_5 h_7 _) ?_ (Ru 0 Rn) (Sc rfl Sn) Sn
  refine AWP.ret ?_
  exact h
end
end Go.Proofs

set_option linter.unusedVariables false
set_option maxRecDepth 20000
namespace Go.Proofs
open Go Go.HL

theorem sub0_at {b c k : Nat} (h : c ≠ k) : sub0 (some ⟨b, 0, none⟩) c k 4 = some ⟨b, k * 4, none⟩ := by
  unfold sub0
  rw [if_neg h, Option.map_some, add_eq, Nat.zero_add]

theorem shows_drop {hp : HP} {b : Nat} {l : List Q} {sp k c : Nat} (hb : hp b = .cells 73 (l.flatMap v4) sp) (hk : k ≤ l.length) (hc : l.length ≤ c) :
    Shows hp (sub0 (some ⟨b, 0, none⟩) c k 4) (l.length - k) 4 ((l.drop k).flatMap v4) := by
  by_cases h : k = l.length
  · left
    subst h
    simp
  · right
    refine ⟨b, k * 4, sub0_at (by omega), ?_⟩
    rw [HP.cellN_of hb, cellsN_of (by rw [flat_len v4_len, Nat.sub_mul]; omega), flat_drop v4_len, List.take_of_length_le (by rw [flat_len v4_len]; simp)]

theorem C133 {b c n i sp : Nat} {l : List Q} {hp : HP} {K : Value → HP → Prop} (hb : hp b = .cells 73 (l.flatMap v4) sp) (hl : l.length = n) (hi : i < n) (hc : n ≤ c) (hn : n ≤ 1000000)
    (h : ∀ zs : List Value, zs.length = 4 → zs.all one = true → K (.slice (some ⟨b, 0, none⟩) (n - 1) c) (hp.set b (.cells 73 ((l.eraseIdx i).flatMap v4 ++ zs) sp))) :
    CF Try.prog 133 [.slice (some ⟨b, 0, none⟩) n c, .int .i64 i, .int .i64 ((i : Int) + 1)] hp K := by
  refine F133_ok _ n c i ((i : Int) + 1) hp K ?_
  unfold F133
  refine ⟨by omega, by omega, by omega, by omega, ?_⟩
  have e : ((i : Int) == (i : Int) + 1) = false := by
    rw [beq_eq_false_iff_ne]; omega
  rw [e, ite2_false]
  refine ⟨by omega, by omega, by omega, by omega, hc, ?_⟩
  have e1 : Int.toNat ((i : Int) + 1) = i + 1 := by omega
  rw [Int.toNat_natCast, e1]
  subst hl
  refine opS_append_in (e := 73) (size := 4) (bytes := 4) (by kernel_rfl) hb (shows_drop hb (by omega) hc) (all_flat v4_one _) (by omega) (by rw [flat_len v4_len]; omega) ?_
  rw [slcV_slice]
  have hn1 : i + (l.length - (i + 1)) = l.length - 1 := by omega
  have hcs : splice (l.flatMap v4) (0 + i * 4) ((l.drop (i + 1)).flatMap v4) = (l.eraseIdx i).flatMap v4 ++ (l.drop (l.length - 1)).flatMap v4 := by
    have hyl : ((l.drop (i + 1)).flatMap v4).length = (l.length - (i + 1)) * 4 := by rw [flat_len v4_len]; simp
    rw [splice_eq _ _ _ (by rw [hyl, flat_len v4_len]; omega), hyl, Nat.zero_add, flat_take v4_len, show i * 4 + (l.length - (i + 1)) * 4 = (l.length - 1) * 4 by omega, flat_drop v4_len,
      List.eraseIdx_eq_take_drop_succ, List.flatMap_append]
  rw [hcs, hn1]
  refine ⟨by omega, by omega, by omega, ?_⟩
  rw [Int.toNat_natCast, Int.toNat_natCast, sub0_at (by omega)]
  have hel : ((l.eraseIdx i).flatMap v4).length = (l.length - 1) * 4 := by rw [flat_len v4_len, List.length_eraseIdx_of_lt hi]
  have hll : ((l.drop (l.length - 1)).flatMap v4).length = 4 := by rw [flat_len v4_len]; simp; omega
  refine opS_clear_in (e := 73) (size := 4) (bytes := 4) (by kernel_rfl) (by kernel_rfl) (HP.set_eq ..) (by rw [List.length_append, hel, hll]; omega) ?_
  intro zs hzs hz1
  have hz4 : zs.length = 4 := by rw [hzs]; omega
  rw [splice_eq _ _ _ (by rw [List.length_append, hel, hll, hz4]; omega), HP.set_set, ← hel, List.take_left, List.drop_append, List.drop_eq_nil_of_le (by omega), List.nil_append,
    List.drop_eq_nil_of_le (by rw [hll, hz4]; omega), List.append_nil]
  exact h zs hz4 hz1
end Go.Proofs

set_option linter.unusedVariables false
set_option maxRecDepth 20000
namespace Go.Proofs
open Go Go.HL

theorem C132 {b b2 c n sp sp2 : Nat} {l : List Q} {zs : List Value} {q : Q} {hp : HP} {K : Value → HP → Prop} (hb : hp b = .cells 73 (l.flatMap v4 ++ zs) sp) (hzs : zs.length = 4) (hz1 : zs.all one = true) (hl : l.length = n) (h0 : 0 < n) (hc : n + 1 ≤ c) (hn : n ≤ 1000000)
    (hb2 : hp b2 = .cells 73 (v4 q) sp2) (hne : b2 ≠ b)
    (h : K (.slice (some ⟨b, 0, none⟩) (n + 1) c) (hp.set b (.cells 73 ((q :: l).flatMap v4) sp))) :
    CF Try.prog 132 [.slice (some ⟨b, 0, none⟩) n c, .int .i64 0, .slice (some ⟨b2, 0, none⟩) 1 1] hp K := by
  refine F132_ok _ n c 0 _ 1 1 hp K ?_
  unfold F132
  refine ⟨by omega, by omega, by omega, ?_⟩
  have e0 : (((1 : Nat) : Int) == 0) = false := by decide
  have e1 : ((0 : Int) == (n : Int)) = false := by rw [beq_eq_false_iff_ne]; omega
  rw [e0, ite2_false, e1, ite2_false]
  rw [w64 (n := ((n : Nat) : Int) + ((1 : Nat) : Int)) (by omega) (by omega), w64 (n := (0 : Int) + ((1 : Nat) : Int)) (by omega) (by omega)]
  rw [decide_eq_false (by omega : ¬ ((n : Nat) : Int) + ((1 : Nat) : Int) > (c : Int)), ite2_false]
  have t1 : Int.toNat (((n : Nat) : Int) + ((1 : Nat) : Int)) = n + 1 := by omega
  have t0 : Int.toNat ((0 : Int) + ((1 : Nat) : Int)) = 1 := by omega
  have tz : Int.toNat (0 : Int) = 0 := rfl
  simp only [t1, t0, tz]
  refine ⟨by omega, by omega, by omega, by omega, by omega, ?_⟩
  rw [sub0_at (by omega), sub0_at (by omega)]
  refine C164 hb2 hb hne (fun hh => by have := congrArg List.length hh; rw [List.length_append, hzs] at this; simp at this) ?_
  rw [boolV_bool]
  simp only [Bool.not_false, ite2_true]
  refine ⟨by omega, by omega, by omega, by omega, by omega, by omega, ?_⟩
  have hfl : (l.flatMap v4).length = n * 4 := by rw [flat_len v4_len, hl]
  have hsh : Shows hp (some ⟨b, 0 * 4, none⟩) (n + 1 - 0) 4 (l.flatMap v4 ++ zs) := by
    right
    refine ⟨b, 0 * 4, rfl, ?_⟩
    rw [HP.cellN_of hb, Nat.zero_mul]
    exact cellsN_all (by rw [List.length_append, hfl, hzs]; omega)
  refine opS_copy_in (e := 73) (size := 4) (bytes := 4) (by kernel_rfl) hb hsh (by rw [List.all_append, all_flat v4_one, hz1]; rfl) (by rw [List.length_append, hfl, hzs]; omega) ?_
  rw [intV_int]
  refine ⟨by omega, by omega, by omega, ?_⟩
  have hmin : Nat.min (n + 1 - 0) (n + 1 - 1) = n := by
    show min _ _ = _
    omega
  rw [hmin]
  have hcs : splice (l.flatMap v4 ++ zs) (1 * 4) ((l.flatMap v4 ++ zs).take (n * 4)) = (l.flatMap v4 ++ zs).take 4 ++ l.flatMap v4 := by
    have ht : (l.flatMap v4 ++ zs).take (n * 4) = l.flatMap v4 := by rw [← hfl]; exact List.take_left
    rw [ht, splice_eq _ _ _ (by rw [List.length_append, hfl, hzs]; omega), List.drop_eq_nil_of_le (by rw [List.length_append, hfl, hzs]; omega), List.append_nil]
  rw [hcs]
  have hs2 : Shows (hp.set b (.cells 73 ((l.flatMap v4 ++ zs).take 4 ++ l.flatMap v4) sp)) (some ⟨b2, 0, none⟩) 1 4 (v4 q) := by
    right
    refine ⟨b2, 0, rfl, ?_⟩
    rw [HP.cellN_of (by rw [HP.set_ne _ _ hne]; exact hb2)]
    rfl
  have hl4 : ((l.flatMap v4 ++ zs).take 4).length = 4 := by rw [List.length_take, List.length_append, hfl, hzs]; omega
  refine opS_copy_in (e := 73) (size := 4) (bytes := 4) (by kernel_rfl) (HP.set_eq ..) hs2 (v4_one q) (by rw [List.length_append, hl4, hfl]; omega) ?_
  rw [intV_int]
  have hmin2 : Nat.min 1 (n + 1 - 0) = 1 := by
    show min _ _ = _
    omega
  rw [hmin2, HP.set_set, Nat.zero_mul, splice_eq _ _ _ (by rw [List.length_append, hl4, hfl]; show 0 + 4 ≤ _; omega)]
  have : List.take 0 ((l.flatMap v4 ++ zs).take 4 ++ l.flatMap v4) ++ (v4 q).take (1 * 4) ++ List.drop (0 + ((v4 q).take (1 * 4)).length) ((l.flatMap v4 ++ zs).take 4 ++ l.flatMap v4) = (q :: l).flatMap v4 := by
    have hd : List.drop 4 ((l.flatMap v4 ++ zs).take 4 ++ l.flatMap v4) = l.flatMap v4 := by
      have := List.drop_left (l₁ := (l.flatMap v4 ++ zs).take 4) (l₂ := l.flatMap v4)
      rwa [hl4] at this
    show v4 q ++ List.drop 4 ((l.flatMap v4 ++ zs).take 4 ++ l.flatMap v4) = _
    rw [hd, List.flatMap_cons]
  rw [this]
  exact h
end Go.Proofs

set_option linter.unusedVariables false
namespace Go.Proofs
open Go Go.HL

def t4k (t : Q × Int) : Value := .agg ⟨t4 t⟩
def vb (b : Bool) : Value := .bool b
theorem enc75 : EncK Try.prog 75 t4k where
  inj a b h := by simp only [t4k, Value.agg.injEq, Array.mk.injEq] at h; exact t4_inj.1 h
  law := (KeyLaw.wide (m := 3) (D := 3) (by kernel_rfl)).weaken fun v ⟨k, hk⟩ => ⟨t4 k, hk, t4_shaped k, rfl⟩
theorem u158 : Try.prog.underlying 158 = some (.map 75 4) := by kernel_rfl
theorem zero_of {P : Program} {t : TypeId} {z : Value} (h : (P.info? t).bind (·.zero) = some z) (w : World) : (zeroValue t).run P w = .ok z w := by
  cases hi : P.info? t with
  | none => rw [hi] at h; cases h
  | some i => rw [hi] at h; simp only [Option.bind_some] at h; simp [zeroValue, typeInfo, hi, h]
theorem z4 : ∀ w : World, (zeroValue 4).run Try.prog w = .ok (.bool false) w := zero_of (by kernel_rfl)

/-- A pool: its addresses, its range, what is not free. -/
def PoolR (hp : HP) (p : Nat) (l : List Q) (low high : Int) (held : List ((Q × Int) × Bool)) (m : Nat) : Prop :=
  ∃ a c, hp p = .cells 160 [.slice a l.length c, .int .i64 low, .int .i64 high, .map (some m)] 0 ∧ Row hp a l.length c 73 4 (l.flatMap v4) ∧ MapE t4k vb held (hp m)

theorem PoolR.sub {hp hp' : HP} {p l low high held m} (h : PoolR hp p l low high held m) (hs : HSub hp hp') : PoolR hp' p l low high held m := by
  obtain ⟨a, c, h1, h2, h3⟩ := h
  refine ⟨a, c, hs.cells h1, h2.sub hs, ?_⟩
  obtain ⟨es, clock, he, hr⟩ := h3
  exact ⟨es, clock, hs.obj he, hr⟩

theorem PoolR.upd {hp : HP} {p l low high held m held'} (h : PoolR hp p l low high held m) {e : Ent} (he : MapE t4k vb held' e) : PoolR (hp.set m e) p l low high held' m := by
  obtain ⟨a, c, h1, h2, h3⟩ := h
  have hm : ∃ o, hp m = .obj o := by obtain ⟨es, clock, he, _⟩ := h3; exact ⟨_, he⟩
  obtain ⟨o, hm⟩ := hm
  refine ⟨a, c, ?_, ?_, by rw [HP.set_eq]; exact he⟩
  · rw [HP.set_ne _ _ (fun e => by rw [e, hm] at h1; cases h1)]; exact h1
  · rcases h2 with h2 | ⟨b, h21, h22, h23, h24⟩
    · exact .inl h2
    · refine .inr ⟨b, h21, h22, h23, ?_⟩
      rw [HP.set_ne _ _ (fun e => by rw [e, hm] at h24; cases h24)]; exact h24

/-- Of which addresses and ports a pool is made. -/
def newOk (l : List Q) (low high : Int) : Bool :=
  decide (1 ≤ l.length) && decide (l.length ≤ 4) && isPort low && isPort high && decide (low ≤ high) && decide (high - low < 1024) && decide l.Nodup

theorem nodup_take {l : List Q} {i : Nat} (hi : i < l.length) (h : (l.take i).Nodup) (hn : l[i] ∉ l.take i) : (l.take (i + 1)).Nodup := by
  rw [List.take_succ_eq_append_getElem hi]
  refine List.nodup_append.2 ⟨h, by simp, ?_⟩
  intro x hx y hy
  simp only [List.mem_singleton] at hy
  subst hy
  exact fun e => hn (e ▸ hx)

theorem C44 {a : Option Addr} {n c : Nat} {l : List Q} {low high : Int} {hp : HP} {K : Value → HP → Prop} (hs : Shows hp a n 4 (l.flatMap v4)) (hl : l.length = n) (hnc : n ≤ c) (hsm : -9223372036854775808 ≤ low ∧ low ≤ 9223372036854775807) (hsm2 : -9223372036854775808 ≤ high ∧ high ≤ 9223372036854775807)
    (hbad : newOk l low high = false → K (.tuple ⟨[.pointer none, .int .i64 1]⟩) hp)
    (hok : newOk l low high = true → ∀ p m hp', HSub hp hp' → hp p = .none → hp m = .none → PoolR hp' p l low high [] m → K (.tuple ⟨[ptr p 0, .int .i64 0]⟩) hp') :
    CF Try.prog 44 [.slice a n c, .int .i64 low, .int .i64 high] hp K := by
  refine F44_ok a n c low high hp K ?_
  unfold F44
  have bad : newOk l low high = false → F44_j1 a n c low high true hp K := fun h => by
    unfold F44_j1; exact hbad h
  by_cases h1 : n < 1
  · have e : decide (((n : Nat) : Int) < 1) = true := decide_eq_true (by omega)
    rw [e]
    exact bad (by unfold newOk; rw [hl]; simp; omega)
  have e : decide (((n : Nat) : Int) < 1) = false := decide_eq_false (by omega)
  rw [e, ite2_false]
  by_cases h4 : n > 4
  · have e : decide (((n : Nat) : Int) > 4) = true := decide_eq_true (by omega)
    rw [e]
    exact bad (by unfold newOk; rw [hl]; simp; omega)
  have e : decide (((n : Nat) : Int) > 4) = false := decide_eq_false (by omega)
  rw [e, ite2_false]
  refine C74 ?_
  rw [boolV_bool]
  cases hlo : isPort low
  · exact bad (by unfold newOk; rw [hlo]; simp)
  refine C74 ?_
  rw [boolV_bool]
  cases hhi : isPort high
  · exact bad (by unfold newOk; rw [hhi]; simp)
  simp only [Bool.not_true, ite2_false]
  by_cases hlh : high < low
  · have e : decide ((high : Int) < low) = true := by simpa using hlh
    rw [e]
    exact bad (by unfold newOk; simp; omega)
  have e : decide ((high : Int) < low) = false := by simpa using hlh
  rw [e, ite2_false]
  have hp1 := hlo; have hp2 := hhi
  unfold isPort at hp1 hp2
  simp only [decide_eq_true_eq] at hp1 hp2
  rw [w64 (by omega) (by omega)]
  by_cases hw : high - low ≥ 1024
  · have e : decide ((high - low : Int) ≥ 1024) = true := by simpa using hw
    rw [e]
    exact bad (by unfold newOk; simp; omega)
  have e : decide ((high - low : Int) ≥ 1024) = false := by simpa using hw
  rw [e]
  unfold F44_j1
  rw [ite2_false]
  unfold F44_j3
  have hrest : (decide (1 ≤ l.length) && decide (l.length ≤ 4) && isPort low && isPort high && decide (low ≤ high) && decide (high - low < 1024)) = true := by
    rw [hl, hlo, hhi]; simp; omega
  refine LoopP.by (J := fun k (x : Int) hp' => hp' = hp ∧ ∃ i : Nat, x = i ∧ i + k = n ∧ (l.take i).Nodup) ?_ (n := n) ⟨rfl, 0, rfl, by omega, by simp⟩
  rintro I k x hp' ⟨rfl, i, rfl, hik, hnd⟩ hI
  unfold F44_l4
  by_cases hi : i < n
  · have hlt : decide ((i : Int) < (n : Int)) = true := by simpa using hi
    obtain ⟨b, o, rfl, hc⟩ := hs.get v4_len hl hi
    have hz : splice [(Value.int .u8 0), (Value.int .u8 0), (Value.int .u8 0), (Value.int .u8 0)] 0 (v4 (l[i]'(hl ▸ hi))) = v4 (l[i]'(hl ▸ hi)) := splice_all rfl
    simp only [hlt, ite2_true, ldL_some, ptrN_some, Int.toNat_natCast, hc, v4_len, v4_one, if_true, hz, cellsN_all (v4_len _)]
    refine ⟨by omega, by omega, ?_⟩
    rw [if_pos (by decide)]
    refine ⟨by omega, by omega, ?_⟩
    refine C92 (hs.take v4_len hl (by omega)) (by simp; omega) (by omega) ?_
    rw [boolV_bool]
    by_cases hm : l[i]'(hl ▸ hi) ∈ l.take i
    · simp only [hm, decide_true, ite2_true]
      refine hbad ?_
      unfold newOk
      have : ¬ l.Nodup := fun hnd' => by
        rw [← List.take_append_drop i l] at hnd'
        have := (List.nodup_append.1 hnd').2.2 _ hm (l[i]'(hl ▸ hi)) (by rw [List.drop_eq_getElem_cons (hl ▸ hi)]; exact List.mem_cons_self ..)
        exact this rfl
      simp [this]
    · simp only [hm, decide_false, ite2_false]
      rw [w64 (by omega) (by omega)]
      exact hI (k - 1) _ _ (by omega) ⟨rfl, i + 1, by omega, by omega, nodup_take (hl ▸ hi) hnd hm⟩
  · have hlt : decide ((i : Int) < (n : Int)) = false := by simpa using hi
    have hin : i = l.length := by omega
    subst hin
    rw [List.take_length] at hnd
    rw [hlt, ite2_false]
    have hok' := hok (by unfold newOk; rw [hrest]; simpa using hnd)
    unfold F44_j2
    refine C93 hs hl (by omega) ?_
    intro s2 c2 hp2 hsub hrow hfr
    simp only [slcV_slice]
    intro m hm p hpn
    have hne : p ≠ m := fun e => by rw [e, HP.set_eq] at hpn; cases hpn
    rw [HP.set_ne _ _ hne] at hpn
    have s1 := HSub.set_fresh hp2 (.obj (.map #[] 0)) hm
    have s2' := HSub.set_fresh (hp2.set m (.obj (.map #[] 0))) (b := p) (.cells 160 [Value.slice s2 n c2, .int .i64 low, .int .i64 high, .map (some m)] 0) (by rw [HP.set_ne _ _ hne]; exact hpn)
    have sub := (hsub.trans s1).trans s2'
    refine hok' p m _ sub (hsub.none hpn) (hsub.none hm) ⟨s2, c2, ?_, ?_, ?_⟩
    · rw [HP.set_eq, hl]
    · rw [hl]; exact hrow.sub (s1.trans s2')
    · rw [HP.set_ne _ _ hne.symm, HP.set_eq]; exact MapE.empty _ _

/-- The addresses, one first. -/
def orderQ (first : Q) (l : List Q) : List Q := if idx first l > 0 then first :: l.erase first else l

theorem C99 {p m : Nat} {l : List Q} {low high : Int} {held} {first : Q} {hp : HP} {K : Value → HP → Prop} (hr : PoolR hp p l low high held m) (hlen : l.length ≤ 4) (ho : idx first l ≤ 0)
    (h : ∀ s2 c2 hp', HSub hp hp' → Row hp' s2 l.length c2 73 4 ((orderQ first l).flatMap v4) → K (.slice s2 l.length c2) hp') :
    CF Try.prog 99 [ptr p 0, .agg ⟨v4 first⟩] hp K := by
  refine F99_ok _ (v4 first) hp K ?_
  unfold F99
  obtain ⟨a, c, h1, h2, h3⟩ := hr
  rw [ptrN_some, HP.cell_of h1]
  simp only [Nat.zero_add, List.getElem?_cons_zero, ldV_some, slcV_slice]
  refine C93 h2.shows rfl (by omega) ?_
  intro s2 c2 hp2 hsub hrow hfr
  simp only [slcV_slice, cellsN_all (v4_len first), ldL_some]
  refine C98 hrow.shows rfl (by omega) ?_
  simp only [intV_int]
  have : decide (idx first l > 0) = false := by simpa using ho
  rw [this, ite2_false]
  unfold F99_j1
  have h' := h s2 c2 hp2 hsub
  unfold orderQ at h'
  rw [if_neg (by omega)] at h'
  exact h' hrow
end Go.Proofs

set_option linter.unusedVariables false
set_option maxRecDepth 20000
namespace Go.Proofs
open Go Go.HL

theorem C99w {p m : Nat} {l : List Q} {low high : Int} {held} {first : Q} {hp : HP} {K : Value → HP → Prop} (hr : PoolR hp p l low high held m) (hlen : l.length ≤ 4)
    (h : ∀ s2 c2 hp', HSub hp hp' → Row hp' s2 l.length c2 73 4 ((orderQ first l).flatMap v4) → K (.slice s2 l.length c2) hp') :
    CF Try.prog 99 [ptr p 0, .agg ⟨v4 first⟩] hp K := by
  by_cases ho : idx first l ≤ 0
  · exact C99 hr hlen ho h
  refine F99_ok _ (v4 first) hp K ?_
  unfold F99
  obtain ⟨a, c, h1, h2, h3⟩ := hr
  rw [ptrN_some, HP.cell_of h1]
  simp only [Nat.zero_add, List.getElem?_cons_zero, ldV_some, slcV_slice]
  refine C93 h2.shows rfl (by omega) ?_
  intro s2 c2 hp2 hsub hrow hfr
  simp only [slcV_slice, cellsN_all (v4_len first), ldL_some]
  refine C98 hrow.shows rfl (by omega) ?_
  simp only [intV_int]
  have hgt : decide (idx first l > 0) = true := decide_eq_true (by omega)
  rw [hgt, ite2_true]
  have hm : first ∈ l := by
    refine Classical.byContradiction fun hn => ho ?_
    unfold idx; rw [if_neg hn]; omega
  have hidx : idx first l = (l.idxOf first : Nat) := by unfold idx; rw [if_pos hm]
  have hlt : l.idxOf first < l.length := List.idxOf_lt_length_of_mem hm
  have hpos : 0 < l.idxOf first := by omega
  have her : l.eraseIdx (l.idxOf first) = l.erase first := (List.erase_eq_eraseIdx_of_idxOf rfl).symm
  have hoq : orderQ first l = first :: l.erase first := by unfold orderQ; rw [if_pos (by omega)]
  rcases hrow with ⟨_, hl0, _, _⟩ | ⟨b, rfl, hnc, hxl, hb⟩
  · omega
  have hel : (l.eraseIdx (l.idxOf first)).length = l.length - 1 := List.length_eraseIdx_of_lt hlt
  rw [hidx, w64 (by omega) (by omega)]
  have hbn : hp b = .none := hfr b rfl
  have up : ∀ {h3 : HP}, HSub hp h3 → ∀ e, HSub hp (h3.set b e) := fun {h3} hs e x => by
    by_cases hx : x = b
    · subst hx; exact .inl hbn
    · rw [HP.set_ne _ _ hx]; exact hs x
  have hlen1 : l.length - 1 + 1 = l.length := by omega
  have hrowF : ∀ h3 : HP, h3 b = .cells 73 ((first :: l.eraseIdx (l.idxOf first)).flatMap v4) ((c2 - l.length) * 4) → Row h3 (some ⟨b, 0, none⟩) l.length c2 73 4 ((orderQ first l).flatMap v4) := by
    intro h3 hb3
    rw [hoq, ← her]
    exact .inr ⟨b, rfl, hnc, by rw [flat_len v4_len, List.length_cons, hel, hlen1], hb3⟩
  refine ⟨?_, ?_⟩
  · refine C133 hb rfl hlt hnc (by omega) ?_
    intro zs hz hz1
    rw [slcV_slice]
    refine ifI rfl ?_
    intro b2 hb2
    have hne : b2 ≠ b := fun e => by rw [e, HP.set_eq] at hb2; cases hb2
    have hb2' : hp b2 = .none := (up hsub _).none hb2
    refine C132 (sp := (c2 - l.length) * 4) (by rw [HP.set_ne _ _ hne.symm, HP.set_eq]) hz hz1 hel (by omega) (by omega) (by omega) (HP.set_eq ..) hne ?_
    rw [slcV_slice, hlen1]
    unfold F99_j1
    refine h _ _ _ (up ((up hsub _).trans (HSub.set_fresh _ _ hb2)) _) (hrowF _ (HP.set_eq ..))
  · refine ifI rfl ?_
    intro b2 hb2
    have hne : b2 ≠ b := fun e => by rw [e, hb] at hb2; cases hb2
    refine C133 (by rw [HP.set_ne _ _ hne.symm]; exact hb) rfl hlt hnc (by omega) ?_
    intro zs hz hz1
    rw [slcV_slice]
    refine C132 (sp := (c2 - l.length) * 4) (HP.set_eq ..) hz hz1 hel (by omega) (by omega) (by omega) (by rw [HP.set_ne _ _ hne, HP.set_eq]; rfl) hne ?_
    rw [slcV_slice, hlen1]
    unfold F99_j1
    refine h _ _ _ (up (up (hsub.trans (HSub.set_fresh _ _ hb2)) _) _) (hrowF _ (HP.set_eq ..))
end Go.Proofs

set_option linter.unusedVariables false
namespace Go.Proofs
open Go Go.HL

def ports : Nat → Int → List Int
  | 0, _ => []
  | k + 1, n => n :: ports k (n + 1)

/-- Is a port of an address free, and of the class? -/
def freeAt (held : List ((Q × Int) × Bool)) (x : Int) (plain : Bool) (a : Q) (n : Int) : Option (Q × Int) :=
  if (getL (a, n) held).isNone && (plain || cls x n) then some (a, n) else none
def firstIn (low high : Int) (held : List ((Q × Int) × Bool)) (x : Int) (plain : Bool) (a : Q) : Option (Q × Int) :=
  (ports (high + 1 - low).toNat low).findSome? (freeAt held x plain a)
def takeQ (l : List Q) (low high : Int) (held : List ((Q × Int) × Bool)) (first : Q) (x : Int) (plain : Bool) : Option (Q × Int) :=
  (orderQ first l).findSome? (firstIn low high held x plain)

def q0 : Q := (0, 0, 0, 0)
theorem orderQ_len {first : Q} {l : List Q} : (orderQ first l).length = l.length := by
  unfold orderQ
  split
  · rename_i h
    have hm : first ∈ l := by
      unfold idx at h
      split at h
      · assumption
      · omega
    simp only [List.length_cons, List.length_erase_of_mem hm]
    have : 0 < l.length := List.length_pos_of_mem hm
    omega
  · rfl

theorem C46 {p m : Nat} {l : List Q} {low high : Int} {held} {first : Q} {x : Int} {plain : Bool} {hp : HP} {K : Value → HP → Prop} (hr : PoolR hp p l low high held m) (hlen : l.length ≤ 4)
    (hb : 0 ≤ low ∧ low ≤ 65535 ∧ 0 ≤ high ∧ high ≤ 65535)
    (harg : isPort x = false → K (.tuple ⟨[.agg ⟨t4 (q0, 0)⟩, .int .i64 1]⟩) hp)
    (hfull : isPort x = true → takeQ l low high held first x plain = none → K (.tuple ⟨[.agg ⟨t4 (q0, 0)⟩, .int .i64 6]⟩) hp)
    (hgot : isPort x = true → ∀ t, takeQ l low high held first x plain = some t → ∀ e, MapE t4k vb (putL t false held) e → K (.tuple ⟨[.agg ⟨t4 t⟩, .int .i64 0]⟩) (hp.set m e)) :
    CF Try.prog 46 [ptr p 0, .agg ⟨v4 first⟩, .int .i64 x, .bool plain] hp K := by
  refine CF.drop (F46_ok _ (v4 first) x plain hp _ ?_)
  have hr0 := hr
  obtain ⟨a, c, h1, h2, h3⟩ := hr
  unfold F46
  have hz5 : [Value.int .u8 0, .int .u8 0, .int .u8 0, .int .u8 0, .int .i64 0] = t4 (q0, 0) := rfl
  have hz4 : [Value.int .u8 0, .int .u8 0, .int .u8 0, .int .u8 0] = v4 q0 := rfl
  have h1c : ∀ o, hp.cell p o = [Value.slice a l.length c, .int .i64 low, .int .i64 high, .map (some m)][o]? := fun o => HP.cell_of h1
  simp only [Option.isNone_some, ite2_false, ptrN_some, h1c, Nat.zero_add, List.getElem?_cons_succ, List.getElem?_cons_zero, ldV_some, mapV_map]
  unfold F46_j1
  rw [ite2_false]
  refine C74 ?_
  rw [boolV_bool]
  cases hx : isPort x
  · simp only [Bool.not_false, ite2_true, hz5, t4_len, t4_one, if_true, splice_all, cellsN_all, ldL_some]
    refine ifI (by omega) ?_
    exact ⟨hp, HSub.refl _, harg hx⟩
  simp only [Bool.not_true, ite2_false, cellsN_all (v4_len first), ldL_some]
  refine C99w hr0 hlen ?_
  intro s2 c2 hp2 hsub hrow
  rw [slcV_slice]
  unfold F46_j3
  have hr2 := hr0.sub hsub
  have h2c : ∀ o, hp2.cell p o = [Value.slice a l.length c, .int .i64 low, .int .i64 high, .map (some m)][o]? := fun o => HP.cell_of (hsub.cells h1)
  have h3' : MapE t4k vb held (hp2 m) := by
    obtain ⟨es, clock, he, hrr⟩ := h3
    exact ⟨es, clock, hsub.obj he, hrr⟩
  have htq : takeQ l low high held first x plain = (orderQ first l).findSome? (firstIn low high held x plain) := rfl
  have hol := orderQ_len (first := first) (l := l)
  generalize hO : orderQ first l = O at *
  refine LoopP.by (J := fun k (s : Int × List Value) hp' => hp' = hp2 ∧ s.2 = t4 (q0, 0) ∧ ∃ i : Nat, s.1 = i ∧ i + k = l.length ∧ takeQ l low high held first x plain = (O.drop i).findSome? (firstIn low high held x plain)) ?_ (n := l.length)
    ⟨rfl, hz5, 0, rfl, by omega, htq⟩
  rintro I k ⟨x1, k8⟩ hp' ⟨rfl, hk8, i, hxi, hik, hO2⟩ hI
  simp only at hk8 hxi
  subst hk8; subst hxi
  unfold F46_l4
  by_cases hi : i < l.length
  · have hlt : decide ((i : Int) < (l.length : Int)) = true := decide_eq_true (by omega)
    have hiO : i < O.length := by omega
    obtain ⟨b, o, rfl, hc⟩ := hrow.shows.get v4_len hol hi
    simp only [hlt, ite2_true, ptrN_some, Int.toNat_natCast, hc, ldL_some, v4_len, v4_one, if_true, hz4]
    refine ⟨by omega, by omega, ?_⟩
    refine ifI (by omega) ?_
    simp only [h2c, Nat.zero_add, List.getElem?_cons_succ, List.getElem?_cons_zero, ldV_some, intV_int, splice_all (show (v4 O[i]).length = (v4 q0).length from rfl)]
    unfold F46_j6
    have hdrop : O.drop i = O[i] :: O.drop (i + 1) := List.drop_eq_getElem_cons hiO
    rw [hdrop, List.findSome?_cons] at hO2
    refine LoopP.by (J := fun k' (s : Int × List Value) hp'' => hp'' = hp' ∧ s.2 = t4 (q0, 0) ∧ k' = (high + 1 - s.1).toNat ∧ low ≤ s.1 ∧
      firstIn low high held x plain O[i] = (ports k' s.1).findSome? (freeAt held x plain O[i])) ?_ (n := (high + 1 - low).toNat) ⟨rfl, rfl, rfl, Int.le_refl _, rfl⟩
    rintro I' k' ⟨y, k8⟩ hp'' ⟨rfl, hk8, hk', hly, hfi⟩ hI'
    simp only at hk8 hk' hly hfi
    subst hk8
    unfold F46_l7
    simp only [ptrN_some, h2c, Nat.zero_add, List.getElem?_cons_succ, List.getElem?_cons_zero, ldV_some, intV_int]
    by_cases hyh : y ≤ high
    · have hle : decide (y ≤ high) = true := decide_eq_true hyh
      have hset : (splice (t4 (q0, 0)) 0 (v4 O[i])).set 4 (.int .i64 y) = t4 (O[i], y) := rfl
      simp only [hle, ite2_true, cellsN_all (v4_len _), ldL_some, v4_len, if_true, hz5, hset, t4_len, t4_one]
      refine ifI (by omega) ?_
      have hsp : splice (t4 (q0, 0)) 0 (t4 (O[i], y)) = t4 (O[i], y) := splice_all rfl
      simp only [mapV_map, hsp, cellsN_all (t4_len _), ldL_some]
      refine rdS_lookup u158 enc75 z4 h3' (O[i], y) ?_
      simp only [if_true, tup2V_mk]
      have hv : boolV (((getL (O[i], y) held).map vb).getD (.bool false)) = fun c => c ((getL (O[i], y) held).getD false) := by
        funext c; cases getL (O[i], y) held <;> rfl
      rw [hv]
      simp only [boolV_bool]
      obtain ⟨kk, rfl⟩ : ∃ kk, k' = kk + 1 := ⟨k' - 1, by omega⟩
      rw [ports, List.findSome?_cons] at hfi
      -- behind one that does not do
      have next : freeAt held x plain O[i] y = none → F46_j8 (some ⟨p, 0, none⟩) x plain y (some ⟨b, o, none⟩) l.length c2 l.length i false (t4 (q0, 0)) (v4 O[i]) (t4 (O[i], y)) hp'' I I' (fun v hp' => ∃ hp'', HSub hp'' hp' ∧ K v hp'') := by
        intro hf
        unfold F46_j8
        rw [ite2_false, w64 (by omega) (by omega)]
        rw [hf] at hfi
        exact hI' kk _ _ (by omega) ⟨rfl, rfl, by simp only; omega, by simp only; omega, hfi⟩
      have found : freeAt held x plain O[i] y = some (O[i], y) → F46_j8 (some ⟨p, 0, none⟩) x plain y (some ⟨b, o, none⟩) l.length c2 l.length i true (t4 (q0, 0)) (v4 O[i]) (t4 (O[i], y)) hp'' I I' (fun v hp' => ∃ hp'', HSub hp'' hp' ∧ K v hp'') := by
        intro hf
        unfold F46_j8
        rw [hf] at hfi
        rw [hfi] at hO2
        simp only [ite2_true, ptrN_some, h2c, Nat.zero_add, List.getElem?_cons_succ, List.getElem?_cons_zero, ldV_some, mapV_map, cellsN_all (t4_len _), ldL_some, t4_len, t4_one, if_true, hsp]
        refine opS_mapUpdate u158 enc75 h3' (O[i], y) false (ev := vb) ?_
        intro e he
        refine ifI (by omega) ?_
        exact ⟨hp.set m e, hsub.set m e, hgot hx _ hO2 e he⟩
      cases hg : (getL (O[i], y) held).isSome
      · have hg' : (getL (O[i], y) held).isNone = true := by cases h : getL (O[i], y) held <;> simp_all
        simp only [Bool.not_false, ite2_true]
        cases plain
        · rw [ite2_false]
          refine C20 ?_
          rw [boolV_bool]
          cases hcl : cls x y
          · exact next (by simp [freeAt, hcl])
          · exact found (by simp [freeAt, hg', hcl])
        · rw [ite2_true]
          exact found (by simp [freeAt, hg'])
      · have hg' : (getL (O[i], y) held).isNone = false := by cases h : getL (O[i], y) held <;> simp_all
        simp only [Bool.not_true, ite2_false]
        exact next (by simp [freeAt, hg'])
    · have hle : decide (y ≤ high) = false := decide_eq_false hyh
      rw [hle, ite2_false]
      unfold F46_j5
      have : k' = 0 := by omega
      subst this
      rw [ports, List.findSome?_nil] at hfi
      rw [hfi] at hO2
      rw [w64 (by omega) (by omega)]
      exact hI (k - 1) _ _ (by omega) ⟨rfl, rfl, i + 1, by simp, by omega, hO2⟩
  · have hlt : decide ((i : Int) < (l.length : Int)) = false := decide_eq_false (by omega)
    rw [hlt, ite2_false]
    unfold F46_j2
    rw [List.drop_eq_nil_of_le (by omega), List.findSome?_nil] at hO2
    simp only [hz5, t4_len, t4_one, if_true, splice_all, cellsN_all, ldL_some]
    refine ifI (by omega) ?_
    exact ⟨hp, hsub, hfull hx hO2⟩
end Go.Proofs

set_option linter.unusedVariables false
set_option maxRecDepth 20000
namespace Go.Proofs
open Go Go.HL

theorem idx_q0 : idx q0 [(1, 0, 0, 1), (1, 0, 0, 2)] ≤ 0 := by decide

theorem C21 {hp : HP} {K : Value → HP → Prop} (h : K (.bool true) hp) : CF Try.prog 21 [] hp K := by
  refine CF.drop (F21_ok hp _ ?_)
  unfold F21
  refine C52 ?_
  rw [aggV_agg]
  refine C53 ?_
  rw [aggV_agg]
  refine ifI rfl (ifI rfl ?_)
  intro b hb
  have hcs : splice (splice [(Value.int .u8 0), (Value.int .u8 0), (Value.int .u8 0), (Value.int .u8 0), (Value.int .u8 0), (Value.int .u8 0), (Value.int .u8 0), (Value.int .u8 0)] 0 (v4 (1, 0, 0, 1))) 4 (v4 (1, 0, 0, 2)) = [(1, 0, 0, 1), (1, 0, 0, 2)].flatMap v4 := rfl
  rw [hcs]
  have s0 := HSub.set_fresh hp (.cells 73 ([(1, 0, 0, 1), (1, 0, 0, 2)].flatMap v4) 0) hb
  refine C44 (l := [(1, 0, 0, 1), (1, 0, 0, 2)]) (.inr ⟨b, 0, rfl, by rw [HP.cellN_of (HP.set_eq ..)]; rfl⟩) rfl (by omega) (by omega) (by omega) (fun h => absurd h (by decide)) ?_
  intro _ p m hp1 s1 _ hm hr
  have s1 := s0.trans s1
  have hm := s0.none hm
  simp only [tup2V_mk, ptrV_pointer, intV_int]
  show ite2 false _ _
  rw [ite2_false]
  unfold F21_j1
  show ite2 false _ _
  rw [ite2_false]
  have hl5 : ∀ t, (t4 t).length = 5 := fun _ => rfl
  have st : ∀ t, splice [(Value.int .u8 0), (Value.int .u8 0), (Value.int .u8 0), (Value.int .u8 0), (Value.int .i64 0)] 0 (t4 t) = t4 t := fun t => splice_all rfl
  have up : ∀ {h2 : HP}, HSub hp h2 → ∀ e, HSub hp (h2.set m e) := fun {h2} hs e x => by
    by_cases hx : x = m
    · subst hx; exact .inl hm
    · rw [HP.set_ne _ _ hx]; exact hs x
  refine C46 (first := q0) (x := 80) (plain := false) hr (by decide) (by omega) (fun h => absurd h (by decide)) (fun _ h => absurd h (by decide)) ?_
  intro _ t1 ht1 e1 he1
  rw [show takeQ [(1, 0, 0, 1), (1, 0, 0, 2)] 1020 1027 [] q0 80 false = some ((1, 0, 0, 1), 1020) by decide] at ht1
  cases ht1
  simp only [tup2V_mk, aggV_agg, intV_int]
  refine ifI rfl (ifI rfl (ifI (by decide) ?_))
  refine C46 (first := q0) (x := 80) (plain := false) (hr.upd he1) (by decide) (by omega) (fun h => absurd h (by decide)) (fun _ h => absurd h (by decide)) ?_
  intro _ t2 ht2 e2 he2
  rw [show takeQ [(1, 0, 0, 1), (1, 0, 0, 2)] 1020 1027 (putL ((1, 0, 0, 1), 1020) false []) q0 80 false = some ((1, 0, 0, 1), 1022) by decide] at ht2
  cases ht2
  simp only [tup2V_mk, aggV_agg, intV_int]
  refine ifI rfl (ifI rfl (ifI (by decide) ?_))
  refine C46 (first := q0) (x := 80) (plain := false) ((hr.upd he1).upd he2) (by decide) (by omega) (fun h => absurd h (by decide)) (fun _ h => absurd h (by decide)) ?_
  intro _ t3 ht3 e3 he3
  rw [show takeQ [(1, 0, 0, 1), (1, 0, 0, 2)] 1020 1027 (putL ((1, 0, 0, 1), 1022) false (putL ((1, 0, 0, 1), 1020) false [])) q0 80 false = some ((1, 0, 0, 2), 1020) by decide] at ht3
  cases ht3
  simp only [tup2V_mk, aggV_agg, intV_int]
  refine ifI rfl (ifI rfl (ifI (by decide) ?_))
  rw [st, st, st, cellsN_all (hl5 _), ldL_some]
  refine C52 ?_
  rw [aggV_agg]
  refine ifI rfl ?_
  refine eq75 (p := ((1, 0, 0, 1), 1020)) (q := ((1, 0, 0, 1), 1020)) ?_
  show ite2 true _ _
  rw [ite2_true, cellsN_all (hl5 _), ldL_some]
  refine C52 ?_
  rw [aggV_agg]
  refine ifI rfl ?_
  refine eq75 (p := ((1, 0, 0, 1), 1022)) (q := ((1, 0, 0, 1), 1022)) ?_
  show ite2 true _ _
  rw [ite2_true, cellsN_all (hl5 _), ldL_some]
  refine C53 ?_
  rw [aggV_agg]
  refine ifI rfl ?_
  refine eq75 (p := ((1, 0, 0, 2), 1020)) (q := ((1, 0, 0, 2), 1020)) ?_
  show ite2 true _ _
  rw [ite2_true]
  refine C20 ?_
  rw [boolV_bool]
  show ite2 true _ _
  rw [ite2_true]
  refine C20 ?_
  rw [boolV_bool]
  exact ⟨hp, up (up (up s1 e1) e2) e3, h⟩
end Go.Proofs

set_option linter.unusedVariables false
set_option maxRecDepth 20000
namespace Go.Proofs
open Go Go.HL

theorem cls_comm (x y : Int) : cls x y = cls y x := by
  unfold cls
  have e1 : (decide (x < 1024) == decide (y < 1024)) = (decide (y < 1024) == decide (x < 1024)) := Bool.beq_comm ..
  have e2 : (x.tmod 2 == y.tmod 2) = (y.tmod 2 == x.tmod 2) := by
    rw [Bool.beq_comm]
  rw [e1, e2, Bool.and_comm (isPort x)]
theorem cls_trans {x y z : Int} (h : cls x y = true) (k : cls y z = true) : cls x z = true := by
  unfold cls at *
  simp only [Bool.and_eq_true, beq_iff_eq] at *
  exact ⟨⟨⟨h.1.1.1, k.1.1.2⟩, h.1.2.trans k.1.2⟩, h.2.trans k.2⟩
theorem cls_self (x : Int) : cls x x = isPort x := by simp [cls]
theorem cls_four {x : Int} (h : isPort x = true) : (cls x 0).toNat + (cls x 1).toNat + (cls x 1024).toNat + (cls x 1025).toNat = 1 := by
  have h' := h
  unfold isPort at h'
  simp only [decide_eq_true_eq] at h'
  have ht : x.tmod 2 = x % 2 := Int.tmod_eq_emod_of_nonneg h'.1
  have p0 : isPort 0 = true := by decide
  have p1 : isPort 1 = true := by decide
  have p2 : isPort 1024 = true := by decide
  have p3 : isPort 1025 = true := by decide
  unfold cls
  rw [h, p0, p1, p2, p3, ht]
  have hm : x % 2 = 0 ∨ x % 2 = 1 := by omega
  by_cases hs : x < 1024 <;> rcases hm with hm | hm <;> simp [hs, hm] <;> decide

end Go.Proofs

