/- Parts of the proof of PlaysProof: the logic of what is known of memory, functions' contracts. -/
import Derived.Test.YtidoceleobdkmaaQPlaysProofC
import Derived.Test.YtidoceleobdkmaaHlAbb
import Derived.Test.YtidoceleobdkmaaProg
import Derived.Test.YtidoceleobdkmaaHlUse2
import Derived.Sort.LotD1
import Derived.Test.YtidoceleobdkmaaHlOrd
import Derived.Sort.LotD3
import Derived.Test.YtidoceleobdkmaaHlRange
import Derived.Test.YtidoceleobdkmaaHlMapL
set_option linter.unusedVariables false
set_option maxRecDepth 20000
namespace Go.Proofs
open Go Go.HL
-- 190 slices.order2CmpFunc[interpreter/api.T4]
section
variable (e : Env) (x0a : Option Addr) (x0n x0c : Nat) (x1 x2 : Int) (x3 : Option Addr) (x4 : Value) (hp : HP) (K : Env → PV → HP → Prop)
abbrev R190 (p : List Nat) (n : Nat) := RW Try.prog 32 [] (opsAt Try.f190 p) (List.range n)
theorem F190_r0 : R190 [0] 2 e V0 hp K =
    (K (upd (upd e 10 (sI 0)) 11 (sI 0)) V0 hp) := by kernel_rfl
theorem F190_r1 : R190 [1, 0, 0] 11 (upd (upd (upd (upd e 4 (sV x4)) 2 (sI x2)) 1 (sI x1)) 0 (sS x0a x0n x0c)) V0 hp K =
    ((0 ≤ x2) ∧ (x2 < x0n) ∧ (ptrN x0a fun b1 o2 => (ldL (HP.cellN hp b1 (o2 + Int.toNat x2 * 5) 5) fun l3 => ((0 ≤ x1) ∧ (x1 < x0n) ∧ (ptrN x0a fun b4 o5 => (ldL (HP.cellN hp b4 (o5 + Int.toNat x1 * 5) 5) fun l6 => (fnV x4 fun f7 ga8 gb9 => (CF Try.prog f7 (ga8 ++ [(Value.agg ⟨l3⟩), (.agg ⟨l6⟩)] ++ gb9) hp fun u10 h11 => (intV u10 .i64 fun i12 => (K (upd (upd (upd (upd (upd (upd (upd (upd (upd (upd (upd (upd (upd (upd (upd e 4 (sV x4)) 2 (sI x2)) 1 (sI x1)) 0 (sS x0a x0n x0c)) 12 (sV x4)) 13 (sS x0a x0n x0c)) 14 (sI x2)) 15 (sQ b1 (o2 + Int.toNat x2 * 5))) 16 (sA l3)) 17 (sS x0a x0n x0c)) 18 (sI x1)) 19 (sQ b4 (o5 + Int.toNat x1 * 5))) 20 (sA l6)) 21 (sI i12)) 22 (sB (decide (i12 < 0)))) V0 h11)))))))))) := by kernel_rfl
theorem F190_r2 : R190 [1, 0, 1, 0, 0] 6 (upd e 3 (sP x3)) V0 hp K =
    (ptrN x3 fun b1 o2 => (ldV (HP.cell hp b1 o2) fun v3 => (intV v3 .i64 fun i4 => (ptrN x3 fun b5 o6 => (HP.st hp b5 o6 (.int .i64 (wr (i4 + 1))) fun h7 => (K (upd (upd (upd (upd (upd (upd e 3 (sP x3)) 23 (sP x3)) 24 (sQ b1 o2)) 25 (sI i4)) 26 (sI ((wr (i4 + 1))))) 27 (sQ b5 o6)) V0 h7)))))) := by kernel_rfl
theorem F190_r3 : R190 [1, 0, 1, 0, 1, 0] 4 (upd (upd e 2 (sI x2)) 1 (sI x1)) V0 hp K =
    (K (upd (upd (upd (upd (upd (upd e 2 (sI x2)) 1 (sI x1)) 28 (sI x2)) 29 (sI x1)) 10 (sI x2)) 11 (sI x1)) V0 hp) := by kernel_rfl
theorem F190_r4 : R190 [1, 1, 0] 4 (upd (upd e 2 (sI x2)) 1 (sI x1)) V0 hp K =
    (K (upd (upd (upd (upd (upd (upd e 2 (sI x2)) 1 (sI x1)) 30 (sI x1)) 31 (sI x2)) 10 (sI x1)) 11 (sI x2)) V0 hp) := by kernel_rfl
def F190 (x0a : Option Addr) (x0n : Nat) (x0c : Nat) (x1 : Int) (x2 : Int) (x3 : Option Addr) (x4 : Value) (hp : HP) (K : Value → HP → Prop) : Prop :=
  ((0 ≤ x2) ∧ (x2 < x0n) ∧ (ptrN x0a fun b_1 o_2 => (ldL (HP.cellN hp b_1 (o_2 + Int.toNat x2 * 5) 5) fun l_3 => ((0 ≤ x1) ∧ (x1 < x0n) ∧ (ptrN x0a fun b_4 o_5 => (ldL (HP.cellN hp b_4 (o_5 + Int.toNat x1 * 5) 5) fun l_6 => (fnV x4 fun f_7 ga_8 gb_9 => (CF Try.prog f_7 (ga_8 ++ [(Value.agg ⟨l_3⟩), (.agg ⟨l_6⟩)] ++ gb_9) hp fun u_10 h_11 => (intV u_10 .i64 fun i_12 => (ite2 (decide (i_12 < 0)) (ptrN x3 fun b_13 o_14 => (ldV (HP.cell h_11 b_13 o_14) fun v_15 => (intV v_15 .i64 fun i_16 => (ptrN x3 fun b_17 o_18 => (HP.st h_11 b_17 o_18 (.int .i64 (IntKind.wrap .i64 (i_16 + 1))) fun h_19 => (K (.tuple ⟨[(.int .i64 x2), (.int .i64 x1)]⟩) h_19)))))) (K (.tuple ⟨[(.int .i64 x1), (.int .i64 x2)]⟩) h_11)))))))))))
noncomputable def F190_code : Code := (.seq (.region 0 (opsAt Try.f190 [0]) false) (.seq (.seq (.region 1 (opsAt Try.f190 [1, 0, 0]) true) (.cond (.tmp 22) (.seq (.region 2 (opsAt Try.f190 [1, 0, 1, 0, 0]) false) (.seq (.region 3 (opsAt Try.f190 [1, 0, 1, 0, 1, 0]) false) .ret)) .skip)) (.seq (.region 4 (opsAt Try.f190 [1, 1, 0]) false) .ret)))
theorem F190_body : Try.f190.body = some F190_code := by kernel_rfl
theorem F190_ok (x0a : Option Addr) (x0n : Nat) (x0c : Nat) (x1 : Int) (x2 : Int) (x3 : Option Addr) (x4 : Value) (hp : HP) (K : Value → HP → Prop) (h : F190 x0a x0n x0c x1 x2 x3 x4 hp K) : CF Try.prog 190 [(.slice x0a x0n x0c), (.int .i64 x1), (.int .i64 x2), (.pointer x3), x4] hp K := by
 refine .inl ⟨by kernel_rfl, AC.intro (N := 32) Try.func190 F190_body rfl (Nat.le_of_ble_eq_true rfl) ?_⟩
 unfold F190 at h
 unfold F190_code
 refine AWP.seq' ?_
 refine AWP.rgn (F190_r0 (upd (upd (upd (upd (upd E0 4 (sV x4)) 3 (sP x3)) 2 (sI x2)) 1 (sI x1)) 0 (sS x0a x0n x0c))  hp _) ?_ (Ru 0 (Ru 1 (Ru 2 (Ru 3 (Ru 4 Rn))))) (Sc rfl (Sc rfl (Sc rfl (Sc rfl (Sc rfl Sn))))) Sn
 refine AWP.seq' ?_
 refine AWP.seq' ?_
 refine AWP.rgnD (by kernel_rfl) (by kernel_rfl) (F190_r1 (upd E0 3 (sP x3)) x0a x0n x0c x1 x2 x4 hp _) ?_ (Ru 0 (Ru 1 (Ru 2 (Ru 4 (Ru 3 Rn))))) (Sc rfl (Sc rfl (Sc rfl (Sc rfl (Sc rfl Sn))))) Sn
 refine ⟨h.1, h.2.1, mN h.2.2 (fun b_1 o_2 h => mL h (fun l_3 h => ⟨h.1, h.2.1, mN h.2.2 fun b_4 o_5 h => mL h fun l_6 h => mF h fun f_7 ga_8 gb_9 h => mC h fun u_10 h_11 h => mI h fun i_12 h => ?_⟩))⟩
 refine AWP.cond (t := (decide (i_12 < 0))) rfl (fun e => ?_) (fun e => ?_)
 ·replace h := ite2_t h e
  refine AWP.seq' ?_
  refine AWP.rgn (F190_r2 (upd (upd E0 2 (sI x2)) 1 (sI x1)) x3 h_11 _) ?_ (Ru 3 (Ru 1 (Ru 2 Rn))) (Sc rfl (Sc rfl (Sc rfl Sn))) Sn
  refine mN h fun b_13 o_14 h => mV h fun v_15 h => mI h fun i_16 h => mN h fun b_17 o_18 h => mw h fun h_19 h => ?_
  refine AWP.seq' ?_
  refine AWP.rgn (F190_r3 E0 x1 x2 h_19 _) ?_ (Ru 1 (Ru 2 Rn)) (Sc rfl (Sc rfl Sn)) Sn
  refine AWP.ret ?_
  exact h
 ·replace h := ite2_f h e
  refine AWP.skip ?_
  refine AWP.seq' ?_
  refine AWP.rgn (F190_r4 E0 x1 x2 h_11 _) ?_ (Ru 1 (Ru 2 Rn)) (Sc rfl (Sc rfl Sn)) Sn
  refine AWP.ret ?_
  exact h
end
-- 178 slices.medianCmpFunc[interpreter/api.T4]
section
variable (e : Env) (x0a : Option Addr) (x0n x0c : Nat) (x1 x2 x3 : Int) (x4 : Option Addr) (x5 : Value) (hp : HP) (K : Env → PV → HP → Prop)
abbrev R178 (p : List Nat) (n : Nat) := RW Try.prog 41 [] (opsAt Try.f178 p) (List.range n)
theorem F178_r0 : R178 [0] 1 e V0 hp K =
    (K (upd e 12 (sI 0)) V0 hp) := by kernel_rfl
theorem F178_r1 : R178 [1, 0] 11 (upd (upd (upd (upd (upd e 5 (sV x5)) 4 (sP x4)) 2 (sI x2)) 1 (sI x1)) 0 (sS x0a x0n x0c)) V0 hp K =
    (CF Try.prog 190 [(.slice x0a x0n x0c), (.int .i64 x1), (.int .i64 x2), (.pointer x4), x5] hp fun u1 h2 => (tup2V u1 fun u3 u4 => (intV u3 .i64 fun i5 => (intV u4 .i64 fun i6 => (K (upd (upd (upd (upd (upd (upd (upd (upd (upd (upd (upd (upd (upd (upd (upd (upd e 5 (sV x5)) 4 (sP x4)) 2 (sI x2)) 1 (sI x1)) 0 (sS x0a x0n x0c)) 14 (sS x0a x0n x0c)) 15 (sI x1)) 16 (sI x2)) 17 (sP x4)) 18 (sV x5)) 19 (sV (.tuple ⟨[(.int .i64 i5), (.int .i64 i6)]⟩))) 13 (sV (.tuple ⟨[(.int .i64 i5), (.int .i64 i6)]⟩))) 20 (sI i5)) 21 (sI i6)) 1 (sI i5)) 2 (sI i6)) V0 h2))))) := by kernel_rfl
theorem F178_r2 : R178 [1, 1, 0] 11 (upd (upd (upd (upd (upd e 5 (sV x5)) 4 (sP x4)) 3 (sI x3)) 2 (sI x2)) 0 (sS x0a x0n x0c)) V0 hp K =
    (CF Try.prog 190 [(.slice x0a x0n x0c), (.int .i64 x2), (.int .i64 x3), (.pointer x4), x5] hp fun u1 h2 => (tup2V u1 fun u3 u4 => (intV u3 .i64 fun i5 => (intV u4 .i64 fun i6 => (K (upd (upd (upd (upd (upd (upd (upd (upd (upd (upd (upd (upd (upd (upd (upd (upd e 5 (sV x5)) 4 (sP x4)) 3 (sI x3)) 2 (sI x2)) 0 (sS x0a x0n x0c)) 23 (sS x0a x0n x0c)) 24 (sI x2)) 25 (sI x3)) 26 (sP x4)) 27 (sV x5)) 28 (sV (.tuple ⟨[(.int .i64 i5), (.int .i64 i6)]⟩))) 22 (sV (.tuple ⟨[(.int .i64 i5), (.int .i64 i6)]⟩))) 29 (sI i5)) 30 (sI i6)) 2 (sI i5)) 3 (sI i6)) V0 h2))))) := by kernel_rfl
theorem F178_r3 : R178 [1, 1, 1, 0] 11 (upd (upd (upd (upd (upd e 5 (sV x5)) 4 (sP x4)) 2 (sI x2)) 1 (sI x1)) 0 (sS x0a x0n x0c)) V0 hp K =
    (CF Try.prog 190 [(.slice x0a x0n x0c), (.int .i64 x1), (.int .i64 x2), (.pointer x4), x5] hp fun u1 h2 => (tup2V u1 fun u3 u4 => (intV u3 .i64 fun i5 => (intV u4 .i64 fun i6 => (K (upd (upd (upd (upd (upd (upd (upd (upd (upd (upd (upd (upd (upd (upd (upd (upd e 5 (sV x5)) 4 (sP x4)) 2 (sI x2)) 1 (sI x1)) 0 (sS x0a x0n x0c)) 32 (sS x0a x0n x0c)) 33 (sI x1)) 34 (sI x2)) 35 (sP x4)) 36 (sV x5)) 37 (sV (.tuple ⟨[(.int .i64 i5), (.int .i64 i6)]⟩))) 31 (sV (.tuple ⟨[(.int .i64 i5), (.int .i64 i6)]⟩))) 38 (sI i5)) 39 (sI i6)) 1 (sI i5)) 2 (sI i6)) V0 h2))))) := by kernel_rfl
theorem F178_r4 : R178 [1, 1, 1, 1, 0] 2 (upd e 2 (sI x2)) V0 hp K =
    (K (upd (upd (upd e 2 (sI x2)) 40 (sI x2)) 12 (sI x2)) V0 hp) := by kernel_rfl
def F178 (x0a : Option Addr) (x0n : Nat) (x0c : Nat) (x1 : Int) (x2 : Int) (x3 : Int) (x4 : Option Addr) (x5 : Value) (hp : HP) (K : Value → HP → Prop) : Prop :=
  (CF Try.prog 190 [(.slice x0a x0n x0c), (.int .i64 x1), (.int .i64 x2), (.pointer x4), x5] hp fun u_1 h_2 => (tup2V u_1 fun u_3 u_4 => (intV u_3 .i64 fun i_5 => (intV u_4 .i64 fun i_6 => (CF Try.prog 190 [(.slice x0a x0n x0c), (.int .i64 i_6), (.int .i64 x3), (.pointer x4), x5] h_2 fun u_7 h_8 => (tup2V u_7 fun u_9 u_10 => (intV u_9 .i64 fun i_11 => (intV u_10 .i64 fun i_12 => (CF Try.prog 190 [(.slice x0a x0n x0c), (.int .i64 i_5), (.int .i64 i_11), (.pointer x4), x5] h_8 fun u_13 h_14 => (tup2V u_13 fun u_15 u_16 => (intV u_15 .i64 fun i_17 => (intV u_16 .i64 fun i_18 => (K (.int .i64 i_18) h_14)))))))))))))
noncomputable def F178_code : Code := (.seq (.region 0 (opsAt Try.f178 [0]) false) (.seq (.region 1 (opsAt Try.f178 [1, 0]) false) (.seq (.region 2 (opsAt Try.f178 [1, 1, 0]) false) (.seq (.region 3 (opsAt Try.f178 [1, 1, 1, 0]) false) (.seq (.region 4 (opsAt Try.f178 [1, 1, 1, 1, 0]) false) .ret)))))
theorem F178_body : Try.f178.body = some F178_code := by kernel_rfl
theorem F178_ok (x0a : Option Addr) (x0n : Nat) (x0c : Nat) (x1 : Int) (x2 : Int) (x3 : Int) (x4 : Option Addr) (x5 : Value) (hp : HP) (K : Value → HP → Prop) (h : F178 x0a x0n x0c x1 x2 x3 x4 x5 hp K) : CF Try.prog 178 [(.slice x0a x0n x0c), (.int .i64 x1), (.int .i64 x2), (.int .i64 x3), (.pointer x4), x5] hp K := by
 refine .inl ⟨by kernel_rfl, AC.intro (N := 41) Try.func178 F178_body rfl (Nat.le_of_ble_eq_true rfl) ?_⟩
 unfold F178 at h
 unfold F178_code
 refine AWP.seq' ?_
 refine AWP.rgn (F178_r0 (upd (upd (upd (upd (upd (upd E0 5 (sV x5)) 4 (sP x4)) 3 (sI x3)) 2 (sI x2)) 1 (sI x1)) 0 (sS x0a x0n x0c))  hp _) ?_ (Ru 0 (Ru 1 (Ru 2 (Ru 3 (Ru 4 (Ru 5 Rn)))))) (Sc rfl (Sc rfl (Sc rfl (Sc rfl (Sc rfl (Sc rfl Sn)))))) Sn
 refine AWP.seq' ?_
 refine AWP.rgn (F178_r1 (upd E0 3 (sI x3)) x0a x0n x0c x1 x2 x4 x5 hp _) ?_ (Ru 0 (Ru 1 (Ru 2 (Ru 4 (Ru 5 (Ru 3 Rn)))))) (Sc rfl (Sc rfl (Sc rfl (Sc rfl (Sc rfl (Sc rfl Sn)))))) Sn
 refine mC h fun u_1 h_2 h => mT h fun u_3 u_4 h => mI h fun i_5 h => mI h fun i_6 h => ?_
 refine AWP.seq' ?_
 refine AWP.rgn (F178_r2 (upd E0 1 (sI i_5)) x0a x0n x0c i_6 x3 x4 x5 h_2 _) ?_ (Ru 0 (Ru 2 (Ru 3 (Ru 4 (Ru 5 (Ru 1 Rn)))))) (Sc rfl (Sc rfl (Sc rfl (Sc rfl (Sc rfl (Sc rfl Sn)))))) Sn
 refine mC h fun u_7 h_8 h => mT h fun u_9 u_10 h => mI h fun i_11 h => mI h fun i_12 h => ?_
 refine AWP.seq' ?_
 refine AWP.rgn (F178_r3 E0 x0a x0n x0c i_5 i_11 x4 x5 h_8 _) ?_ (Ru 0 (Ru 1 (Ru 2 (Ru 4 (Ru 5 Rn))))) (Sc rfl (Sc rfl (Sc rfl (Sc rfl (Sc rfl Sn))))) Sn
 refine mC h fun u_13 h_14 h => mT h fun u_15 u_16 h => mI h fun i_17 h => mI h fun i_18 h => ?_
 refine AWP.seq' ?_
 refine AWP.rgn (F178_r4 E0 i_18 h_14 _) ?_ (Ru 2 Rn) (Sc rfl Sn) Sn
 refine AWP.ret ?_
 exact h
end
-- 177 slices.medianAdjacentCmpFunc[interpreter/api.T4]
section
variable (e : Env) (x0a : Option Addr) (x0n x0c : Nat) (x1 : Int) (x2 : Option Addr) (x3 : Value) (hp : HP) (K : Env → PV → HP → Prop)
abbrev R177 (p : List Nat) (n : Nat) := RW Try.prog 18 [] (opsAt Try.f177 p) (List.range n)
theorem F177_r0 : R177 [0] 1 e V0 hp K =
    (K (upd e 8 (sI 0)) V0 hp) := by kernel_rfl
theorem F177_r1 : R177 [1, 0] 10 (upd (upd (upd (upd e 3 (sV x3)) 2 (sP x2)) 1 (sI x1)) 0 (sS x0a x0n x0c)) V0 hp K =
    (CF Try.prog 178 [(.slice x0a x0n x0c), (.int .i64 (wr (x1 - 1))), (.int .i64 x1), (.int .i64 (wr (x1 + 1))), (.pointer x2), x3] hp fun u1 h2 => (intV u1 .i64 fun i3 => (K (upd (upd (upd (upd (upd (upd (upd (upd (upd (upd (upd (upd (upd (upd e 3 (sV x3)) 2 (sP x2)) 1 (sI x1)) 0 (sS x0a x0n x0c)) 9 (sS x0a x0n x0c)) 10 (sI x1)) 11 (sI ((wr (x1 - 1))))) 12 (sI x1)) 13 (sI x1)) 14 (sI ((wr (x1 + 1))))) 15 (sP x2)) 16 (sV x3)) 17 (sI i3)) 8 (sI i3)) V0 h2))) := by kernel_rfl
def F177 (x0a : Option Addr) (x0n : Nat) (x0c : Nat) (x1 : Int) (x2 : Option Addr) (x3 : Value) (hp : HP) (K : Value → HP → Prop) : Prop :=
  (CF Try.prog 178 [(.slice x0a x0n x0c), (.int .i64 (IntKind.wrap .i64 (x1 - 1))), (.int .i64 x1), (.int .i64 (IntKind.wrap .i64 (x1 + 1))), (.pointer x2), x3] hp fun u_1 h_2 => (intV u_1 .i64 fun i_3 => (K (.int .i64 i_3) h_2)))
noncomputable def F177_code : Code := (.seq (.region 0 (opsAt Try.f177 [0]) false) (.seq (.region 1 (opsAt Try.f177 [1, 0]) false) .ret))
theorem F177_body : Try.f177.body = some F177_code := by kernel_rfl
theorem F177_ok (x0a : Option Addr) (x0n : Nat) (x0c : Nat) (x1 : Int) (x2 : Option Addr) (x3 : Value) (hp : HP) (K : Value → HP → Prop) (h : F177 x0a x0n x0c x1 x2 x3 hp K) : CF Try.prog 177 [(.slice x0a x0n x0c), (.int .i64 x1), (.pointer x2), x3] hp K := by
 refine .inl ⟨by kernel_rfl, AC.intro (N := 18) Try.func177 F177_body rfl (Nat.le_of_ble_eq_true rfl) ?_⟩
 unfold F177 at h
 unfold F177_code
 refine AWP.seq' ?_
 refine AWP.rgn (F177_r0 (upd (upd (upd (upd E0 3 (sV x3)) 2 (sP x2)) 1 (sI x1)) 0 (sS x0a x0n x0c))  hp _) ?_ (Ru 0 (Ru 1 (Ru 2 (Ru 3 Rn)))) (Sc rfl (Sc rfl (Sc rfl (Sc rfl Sn)))) Sn
 refine AWP.seq' ?_
 refine AWP.rgn (F177_r1 E0 x0a x0n x0c x1 x2 x3 hp _) ?_ (Ru 0 (Ru 1 (Ru 2 (Ru 3 Rn)))) (Sc rfl (Sc rfl (Sc rfl (Sc rfl Sn)))) Sn
 refine mC h fun u_1 h_2 h => mI h fun i_3 h => ?_
 refine AWP.ret ?_
 exact h
end
-- 159 slices.choosePivotCmpFunc[interpreter/api.T4]
section
variable (e : Env) (x0a : Option Addr) (x0n x0c : Nat) (x1 x2 : Int) (x3 : Value) (x10 : Int) (x11 : Option Addr) (x12 x13 x14 x55 : Int) (hp : HP) (K : Env → PV → HP → Prop)
abbrev R159 (p : List Nat) (n : Nat) := RW Try.prog 63 [] (opsAt Try.f159 p) (List.range n)
theorem F159_r0 : R159 [0] 2 e V0 hp K =
    (K (upd (upd e 8 (sI 0)) 9 (sI 0)) V0 hp) := by kernel_rfl
theorem F159_r1 : R159 [1, 0] 4 (upd (upd e 2 (sI x2)) 1 (sI x1)) V0 hp K =
    (K (upd (upd (upd (upd (upd (upd e 2 (sI x2)) 1 (sI x1)) 15 (sI x2)) 16 (sI x1)) 17 (sI ((wr (x2 - x1))))) 10 (sI ((wr (x2 - x1))))) V0 hp) := by kernel_rfl
theorem F159_r2 : R159 [1, 1, 0] 1 e V0 hp K =
    (∀ b1 : Nat, hp b1 = .none → (K (upd e 11 (sQ b1 0)) V0 (HP.set hp b1 (.cells 3 [.int .i64 0] 0)))) := by kernel_rfl
theorem F159_r3 : R159 [1, 1, 1, 0] 6 (upd (upd e 10 (sI x10)) 1 (sI x1)) V0 hp K =
    (((4 : Int) ≠ 0) ∧ (K (upd (upd (upd (upd (upd (upd (upd (upd e 10 (sI x10)) 1 (sI x1)) 18 (sI x1)) 19 (sI x10)) 20 (sI ((wr (Int.tdiv x10 4))))) 21 (sI ((wr ((wr (Int.tdiv x10 4)) * 1))))) 22 (sI ((wr (x1 + (wr ((wr (Int.tdiv x10 4)) * 1))))))) 12 (sI ((wr (x1 + (wr ((wr (Int.tdiv x10 4)) * 1))))))) V0 hp)) := by kernel_rfl
theorem F159_r4 : R159 [1, 1, 1, 1, 0] 6 (upd (upd e 10 (sI x10)) 1 (sI x1)) V0 hp K =
    (((4 : Int) ≠ 0) ∧ (K (upd (upd (upd (upd (upd (upd (upd (upd e 10 (sI x10)) 1 (sI x1)) 23 (sI x1)) 24 (sI x10)) 25 (sI ((wr (Int.tdiv x10 4))))) 26 (sI ((wr ((wr (Int.tdiv x10 4)) * 2))))) 27 (sI ((wr (x1 + (wr ((wr (Int.tdiv x10 4)) * 2))))))) 13 (sI ((wr (x1 + (wr ((wr (Int.tdiv x10 4)) * 2))))))) V0 hp)) := by kernel_rfl
theorem F159_r5 : R159 [1, 1, 1, 1, 1, 0] 6 (upd (upd e 10 (sI x10)) 1 (sI x1)) V0 hp K =
    (((4 : Int) ≠ 0) ∧ (K (upd (upd (upd (upd (upd (upd (upd (upd e 10 (sI x10)) 1 (sI x1)) 28 (sI x1)) 29 (sI x10)) 30 (sI ((wr (Int.tdiv x10 4))))) 31 (sI ((wr ((wr (Int.tdiv x10 4)) * 3))))) 32 (sI ((wr (x1 + (wr ((wr (Int.tdiv x10 4)) * 3))))))) 14 (sI ((wr (x1 + (wr ((wr (Int.tdiv x10 4)) * 3))))))) V0 hp)) := by kernel_rfl
theorem F159_r6 : R159 [1, 1, 1, 1, 1, 1, 1, 0] 1 (upd e 11 (sP x11)) V0 hp K =
    (ptrN x11 fun b1 o2 => (ldV (HP.cell hp b1 o2) fun v3 => (intV v3 .i64 fun i4 => (K (upd (upd e 11 (sP x11)) 55 (sI i4)) V0 hp)))) := by kernel_rfl
theorem F159_r7 : R159 [1, 1, 1, 1, 1, 1, 1, 1, 0, 0] 2 (upd e 55 (sI x55)) V0 hp K =
    (K (upd (upd (upd e 55 (sI x55)) 58 (sB ((x55 == 0)))) 57 (sB ((x55 == 0)))) V0 hp) := by kernel_rfl
theorem F159_r8 : R159 [1, 1, 1, 1, 1, 1, 1, 1, 0, 1, 0, 0] 3 (upd e 13 (sI x13)) V0 hp K =
    (K (upd (upd (upd (upd e 13 (sI x13)) 59 (sI x13)) 8 (sI x13)) 9 (sI 1)) V0 hp) := by kernel_rfl
theorem F159_r9 : R159 [1, 1, 1, 1, 1, 1, 1, 1, 0, 1, 1, 0] 2 (upd e 55 (sI x55)) V0 hp K =
    (K (upd (upd (upd e 55 (sI x55)) 61 (sB ((x55 == 12)))) 60 (sB ((x55 == 12)))) V0 hp) := by kernel_rfl
theorem F159_r10 : R159 [1, 1, 1, 1, 1, 1, 1, 1, 0, 1, 1, 1, 0, 0] 3 (upd e 13 (sI x13)) V0 hp K =
    (K (upd (upd (upd (upd e 13 (sI x13)) 62 (sI x13)) 8 (sI x13)) 9 (sI 2)) V0 hp) := by kernel_rfl
theorem F159_r11 : R159 [1, 1, 1, 1, 1, 1, 1, 1, 0, 1, 1, 1, 1, 0] 3 (upd e 13 (sI x13)) V0 hp K =
    (K (upd (upd (upd (upd e 13 (sI x13)) 56 (sI x13)) 8 (sI x13)) 9 (sI 0)) V0 hp) := by kernel_rfl
def F159_j1 (x11 : Option Addr) (x13 : Int) (hp : HP) (K : Value → HP → Prop) : Prop :=
  (ptrN x11 fun b_2 o_3 => (ldV (HP.cell hp b_2 o_3) fun v_4 => (intV v_4 .i64 fun i_5 => (ite2 (i_5 == 0) (K (.tuple ⟨[(.int .i64 x13), (.int .i64 1)]⟩) hp) (ite2 (i_5 == 12) (K (.tuple ⟨[(.int .i64 x13), (.int .i64 2)]⟩) hp) (K (.tuple ⟨[(.int .i64 x13), .int .i64 0]⟩) hp))))))
theorem F159_r12 : R159 [1, 1, 1, 1, 1, 1, 0, 0] 2 (upd e 10 (sI x10)) V0 hp K =
    (K (upd (upd (upd e 10 (sI x10)) 33 (sI x10)) 34 (sB (decide (x10 ≥ 8)))) V0 hp) := by kernel_rfl
theorem F159_r13 : R159 [1, 1, 1, 1, 1, 1, 0, 1, 0, 1] 7 (upd (upd (upd (upd (upd (upd e 14 (sI x14)) 13 (sI x13)) 12 (sI x12)) 11 (sP x11)) 3 (sV x3)) 0 (sS x0a x0n x0c)) V0 hp K =
    (CF Try.prog 178 [(.slice x0a x0n x0c), (.int .i64 x12), (.int .i64 x13), (.int .i64 x14), (.pointer x11), x3] hp fun u1 h2 => (intV u1 .i64 fun i3 => (K (upd (upd (upd (upd (upd (upd (upd (upd (upd (upd (upd (upd (upd e 14 (sI x14)) 13 (sI x13)) 12 (sI x12)) 11 (sP x11)) 3 (sV x3)) 0 (sS x0a x0n x0c)) 49 (sS x0a x0n x0c)) 50 (sI x12)) 51 (sI x13)) 52 (sI x14)) 53 (sV x3)) 54 (sI i3)) 13 (sI i3)) V0 h2))) := by kernel_rfl
def F159_j2 (x0a : Option Addr) (x0n : Nat) (x0c : Nat) (x3 : Value) (x11 : Option Addr) (x12 : Int) (x13 : Int) (x14 : Int) (hp : HP) (K : Value → HP → Prop) : Prop :=
  (CF Try.prog 178 [(.slice x0a x0n x0c), (.int .i64 x12), (.int .i64 x13), (.int .i64 x14), (.pointer x11), x3] hp fun u_6 h_7 => (intV u_6 .i64 fun i_8 => (F159_j1 x11 i_8 h_7  K)))
theorem F159_r14 : R159 [1, 1, 1, 1, 1, 1, 0, 1, 0, 0, 0] 2 (upd e 10 (sI x10)) V0 hp K =
    (K (upd (upd (upd e 10 (sI x10)) 35 (sI x10)) 36 (sB (decide (x10 ≥ 50)))) V0 hp) := by kernel_rfl
theorem F159_r15 : R159 [1, 1, 1, 1, 1, 1, 0, 1, 0, 0, 1, 0, 0] 5 (upd (upd (upd (upd e 12 (sI x12)) 11 (sP x11)) 3 (sV x3)) 0 (sS x0a x0n x0c)) V0 hp K =
    (CF Try.prog 177 [(.slice x0a x0n x0c), (.int .i64 x12), (.pointer x11), x3] hp fun u1 h2 => (intV u1 .i64 fun i3 => (K (upd (upd (upd (upd (upd (upd (upd (upd (upd e 12 (sI x12)) 11 (sP x11)) 3 (sV x3)) 0 (sS x0a x0n x0c)) 37 (sS x0a x0n x0c)) 38 (sI x12)) 39 (sV x3)) 40 (sI i3)) 12 (sI i3)) V0 h2))) := by kernel_rfl
theorem F159_r16 : R159 [1, 1, 1, 1, 1, 1, 0, 1, 0, 0, 1, 0, 1, 0] 5 (upd (upd (upd (upd e 13 (sI x13)) 11 (sP x11)) 3 (sV x3)) 0 (sS x0a x0n x0c)) V0 hp K =
    (CF Try.prog 177 [(.slice x0a x0n x0c), (.int .i64 x13), (.pointer x11), x3] hp fun u1 h2 => (intV u1 .i64 fun i3 => (K (upd (upd (upd (upd (upd (upd (upd (upd (upd e 13 (sI x13)) 11 (sP x11)) 3 (sV x3)) 0 (sS x0a x0n x0c)) 41 (sS x0a x0n x0c)) 42 (sI x13)) 43 (sV x3)) 44 (sI i3)) 13 (sI i3)) V0 h2))) := by kernel_rfl
theorem F159_r17 : R159 [1, 1, 1, 1, 1, 1, 0, 1, 0, 0, 1, 0, 1, 1] 5 (upd (upd (upd (upd e 14 (sI x14)) 11 (sP x11)) 3 (sV x3)) 0 (sS x0a x0n x0c)) V0 hp K =
    (CF Try.prog 177 [(.slice x0a x0n x0c), (.int .i64 x14), (.pointer x11), x3] hp fun u1 h2 => (intV u1 .i64 fun i3 => (K (upd (upd (upd (upd (upd (upd (upd (upd (upd e 14 (sI x14)) 11 (sP x11)) 3 (sV x3)) 0 (sS x0a x0n x0c)) 45 (sS x0a x0n x0c)) 46 (sI x14)) 47 (sV x3)) 48 (sI i3)) 14 (sI i3)) V0 h2))) := by kernel_rfl
def F159 (x0a : Option Addr) (x0n : Nat) (x0c : Nat) (x1 : Int) (x2 : Int) (x3 : Value) (hp : HP) (K : Value → HP → Prop) : Prop :=
  (∀ b_1 : Nat, hp b_1 = .none → (((4 : Int) ≠ 0) ∧ (((4 : Int) ≠ 0) ∧ (((4 : Int) ≠ 0) ∧ (ite2 (decide (((IntKind.wrap .i64 (x2 - x1)) : Int) ≥ 8)) (ite2 (decide (((IntKind.wrap .i64 (x2 - x1)) : Int) ≥ 50)) (CF Try.prog 177 [(.slice x0a x0n x0c), (.int .i64 (IntKind.wrap .i64 (x1 + (IntKind.wrap .i64 ((IntKind.wrap .i64 (Int.tdiv (IntKind.wrap .i64 (x2 - x1)) 4)) * 1))))), (.pointer (some ⟨b_1, 0, none⟩)), x3] (HP.set hp b_1 (.cells 3 [.int .i64 0] 0)) fun u_9 h_10 => (intV u_9 .i64 fun i_11 => (CF Try.prog 177 [(.slice x0a x0n x0c), (.int .i64 (IntKind.wrap .i64 (x1 + (IntKind.wrap .i64 ((IntKind.wrap .i64 (Int.tdiv (IntKind.wrap .i64 (x2 - x1)) 4)) * 2))))), (.pointer (some ⟨b_1, 0, none⟩)), x3] h_10 fun u_12 h_13 => (intV u_12 .i64 fun i_14 => (CF Try.prog 177 [(.slice x0a x0n x0c), (.int .i64 (IntKind.wrap .i64 (x1 + (IntKind.wrap .i64 ((IntKind.wrap .i64 (Int.tdiv (IntKind.wrap .i64 (x2 - x1)) 4)) * 3))))), (.pointer (some ⟨b_1, 0, none⟩)), x3] h_13 fun u_15 h_16 => (intV u_15 .i64 fun i_17 => (F159_j2 x0a x0n x0c x3 (some ⟨b_1, 0, none⟩) i_11 i_14 i_17 h_16  K))))))) (F159_j2 x0a x0n x0c x3 (some ⟨b_1, 0, none⟩) (IntKind.wrap .i64 (x1 + (IntKind.wrap .i64 ((IntKind.wrap .i64 (Int.tdiv (IntKind.wrap .i64 (x2 - x1)) 4)) * 1)))) (IntKind.wrap .i64 (x1 + (IntKind.wrap .i64 ((IntKind.wrap .i64 (Int.tdiv (IntKind.wrap .i64 (x2 - x1)) 4)) * 2)))) (IntKind.wrap .i64 (x1 + (IntKind.wrap .i64 ((IntKind.wrap .i64 (Int.tdiv (IntKind.wrap .i64 (x2 - x1)) 4)) * 3)))) (HP.set hp b_1 (.cells 3 [.int .i64 0] 0))  K)) (F159_j1 (some ⟨b_1, 0, none⟩) (IntKind.wrap .i64 (x1 + (IntKind.wrap .i64 ((IntKind.wrap .i64 (Int.tdiv (IntKind.wrap .i64 (x2 - x1)) 4)) * 2)))) (HP.set hp b_1 (.cells 3 [.int .i64 0] 0))  K))))))
noncomputable def F159_code : Code := (.seq (.region 0 (opsAt Try.f159 [0]) false) (.seq (.region 1 (opsAt Try.f159 [1, 0]) false) (.seq (.region 2 (opsAt Try.f159 [1, 1, 0]) false) (.seq (.region 3 (opsAt Try.f159 [1, 1, 1, 0]) false) (.seq (.region 4 (opsAt Try.f159 [1, 1, 1, 1, 0]) false) (.seq (.region 5 (opsAt Try.f159 [1, 1, 1, 1, 1, 0]) false) (.seq (.seq (.region 6 (opsAt Try.f159 [1, 1, 1, 1, 1, 1, 0, 0]) false) (.cond (.tmp 34) (.seq (.seq (.region 7 (opsAt Try.f159 [1, 1, 1, 1, 1, 1, 0, 1, 0, 0, 0]) false) (.cond (.tmp 36) (.seq (.region 8 (opsAt Try.f159 [1, 1, 1, 1, 1, 1, 0, 1, 0, 0, 1, 0, 0]) false) (.seq (.region 9 (opsAt Try.f159 [1, 1, 1, 1, 1, 1, 0, 1, 0, 0, 1, 0, 1, 0]) false) (.region 10 (opsAt Try.f159 [1, 1, 1, 1, 1, 1, 0, 1, 0, 0, 1, 0, 1, 1]) false))) .skip)) (.region 11 (opsAt Try.f159 [1, 1, 1, 1, 1, 1, 0, 1, 0, 1]) false)) .skip)) (.seq (.region 12 (opsAt Try.f159 [1, 1, 1, 1, 1, 1, 1, 0]) false) (.block 0 (.seq (.region 14 (opsAt Try.f159 [1, 1, 1, 1, 1, 1, 1, 1, 0, 0]) false) (.cond (.tmp 57) (.seq (.region 15 (opsAt Try.f159 [1, 1, 1, 1, 1, 1, 1, 1, 0, 1, 0, 0]) false) .ret) (.seq (.region 16 (opsAt Try.f159 [1, 1, 1, 1, 1, 1, 1, 1, 0, 1, 1, 0]) false) (.cond (.tmp 60) (.seq (.region 17 (opsAt Try.f159 [1, 1, 1, 1, 1, 1, 1, 1, 0, 1, 1, 1, 0, 0]) false) .ret) (.seq (.region 13 (opsAt Try.f159 [1, 1, 1, 1, 1, 1, 1, 1, 0, 1, 1, 1, 1, 0]) false) .ret))))))))))))))
theorem F159_body : Try.f159.body = some F159_code := by kernel_rfl
theorem F159_ok (x0a : Option Addr) (x0n : Nat) (x0c : Nat) (x1 : Int) (x2 : Int) (x3 : Value) (hp : HP) (K : Value → HP → Prop) (h : F159 x0a x0n x0c x1 x2 x3 hp K) : CF Try.prog 159 [(.slice x0a x0n x0c), (.int .i64 x1), (.int .i64 x2), x3] hp K := by
 refine .inl ⟨by kernel_rfl, AC.intro (N := 63) Try.func159 F159_body rfl (Nat.le_of_ble_eq_true rfl) ?_⟩
 unfold F159 at h
 unfold F159_code
 refine AWP.seq' ?_
 refine AWP.rgn (F159_r0 (upd (upd (upd (upd E0 3 (sV x3)) 2 (sI x2)) 1 (sI x1)) 0 (sS x0a x0n x0c))  hp _) ?_ (Ru 0 (Ru 1 (Ru 2 (Ru 3 Rn)))) (Sc rfl (Sc rfl (Sc rfl (Sc rfl Sn)))) Sn
 refine AWP.seq' ?_
 refine AWP.rgn (F159_r1 (upd (upd E0 3 (sV x3)) 0 (sS x0a x0n x0c)) x1 x2 hp _) ?_ (Ru 1 (Ru 2 (Ru 0 (Ru 3 Rn)))) (Sc rfl (Sc rfl (Sc rfl (Sc rfl Sn)))) Sn
 refine AWP.seq' ?_
 refine AWP.rgn (F159_r2 (upd (upd (upd (upd E0 10 (sI ((wr (x2 - x1))))) 3 (sV x3)) 1 (sI x1)) 0 (sS x0a x0n x0c))  hp _) ?_ (Ru 0 (Ru 1 (Ru 3 (Ru 10 Rn)))) (Sc rfl (Sc rfl (Sc rfl (Sc rfl Sn)))) Sn
 refine fun b_1 hb_b_1 => ?_
 replace h := h b_1 hb_b_1
 refine AWP.seq' ?_
 refine AWP.rgn (F159_r3 (upd (upd (upd E0 11 (sV (.pointer (some ⟨b_1, 0, none⟩)))) 3 (sV x3)) 0 (sS x0a x0n x0c)) x1 (wr (x2 - x1)) (HP.set hp b_1 (.cells 3 [.int .i64 0] 0)) _) ?_ (Ru 1 (Ru 10 (Ru 0 (Ru 3 (Ru 11 Rn))))) (Sc rfl (Sc rfl (Sc rfl (Sc rfl (Sc rfl Sn))))) Sn
 refine ⟨h.1, ?_⟩
 replace h := h.2
 refine AWP.seq' ?_
 refine AWP.rgn (F159_r4 (upd (upd (upd (upd E0 12 (sI ((wr (x1 + (wr ((wr (Int.tdiv (wr (x2 - x1)) 4)) * 1))))))) 11 (sV (.pointer (some ⟨b_1, 0, none⟩)))) 3 (sV x3)) 0 (sS x0a x0n x0c)) x1 (wr (x2 - x1)) (HP.set hp b_1 (.cells 3 [.int .i64 0] 0)) _) ?_ (Ru 1 (Ru 10 (Ru 0 (Ru 3 (Ru 11 (Ru 12 Rn)))))) (Sc rfl (Sc rfl (Sc rfl (Sc rfl (Sc rfl (Sc rfl Sn)))))) Sn
 refine ⟨h.1, ?_⟩
 replace h := h.2
 refine AWP.seq' ?_
 refine AWP.rgn (F159_r5 (upd (upd (upd (upd (upd E0 13 (sI ((wr (x1 + (wr ((wr (Int.tdiv (wr (x2 - x1)) 4)) * 2))))))) 12 (sI ((wr (x1 + (wr ((wr (Int.tdiv (wr (x2 - x1)) 4)) * 1))))))) 11 (sV (.pointer (some ⟨b_1, 0, none⟩)))) 3 (sV x3)) 0 (sS x0a x0n x0c)) x1 (wr (x2 - x1)) (HP.set hp b_1 (.cells 3 [.int .i64 0] 0)) _) ?_ (Ru 1 (Ru 10 (Ru 0 (Ru 3 (Ru 11 (Ru 12 (Ru 13 Rn))))))) (Sc rfl (Sc rfl (Sc rfl (Sc rfl (Sc rfl (Sc rfl (Sc rfl Sn))))))) Sn
 refine ⟨h.1, ?_⟩
 replace h := h.2
 refine AWP.seq (fun env pv hp => ∃ (x11 : Option Addr) (x13 : Int), Sub (upd (upd E0 13 (sI x13)) 11 (sP x11)) env ∧ Sub V0 pv ∧ (F159_j1 x11 x13 hp  K)) ?_ ?_
 ·refine AWP.seq' ?_
  refine AWP.rgn (F159_r12 (upd (upd (upd (upd (upd (upd E0 14 (sI ((wr (x1 + (wr ((wr (Int.tdiv (wr (x2 - x1)) 4)) * 3))))))) 13 (sI ((wr (x1 + (wr ((wr (Int.tdiv (wr (x2 - x1)) 4)) * 2))))))) 12 (sI ((wr (x1 + (wr ((wr (Int.tdiv (wr (x2 - x1)) 4)) * 1))))))) 11 (sV (.pointer (some ⟨b_1, 0, none⟩)))) 3 (sV x3)) 0 (sS x0a x0n x0c)) (wr (x2 - x1)) (HP.set hp b_1 (.cells 3 [.int .i64 0] 0)) _) ?_ (Ru 10 (Ru 0 (Ru 3 (Ru 11 (Ru 12 (Ru 13 (Ru 14 Rn))))))) (Sc rfl (Sc rfl (Sc rfl (Sc rfl (Sc rfl (Sc rfl (Sc rfl Sn))))))) Sn
  refine AWP.cond (t := (decide (((wr (x2 - x1)) : Int) ≥ 8))) rfl (fun e => ?_) (fun e => ?_)
  ·replace h := ite2_t h e
   refine AWP.seq (fun env pv hp => ∃ (x0a : Option Addr) (x0n : Nat) (x0c : Nat) (x3 : Value) (x11 : Option Addr) (x12 : Int) (x13 : Int) (x14 : Int), Sub (upd (upd (upd (upd (upd (upd E0 14 (sI x14)) 13 (sI x13)) 12 (sI x12)) 11 (sP x11)) 3 (sV x3)) 0 (sS x0a x0n x0c)) env ∧ Sub V0 pv ∧ (F159_j2 x0a x0n x0c x3 x11 x12 x13 x14 hp  K)) ?_ ?_
   ·refine AWP.seq' ?_
    refine AWP.rgn (F159_r14 (upd (upd (upd (upd (upd (upd E0 14 (sI ((wr (x1 + (wr ((wr (Int.tdiv (wr (x2 - x1)) 4)) * 3))))))) 13 (sI ((wr (x1 + (wr ((wr (Int.tdiv (wr (x2 - x1)) 4)) * 2))))))) 12 (sI ((wr (x1 + (wr ((wr (Int.tdiv (wr (x2 - x1)) 4)) * 1))))))) 11 (sV (.pointer (some ⟨b_1, 0, none⟩)))) 3 (sV x3)) 0 (sS x0a x0n x0c)) (wr (x2 - x1)) (HP.set hp b_1 (.cells 3 [.int .i64 0] 0)) _) ?_ (Ru 10 (Ru 0 (Ru 3 (Ru 11 (Ru 12 (Ru 13 (Ru 14 Rn))))))) (Sc rfl (Sc rfl (Sc rfl (Sc rfl (Sc rfl (Sc rfl (Sc rfl Sn))))))) Sn
    refine AWP.cond (t := (decide (((wr (x2 - x1)) : Int) ≥ 50))) rfl (fun e => ?_) (fun e => ?_)
    ·replace h := ite2_t h e
     refine AWP.seq' ?_
     refine AWP.rgn (F159_r15 (upd (upd E0 14 (sI ((wr (x1 + (wr ((wr (Int.tdiv (wr (x2 - x1)) 4)) * 3))))))) 13 (sI ((wr (x1 + (wr ((wr (Int.tdiv (wr (x2 - x1)) 4)) * 2))))))) x0a x0n x0c x3 (some ⟨b_1, 0, none⟩) (wr (x1 + (wr ((wr (Int.tdiv (wr (x2 - x1)) 4)) * 1)))) (HP.set hp b_1 (.cells 3 [.int .i64 0] 0)) _) ?_ (Ru 0 (Ru 3 (Ru 11 (Ru 12 (Ru 13 (Ru 14 Rn)))))) (Sc rfl (Sc rfl (Sc rfl (Sc rfl (Sc rfl (Sc rfl Sn)))))) Sn
     refine mC h fun u_9 h_10 h => mI h fun i_11 h => ?_
     refine AWP.seq' ?_
     refine AWP.rgn (F159_r16 (upd (upd E0 14 (sI ((wr (x1 + (wr ((wr (Int.tdiv (wr (x2 - x1)) 4)) * 3))))))) 12 (sI i_11)) x0a x0n x0c x3 (some ⟨b_1, 0, none⟩) (wr (x1 + (wr ((wr (Int.tdiv (wr (x2 - x1)) 4)) * 2)))) h_10 _) ?_ (Ru 0 (Ru 3 (Ru 11 (Ru 13 (Ru 12 (Ru 14 Rn)))))) (Sc rfl (Sc rfl (Sc rfl (Sc rfl (Sc rfl (Sc rfl Sn)))))) Sn
     refine mC h fun u_12 h_13 h => mI h fun i_14 h => ?_
     refine AWP.rgn (F159_r17 (upd (upd E0 13 (sI i_14)) 12 (sI i_11)) x0a x0n x0c x3 (some ⟨b_1, 0, none⟩) (wr (x1 + (wr ((wr (Int.tdiv (wr (x2 - x1)) 4)) * 3)))) h_13 _) ?_ (Ru 0 (Ru 3 (Ru 11 (Ru 14 (Ru 12 (Ru 13 Rn)))))) (Sc rfl (Sc rfl (Sc rfl (Sc rfl (Sc rfl (Sc rfl Sn)))))) Sn
     refine mC h fun u_15 h_16 h => mI h fun i_17 h => ?_
     exact ⟨x0a, x0n, x0c, x3, (some ⟨b_1, 0, none⟩), i_11, i_14, i_17, (Sc rfl (Sc rfl (Sc rfl (Sc rfl (Sc rfl (Sc rfl Sn)))))), Sn, h⟩
    ·replace h := ite2_f h e
     refine AWP.skip ?_
     exact ⟨x0a, x0n, x0c, x3, (some ⟨b_1, 0, none⟩), (wr (x1 + (wr ((wr (Int.tdiv (wr (x2 - x1)) 4)) * 1)))), (wr (x1 + (wr ((wr (Int.tdiv (wr (x2 - x1)) 4)) * 2)))), (wr (x1 + (wr ((wr (Int.tdiv (wr (x2 - x1)) 4)) * 3)))), (Sc rfl (Sc rfl (Sc rfl (Sc rfl (Sc rfl (Sc rfl Sn)))))), Sn, h⟩
   ·rintro env pv hp ⟨x0a, x0n, x0c, x3, x11, x12, x13, x14, he, hv, h⟩
    refine AWP.sub (env' := (upd (upd (upd (upd (upd (upd E0 14 (sI x14)) 13 (sI x13)) 12 (sI x12)) 11 (sP x11)) 3 (sV x3)) 0 (sS x0a x0n x0c))) (pv' := V0) ?_ (Ru 0 (Ru 3 (Ru 11 (Ru 12 (Ru 13 (Ru 14 Rn)))))) he hv (HSub.refl _)
    clear he hv
    unfold F159_j2 at h
    refine AWP.rgn (F159_r13 E0 x0a x0n x0c x3 x11 x12 x13 x14 hp _) ?_ (Ru 0 (Ru 3 (Ru 11 (Ru 12 (Ru 13 (Ru 14 Rn)))))) (Sc rfl (Sc rfl (Sc rfl (Sc rfl (Sc rfl (Sc rfl Sn)))))) Sn
    refine mC h fun u_6 h_7 h => mI h fun i_8 h => ?_
    exact ⟨x11, i_8, (Sc rfl (Sc rfl Sn)), Sn, h⟩
  ·replace h := ite2_f h e
   refine AWP.skip ?_
   exact ⟨(some ⟨b_1, 0, none⟩), (wr (x1 + (wr ((wr (Int.tdiv (wr (x2 - x1)) 4)) * 2)))), (Sc rfl (Sc rfl Sn)), Sn, h⟩
 ·rintro env pv hp ⟨x11, x13, he, hv, h⟩
  refine AWP.sub (env' := (upd (upd E0 13 (sI x13)) 11 (sP x11))) (pv' := V0) ?_ (Ru 11 (Ru 13 Rn)) he hv (HSub.refl _)
  clear he hv
  unfold F159_j1 at h
  refine AWP.seq' ?_
  refine AWP.rgn (F159_r6 (upd E0 13 (sI x13)) x11 hp _) ?_ (Ru 11 (Ru 13 Rn)) (Sc rfl (Sc rfl Sn)) Sn
  refine mN h fun b_2 o_3 h => mV h fun v_4 h => mI h fun i_5 h => ?_
  refine AWP.block ?_
  refine AWP.seq' ?_
  refine AWP.rgn (F159_r7 (upd E0 13 (sI x13)) i_5 hp _) ?_ (Ru 55 (Ru 13 Rn)) (Sc rfl (Sc rfl Sn)) Sn
  refine AWP.cond (t := (i_5 == 0)) rfl (fun e => ?_) (fun e => ?_)
  ·replace h := ite2_t h e
   refine AWP.seq' ?_
   refine AWP.rgn (F159_r8 E0 x13 hp _) ?_ (Ru 13 Rn) (Sc rfl Sn) Sn
   refine AWP.ret ?_
   exact h
  ·replace h := ite2_f h e
   refine AWP.seq' ?_
   refine AWP.rgn (F159_r9 (upd E0 13 (sI x13)) i_5 hp _) ?_ (Ru 55 (Ru 13 Rn)) (Sc rfl (Sc rfl Sn)) Sn
   refine AWP.cond (t := (i_5 == 12)) rfl (fun e => ?_) (fun e => ?_)
   ·replace h := ite2_t h e
    refine AWP.seq' ?_
    refine AWP.rgn (F159_r10 E0 x13 hp _) ?_ (Ru 13 Rn) (Sc rfl Sn) Sn
    refine AWP.ret ?_
    exact h
   ·replace h := ite2_f h e
    refine AWP.seq' ?_
    refine AWP.rgn (F159_r11 E0 x13 hp _) ?_ (Ru 13 Rn) (Sc rfl Sn) Sn
    refine AWP.ret ?_
    exact h
end
-- 158 slices.breakPatternsCmpFunc[interpreter/api.T4]
section
variable (e : Env) (x0a : Option Addr) (x0n x0c : Nat) (x1 x2 x8 : Int) (x9 : Option Addr) (x10 x11 x12 : Int) (hp : HP) (K : Env → PV → HP → Prop)
abbrev R158 (p : List Nat) (n : Nat) := RW Try.prog 67 [] (opsAt Try.f158 p) (List.range n)
theorem F158_r0 : R158 [0] 4 (upd (upd e 2 (sI x2)) 1 (sI x1)) V0 hp K =
    (K (upd (upd (upd (upd (upd (upd e 2 (sI x2)) 1 (sI x1)) 13 (sI x2)) 14 (sI x1)) 15 (sI ((wr (x2 - x1))))) 8 (sI ((wr (x2 - x1))))) V0 hp) := by kernel_rfl
theorem F158_r1 : R158 [1, 0] 2 (upd e 8 (sI x8)) V0 hp K =
    (K (upd (upd (upd e 8 (sI x8)) 16 (sI x8)) 17 (sB (decide (x8 ≥ 8)))) V0 hp) := by kernel_rfl
theorem F158_r2 : R158 [1, 1, 0, 0] 4 (upd e 8 (sI x8)) V0 hp K =
    (∀ b1 : Nat, hp b1 = .none → (HP.st (HP.set hp b1 (.cells 236 [.int .u64 0] 0)) b1 0 (.int .u64 (IntKind.wrap .u64 (x8))) fun h2 => (K (upd (upd (upd (upd e 8 (sI x8)) 18 (sI x8)) 19 (sV (.int .u64 (IntKind.wrap .u64 (x8))))) 9 (sQ b1 0)) V0 h2))) := by kernel_rfl
theorem F158_r3 : R158 [1, 1, 0, 1, 0] 3 (upd e 8 (sI x8)) V0 hp K =
    (CF Try.prog 172 [(.int .i64 x8)] hp fun u1 h2 => (intV u1 .u64 fun i3 => (K (upd (upd (upd (upd e 8 (sI x8)) 20 (sI x8)) 21 (sV (.int .u64 i3))) 10 (sV (.int .u64 i3))) V0 h2))) := by kernel_rfl
theorem F158_r4 : R158 [1, 1, 0, 1, 1, 1, 0, 0, 0, 0] 8 (upd (upd (upd e 11 (sI x11)) 8 (sI x8)) 1 (sI x1)) V0 hp K =
    (((4 : Int) ≠ 0) ∧ (K (upd (upd (upd (upd (upd (upd (upd (upd (upd (upd (upd e 11 (sI x11)) 8 (sI x8)) 1 (sI x1)) 28 (sI x11)) 29 (sI x1)) 30 (sI x8)) 31 (sI ((wr (Int.tdiv x8 4))))) 32 (sI ((wr ((wr (Int.tdiv x8 4)) * 2))))) 33 (sI ((wr (x1 + (wr ((wr (Int.tdiv x8 4)) * 2))))))) 34 (sI ((wr ((wr (x1 + (wr ((wr (Int.tdiv x8 4)) * 2)))) + 1))))) 35 (sB ((decide (x11 ≤ (wr ((wr (x1 + (wr ((wr (Int.tdiv x8 4)) * 2)))) + 1))))))) V0 hp)) := by kernel_rfl
theorem F158_r5 : R158 [1, 1, 0, 1, 1, 1, 0, 0, 1, 0, 0, 0] 6 (upd (upd e 10 (sV (.int .u64 x10))) 9 (sP x9)) V0 hp K =
    (CF Try.prog 173 [(.pointer x9)] hp fun u1 h2 => (intV u1 .u64 fun i3 => (K (upd (upd (upd (upd (upd (upd (upd (upd e 10 (sV (.int .u64 x10))) 9 (sP x9)) 38 (sV (.int .u64 i3))) 39 (sV (.int .u64 x10))) 40 (sV (.int .u64 (IntKind.wrap .u64 (x10 - 1))))) 41 (sV (.int .u64 (band .u64 i3 (IntKind.wrap .u64 (x10 - 1)))))) 42 (sI ((wr ((band .u64 i3 (IntKind.wrap .u64 (x10 - 1)))))))) 12 (sI ((wr ((band .u64 i3 (IntKind.wrap .u64 (x10 - 1)))))))) V0 h2))) := by kernel_rfl
theorem F158_r6 : R158 [1, 1, 0, 1, 1, 1, 0, 0, 1, 0, 0, 1, 1] 20 (upd (upd (upd (upd e 12 (sI x12)) 11 (sI x11)) 1 (sI x1)) 0 (sS x0a x0n x0c)) V0 hp K =
    ((0 ≤ ((wr (x1 + x12)) : Int)) ∧ (((wr (x1 + x12)) : Int) < x0n) ∧ (ptrN x0a fun b1 o2 => (ldL (HP.cellN hp b1 (o2 + Int.toNat (wr (x1 + x12)) * 5) 5) fun l3 => ((0 ≤ x11) ∧ (x11 < x0n) ∧ (ptrN x0a fun b4 o5 => (ldL (HP.cellN hp b4 (o5 + Int.toNat x11 * 5) 5) fun l6 => ((0 ≤ x11) ∧ (x11 < x0n) ∧ (ptrN x0a fun b7 o8 => ((List.length l3 = 5) ∧ (HP.stN hp b7 (o8 + Int.toNat x11 * 5) l3 fun h9 => ((0 ≤ ((wr (x1 + x12)) : Int)) ∧ (((wr (x1 + x12)) : Int) < x0n) ∧ (ptrN x0a fun b10 o11 => ((List.length l6 = 5) ∧ (HP.stN h9 b10 (o11 + Int.toNat (wr (x1 + x12)) * 5) l6 fun h12 => (K (upd (upd (upd (upd (upd (upd (upd (upd (upd (upd (upd (upd (upd (upd (upd (upd (upd (upd (upd (upd (upd (upd e 12 (sI x12)) 11 (sI x11)) 1 (sI x1)) 0 (sS x0a x0n x0c)) 49 (sS x0a x0n x0c)) 50 (sI x11)) 51 (sS x0a x0n x0c)) 52 (sI x1)) 53 (sI x12)) 54 (sI ((wr (x1 + x12))))) 55 (sS x0a x0n x0c)) 56 (sI x1)) 57 (sI x12)) 58 (sI ((wr (x1 + x12))))) 59 (sV (ptr b1 (o2 + Int.toNat (wr (x1 + x12)) * 5)))) 60 (sA l3)) 61 (sS x0a x0n x0c)) 62 (sI x11)) 63 (sQ b4 (o5 + Int.toNat x11 * 5))) 64 (sA l6)) 65 (sQ b7 (o8 + Int.toNat x11 * 5))) 66 (sV (ptr b10 (o11 + Int.toNat (wr (x1 + x12)) * 5)))) V0 h12))))))))))))))) := by kernel_rfl
theorem F158_r7 : R158 [1, 1, 0, 1, 1, 1, 0, 0, 1, 1] 3 (upd e 11 (sI x11)) V0 hp K =
    (K (upd (upd (upd (upd e 11 (sI x11)) 36 (sI x11)) 37 (sI ((wr (x11 + 1))))) 11 (sI ((wr (x11 + 1))))) V0 hp) := by kernel_rfl
def F158_j3 (x0a : Option Addr) (x0n : Nat) (x0c : Nat) (x1 : Int) (x8 : Int) (x9 : Option Addr) (x10 : Int) (x11 : Int) (x12 : Int) (hp : HP) (I2 : (Int) → HP → Prop) (K : Value → HP → Prop) : Prop :=
  ((0 ≤ ((IntKind.wrap .i64 (x1 + x12)) : Int)) ∧ (((IntKind.wrap .i64 (x1 + x12)) : Int) < x0n) ∧ (ptrN x0a fun b_9 o_10 => (ldL (HP.cellN hp b_9 (o_10 + Int.toNat (IntKind.wrap .i64 (x1 + x12)) * 5) 5) fun l_11 => ((0 ≤ x11) ∧ (x11 < x0n) ∧ (ptrN x0a fun b_12 o_13 => (ldL (HP.cellN hp b_12 (o_13 + Int.toNat x11 * 5) 5) fun l_14 => ((0 ≤ x11) ∧ (x11 < x0n) ∧ (ptrN x0a fun b_15 o_16 => ((List.length l_11 = 5) ∧ (HP.stN hp b_15 (o_16 + Int.toNat x11 * 5) l_11 fun h_17 => ((0 ≤ ((IntKind.wrap .i64 (x1 + x12)) : Int)) ∧ (((IntKind.wrap .i64 (x1 + x12)) : Int) < x0n) ∧ (ptrN x0a fun b_18 o_19 => ((List.length l_14 = 5) ∧ (HP.stN h_17 b_18 (o_19 + Int.toNat (IntKind.wrap .i64 (x1 + x12)) * 5) l_14 fun h_20 => (I2 (IntKind.wrap .i64 (x11 + 1)) h_20)))))))))))))))
theorem F158_r8 : R158 [1, 1, 0, 1, 1, 1, 0, 0, 1, 0, 0, 1, 0, 0] 3 (upd (upd e 12 (sI x12)) 8 (sI x8)) V0 hp K =
    (K (upd (upd (upd (upd (upd e 12 (sI x12)) 8 (sI x8)) 43 (sI x12)) 44 (sI x8)) 45 (sB (decide (x12 ≥ x8)))) V0 hp) := by kernel_rfl
theorem F158_r9 : R158 [1, 1, 0, 1, 1, 1, 0, 0, 1, 0, 0, 1, 0, 1, 0] 4 (upd (upd e 12 (sI x12)) 8 (sI x8)) V0 hp K =
    (K (upd (upd (upd (upd (upd (upd e 12 (sI x12)) 8 (sI x8)) 46 (sI x12)) 47 (sI x8)) 48 (sI ((wr (x12 - x8))))) 12 (sI ((wr (x12 - x8))))) V0 hp) := by kernel_rfl
def F158_l2 (x0a : Option Addr) (x0n : Nat) (x0c : Nat) (x1 : Int) (x8 : Int) (x9 : Option Addr) (x10 : Int) (K : Value → HP → Prop) (I2 : (Int) → HP → Prop) (x11 : Int) (hp : HP) : Prop :=
  (((4 : Int) ≠ 0) ∧ (ite2 (decide (x11 ≤ (IntKind.wrap .i64 ((IntKind.wrap .i64 (x1 + (IntKind.wrap .i64 ((IntKind.wrap .i64 (Int.tdiv x8 4)) * 2)))) + 1)))) (CF Try.prog 173 [(.pointer x9)] hp fun u_6 h_7 => (intV u_6 .u64 fun i_8 => (ite2 (decide (((IntKind.wrap .i64 ((band .u64 i_8 (IntKind.wrap .u64 (x10 - 1))))) : Int) ≥ x8)) (F158_j3 x0a x0n x0c x1 x8 x9 x10 x11 (IntKind.wrap .i64 ((IntKind.wrap .i64 ((band .u64 i_8 (IntKind.wrap .u64 (x10 - 1))))) - x8)) h_7 I2 K) (F158_j3 x0a x0n x0c x1 x8 x9 x10 x11 (IntKind.wrap .i64 ((band .u64 i_8 (IntKind.wrap .u64 (x10 - 1))))) h_7 I2 K)))) (K (.tuple ⟨[]⟩) hp)))
def F158_j1 (x0a : Option Addr) (x0n : Nat) (x0c : Nat) (x1 : Int) (x8 : Int) (x9 : Option Addr) (x10 : Int) (x11 : Int) (hp : HP) (K : Value → HP → Prop) : Prop :=
  (LoopP (σ := Int) (fun I s hp => F158_l2 x0a x0n x0c x1 x8 x9 x10  K I s hp) x11 hp)
theorem F158_r10 : R158 [1, 1, 0, 1, 1, 0] 7 (upd (upd e 8 (sI x8)) 1 (sI x1)) V0 hp K =
    (((4 : Int) ≠ 0) ∧ (K (upd (upd (upd (upd (upd (upd (upd (upd (upd e 8 (sI x8)) 1 (sI x1)) 22 (sI x1)) 23 (sI x8)) 24 (sI ((wr (Int.tdiv x8 4))))) 25 (sI ((wr ((wr (Int.tdiv x8 4)) * 2))))) 26 (sI ((wr (x1 + (wr ((wr (Int.tdiv x8 4)) * 2))))))) 27 (sI ((wr ((wr (x1 + (wr ((wr (Int.tdiv x8 4)) * 2)))) - 1))))) 11 (sI ((wr ((wr (x1 + (wr ((wr (Int.tdiv x8 4)) * 2)))) - 1))))) V0 hp)) := by kernel_rfl
def F158 (x0a : Option Addr) (x0n : Nat) (x0c : Nat) (x1 : Int) (x2 : Int) (x3 : Value) (hp : HP) (K : Value → HP → Prop) : Prop :=
  (ite2 (decide (((IntKind.wrap .i64 (x2 - x1)) : Int) ≥ 8)) (∀ b_1 : Nat, hp b_1 = .none → (HP.st (HP.set hp b_1 (.cells 236 [.int .u64 0] 0)) b_1 0 (.int .u64 (IntKind.wrap .u64 ((IntKind.wrap .i64 (x2 - x1))))) fun h_2 => (CF Try.prog 172 [(.int .i64 (IntKind.wrap .i64 (x2 - x1)))] h_2 fun u_3 h_4 => (intV u_3 .u64 fun i_5 => (((4 : Int) ≠ 0) ∧ (F158_j1 x0a x0n x0c x1 (IntKind.wrap .i64 (x2 - x1)) (some ⟨b_1, 0, none⟩) i_5 (IntKind.wrap .i64 ((IntKind.wrap .i64 (x1 + (IntKind.wrap .i64 ((IntKind.wrap .i64 (Int.tdiv (IntKind.wrap .i64 (x2 - x1)) 4)) * 2)))) - 1)) h_4  K)))))) (K (.tuple ⟨[]⟩) hp))
noncomputable def F158_code : Code := (.seq (.region 0 (opsAt Try.f158 [0]) false) (.seq (.region 1 (opsAt Try.f158 [1, 0]) false) (.cond (.tmp 17) (.seq (.region 2 (opsAt Try.f158 [1, 1, 0, 0]) false) (.seq (.region 3 (opsAt Try.f158 [1, 1, 0, 1, 0]) false) (.seq (.region 4 (opsAt Try.f158 [1, 1, 0, 1, 1, 0]) false) (.block 0 (.loop (.seq (.seq (.region 5 (opsAt Try.f158 [1, 1, 0, 1, 1, 1, 0, 0, 0, 0]) false) (.cond (.tmp 35) .skip (.exit 0))) (.seq (.block 1 (.seq (.region 7 (opsAt Try.f158 [1, 1, 0, 1, 1, 1, 0, 0, 1, 0, 0, 0]) false) (.seq (.seq (.region 8 (opsAt Try.f158 [1, 1, 0, 1, 1, 1, 0, 0, 1, 0, 0, 1, 0, 0]) false) (.cond (.tmp 45) (.region 9 (opsAt Try.f158 [1, 1, 0, 1, 1, 1, 0, 0, 1, 0, 0, 1, 0, 1, 0]) false) .skip)) (.region 10 (opsAt Try.f158 [1, 1, 0, 1, 1, 1, 0, 0, 1, 0, 0, 1, 1]) true)))) (.region 6 (opsAt Try.f158 [1, 1, 0, 1, 1, 1, 0, 0, 1, 1]) false)))))))) .skip)))
theorem F158_body : Try.f158.body = some F158_code := by kernel_rfl
theorem F158_ok (x0a : Option Addr) (x0n : Nat) (x0c : Nat) (x1 : Int) (x2 : Int) (x3 : Value) (hp : HP) (K : Value → HP → Prop) (h : F158 x0a x0n x0c x1 x2 x3 hp K) : CF Try.prog 158 [(.slice x0a x0n x0c), (.int .i64 x1), (.int .i64 x2), x3] hp K := by
 refine .inl ⟨by kernel_rfl, AC.intro (N := 67) Try.func158 F158_body rfl (Nat.le_of_ble_eq_true rfl) ?_⟩
 unfold F158 at h
 unfold F158_code
 refine AWP.seq' ?_
 refine AWP.rgn (F158_r0 (upd E0 0 (sS x0a x0n x0c)) x1 x2 hp _) ?_ (Ru 1 (Ru 2 (Ru 0 Rn))) (Sc rfl (Sc rfl (Sc rfl Sn))) Sn
 refine AWP.seq' ?_
 refine AWP.rgn (F158_r1 (upd (upd E0 1 (sI x1)) 0 (sS x0a x0n x0c)) (wr (x2 - x1)) hp _) ?_ (Ru 8 (Ru 0 (Ru 1 Rn))) (Sc rfl (Sc rfl (Sc rfl Sn))) Sn
 refine AWP.cond (t := (decide (((wr (x2 - x1)) : Int) ≥ 8))) rfl (fun e => ?_) (fun e => ?_)
 ·replace h := ite2_t h e
  refine AWP.seq' ?_
  refine AWP.rgn (F158_r2 (upd (upd E0 1 (sI x1)) 0 (sS x0a x0n x0c)) (wr (x2 - x1)) hp _) ?_ (Ru 8 (Ru 0 (Ru 1 Rn))) (Sc rfl (Sc rfl (Sc rfl Sn))) Sn
  refine fun b_1 hb_b_1 => ?_
  replace h := h b_1 hb_b_1
  refine mw h fun h_2 h => ?_
  refine AWP.seq' ?_
  refine AWP.rgn (F158_r3 (upd (upd (upd E0 9 (sV (.pointer (some ⟨b_1, 0, none⟩)))) 1 (sI x1)) 0 (sS x0a x0n x0c)) (wr (x2 - x1)) h_2 _) ?_ (Ru 8 (Ru 0 (Ru 1 (Ru 9 Rn)))) (Sc rfl (Sc rfl (Sc rfl (Sc rfl Sn)))) Sn
  refine mC h fun u_3 h_4 h => mI h fun i_5 h => ?_
  refine AWP.seq (fun env pv hp => ∃ (x0a : Option Addr) (x0n : Nat) (x0c : Nat) (x1 : Int) (x8 : Int) (x9 : Option Addr) (x10 : Int) (x11 : Int), Sub (upd (upd (upd (upd (upd (upd E0 11 (sI x11)) 10 (sV (.int .u64 x10))) 9 (sP x9)) 8 (sI x8)) 1 (sI x1)) 0 (sS x0a x0n x0c)) env ∧ Sub V0 pv ∧ (F158_j1 x0a x0n x0c x1 x8 x9 x10 x11 hp  K)) ?_ ?_
  ·refine AWP.rgn (F158_r10 (upd (upd (upd E0 10 (sV (.int .u64 i_5))) 9 (sV (.pointer (some ⟨b_1, 0, none⟩)))) 0 (sS x0a x0n x0c)) x1 (wr (x2 - x1)) h_4 _) ?_ (Ru 1 (Ru 8 (Ru 0 (Ru 9 (Ru 10 Rn))))) (Sc rfl (Sc rfl (Sc rfl (Sc rfl (Sc rfl Sn))))) Sn
   refine ⟨h.1, ?_⟩
   replace h := h.2
   exact ⟨x0a, x0n, x0c, x1, (wr (x2 - x1)), (some ⟨b_1, 0, none⟩), i_5, (wr ((wr (x1 + (wr ((wr (Int.tdiv (wr (x2 - x1)) 4)) * 2)))) - 1)), (Sc rfl (Sc rfl (Sc rfl (Sc rfl (Sc rfl (Sc rfl Sn)))))), Sn, h⟩
  ·rintro env pv hp ⟨x0a, x0n, x0c, x1, x8, x9, x10, x11, he, hv, h⟩
   refine AWP.sub (env' := (upd (upd (upd (upd (upd (upd E0 11 (sI x11)) 10 (sV (.int .u64 x10))) 9 (sP x9)) 8 (sI x8)) 1 (sI x1)) 0 (sS x0a x0n x0c))) (pv' := V0) ?_ (Ru 0 (Ru 1 (Ru 8 (Ru 9 (Ru 10 (Ru 11 Rn)))))) he hv (HSub.refl _)
   clear he hv
   unfold F158_j1 at h
   refine AWP.block ?_
   refine AWP.loop (σ := Int) (fun I s hp => F158_l2 x0a x0n x0c x1 x8 x9 x10  K I s hp) (fun s => (upd (upd (upd (upd (upd (upd E0 11 (sI s)) 10 (sV (.int .u64 x10))) 9 (sP x9)) 8 (sI x8)) 1 (sI x1)) 0 (sS x0a x0n x0c))) (fun s => V0) x11 h (fun s => (Ru 0 (Ru 1 (Ru 8 (Ru 9 (Ru 10 (Ru 11 Rn))))))) (Sc rfl (Sc rfl (Sc rfl (Sc rfl (Sc rfl (Sc rfl Sn)))))) Sn ?_
   intro I2 s hp h
   obtain ⟨x11, hs⟩ : ∃ x, x = s := ⟨s, rfl⟩
   subst hs
   replace h : F158_l2 x0a x0n x0c x1 x8 x9 x10  K I2 x11 hp := h
   unfold F158_l2 at h
   refine AWP.seq' ?_
   refine AWP.seq' ?_
   refine AWP.rgn (F158_r4 (upd (upd (upd E0 10 (sV (.int .u64 x10))) 9 (sP x9)) 0 (sS x0a x0n x0c)) x1 x8 x11 hp _) ?_ (Ru 1 (Ru 8 (Ru 11 (Ru 0 (Ru 9 (Ru 10 Rn)))))) (Sc rfl (Sc rfl (Sc rfl (Sc rfl (Sc rfl (Sc rfl Sn)))))) Sn
   refine ⟨h.1, ?_⟩
   replace h := h.2
   refine AWP.cond (t := (decide (x11 ≤ (wr ((wr (x1 + (wr ((wr (Int.tdiv x8 4)) * 2)))) + 1))))) rfl (fun e => ?_) (fun e => ?_)
   ·replace h := ite2_t h e
    refine AWP.skip ?_
    refine AWP.seq' ?_
    refine AWP.block ?_
    refine AWP.seq' ?_
    refine AWP.rgn (F158_r5 (upd (upd (upd (upd E0 11 (sI x11)) 8 (sI x8)) 1 (sI x1)) 0 (sS x0a x0n x0c)) x9 x10 hp _) ?_ (Ru 9 (Ru 10 (Ru 0 (Ru 1 (Ru 8 (Ru 11 Rn)))))) (Sc rfl (Sc rfl (Sc rfl (Sc rfl (Sc rfl (Sc rfl Sn)))))) Sn
    refine mC h fun u_6 h_7 h => mI h fun i_8 h => ?_
    refine AWP.seq (fun env pv hp => ∃ (x11 : Int) (x12 : Int), Sub (upd (upd (upd (upd (upd (upd (upd E0 12 (sI x12)) 11 (sI x11)) 10 (sV (.int .u64 x10))) 9 (sP x9)) 8 (sI x8)) 1 (sI x1)) 0 (sS x0a x0n x0c)) env ∧ Sub V0 pv ∧ (F158_j3 x0a x0n x0c x1 x8 x9 x10 x11 x12 hp I2 K)) ?_ ?_
    ·refine AWP.seq' ?_
     refine AWP.rgn (F158_r8 (upd (upd (upd (upd (upd E0 11 (sI x11)) 10 (sV (.int .u64 x10))) 9 (sP x9)) 1 (sI x1)) 0 (sS x0a x0n x0c)) x8 (wr ((band .u64 i_8 (IntKind.wrap .u64 (x10 - 1))))) h_7 _) ?_ (Ru 8 (Ru 12 (Ru 0 (Ru 1 (Ru 9 (Ru 10 (Ru 11 Rn))))))) (Sc rfl (Sc rfl (Sc rfl (Sc rfl (Sc rfl (Sc rfl (Sc rfl Sn))))))) Sn
     refine AWP.cond (t := (decide (((wr ((band .u64 i_8 (IntKind.wrap .u64 (x10 - 1))))) : Int) ≥ x8))) rfl (fun e => ?_) (fun e => ?_)
     ·replace h := ite2_t h e
      refine AWP.rgn (F158_r9 (upd (upd (upd (upd (upd E0 11 (sI x11)) 10 (sV (.int .u64 x10))) 9 (sP x9)) 1 (sI x1)) 0 (sS x0a x0n x0c)) x8 (wr ((band .u64 i_8 (IntKind.wrap .u64 (x10 - 1))))) h_7 _) ?_ (Ru 8 (Ru 12 (Ru 0 (Ru 1 (Ru 9 (Ru 10 (Ru 11 Rn))))))) (Sc rfl (Sc rfl (Sc rfl (Sc rfl (Sc rfl (Sc rfl (Sc rfl Sn))))))) Sn
      exact ⟨x11, (wr ((wr ((band .u64 i_8 (IntKind.wrap .u64 (x10 - 1))))) - x8)), (Sc rfl (Sc rfl (Sc rfl (Sc rfl (Sc rfl (Sc rfl (Sc rfl Sn))))))), Sn, h⟩
     ·replace h := ite2_f h e
      refine AWP.skip ?_
      exact ⟨x11, (wr ((band .u64 i_8 (IntKind.wrap .u64 (x10 - 1))))), (Sc rfl (Sc rfl (Sc rfl (Sc rfl (Sc rfl (Sc rfl (Sc rfl Sn))))))), Sn, h⟩
    ·rintro env pv hp ⟨x11, x12, he, hv, h⟩
     refine AWP.sub (env' := (upd (upd (upd (upd (upd (upd (upd E0 12 (sI x12)) 11 (sI x11)) 10 (sV (.int .u64 x10))) 9 (sP x9)) 8 (sI x8)) 1 (sI x1)) 0 (sS x0a x0n x0c))) (pv' := V0) ?_ (Ru 0 (Ru 1 (Ru 8 (Ru 9 (Ru 10 (Ru 11 (Ru 12 Rn))))))) he hv (HSub.refl _)
     clear he hv
     unfold F158_j3 at h
     refine AWP.rgnD (by kernel_rfl) (by kernel_rfl) (F158_r6 (upd (upd (upd E0 10 (sV (.int .u64 x10))) 9 (sP x9)) 8 (sI x8)) x0a x0n x0c x1 x11 x12 hp _) ?_ (Ru 0 (Ru 1 (Ru 11 (Ru 12 (Ru 8 (Ru 9 (Ru 10 Rn))))))) (Sc rfl (Sc rfl (Sc rfl (Sc rfl (Sc rfl (Sc rfl (Sc rfl Sn))))))) Sn
     refine ⟨h.1, h.2.1, mN h.2.2 (fun b_9 o_10 h => mL h (fun l_11 h => ⟨h.1, h.2.1, mN h.2.2 (fun b_12 o_13 h => mL h (fun l_14 h => ⟨h.1, h.2.1, mN h.2.2 (fun b_15 o_16 h => ⟨h.1, mW h.2 (fun h_17 h => ⟨h.1, h.2.1, mN h.2.2 (fun b_18 o_19 h => ⟨h.1, mW h.2 fun h_20 h => ?_⟩)⟩)⟩)⟩))⟩))⟩
     refine AWP.rgn (F158_r7 (upd (upd (upd (upd (upd E0 10 (sV (.int .u64 x10))) 9 (sP x9)) 8 (sI x8)) 1 (sI x1)) 0 (sS x0a x0n x0c)) x11 h_20 _) ?_ (Ru 11 (Ru 0 (Ru 1 (Ru 8 (Ru 9 (Ru 10 Rn)))))) (Sc rfl (Sc rfl (Sc rfl (Sc rfl (Sc rfl (Sc rfl Sn)))))) Sn
     exact ⟨(wr (x11 + 1)), (Sc rfl (Sc rfl (Sc rfl (Sc rfl (Sc rfl (Sc rfl Sn)))))), Sn, h⟩
   ·replace h := ite2_f h e
    refine AWP.exit ?_
    exact h
 ·replace h := ite2_f h e
  refine AWP.skip ?_
  exact h
end
-- 130 slices.pdqsortCmpFunc[interpreter/api.T4]
section
variable (e : Env) (x0a : Option Addr) (x0n x0c : Nat) (x1 x2 x3 : Int) (x4 : Value) (x10 x11 : Bool) (x12 x13 x14 x15 x16 : Int) (x17 : Bool) (x18 x19 x20 : Int) (hp : HP) (K : Env → PV → HP → Prop)
abbrev R130 (p : List Nat) (n : Nat) := RW Try.prog 148 [] (opsAt Try.f130 p) (List.range n)
theorem F130_r0 : R130 [0] 1 e V0 hp K =
    (K (upd e 10 (sB true)) V0 hp) := by kernel_rfl
theorem F130_r1 : R130 [1, 1, 0, 0, 0, 0] 4 (upd (upd e 2 (sI x2)) 1 (sI x1)) V0 hp K =
    (K (upd (upd (upd (upd (upd (upd e 2 (sI x2)) 1 (sI x1)) 21 (sI x2)) 22 (sI x1)) 23 (sI ((wr (x2 - x1))))) 12 (sI ((wr (x2 - x1))))) V0 hp) := by kernel_rfl
theorem F130_r2 : R130 [1, 1, 0, 0, 0, 1, 0, 0] 2 (upd e 12 (sI x12)) V0 hp K =
    (K (upd (upd (upd e 12 (sI x12)) 24 (sI x12)) 25 (sB (decide (x12 ≤ 12)))) V0 hp) := by kernel_rfl
theorem F130_r3 : R130 [1, 1, 0, 0, 0, 1, 0, 1, 0, 0] 5 (upd (upd (upd (upd e 4 (sV x4)) 2 (sI x2)) 1 (sI x1)) 0 (sS x0a x0n x0c)) V0 hp K =
    (CF Try.prog 156 [(.slice x0a x0n x0c), (.int .i64 x1), (.int .i64 x2), x4] hp fun u1 h2 => (K (upd (upd (upd (upd (upd (upd (upd (upd (upd e 4 (sV x4)) 2 (sI x2)) 1 (sI x1)) 0 (sS x0a x0n x0c)) 26 (sS x0a x0n x0c)) 27 (sI x1)) 28 (sI x2)) 29 (sV x4)) 30 (sV u1)) V0 h2)) := by kernel_rfl
theorem F130_r4 : R130 [1, 1, 0, 0, 0, 1, 1, 0, 0] 2 (upd e 3 (sI x3)) V0 hp K =
    (K (upd (upd (upd e 3 (sI x3)) 31 (sI x3)) 32 (sB ((x3 == 0)))) V0 hp) := by kernel_rfl
theorem F130_r5 : R130 [1, 1, 0, 0, 0, 1, 1, 0, 1, 0, 0] 5 (upd (upd (upd (upd e 4 (sV x4)) 2 (sI x2)) 1 (sI x1)) 0 (sS x0a x0n x0c)) V0 hp K =
    (CF Try.prog 157 [(.slice x0a x0n x0c), (.int .i64 x1), (.int .i64 x2), x4] hp fun u1 h2 => (K (upd (upd (upd (upd (upd (upd (upd (upd (upd e 4 (sV x4)) 2 (sI x2)) 1 (sI x1)) 0 (sS x0a x0n x0c)) 33 (sS x0a x0n x0c)) 34 (sI x1)) 35 (sI x2)) 36 (sV x4)) 37 (sV u1)) V0 h2)) := by kernel_rfl
theorem F130_r6 : R130 [1, 1, 0, 0, 0, 1, 1, 1, 1, 0] 10 (upd (upd (upd (upd e 4 (sV x4)) 2 (sI x2)) 1 (sI x1)) 0 (sS x0a x0n x0c)) V0 hp K =
    (CF Try.prog 159 [(.slice x0a x0n x0c), (.int .i64 x1), (.int .i64 x2), x4] hp fun u1 h2 => (tup2V u1 fun u3 u4 => (intV u3 .i64 fun i5 => (intV u4 .i64 fun i6 => (K (upd (upd (upd (upd (upd (upd (upd (upd (upd (upd (upd (upd (upd (upd e 4 (sV x4)) 2 (sI x2)) 1 (sI x1)) 0 (sS x0a x0n x0c)) 48 (sS x0a x0n x0c)) 49 (sI x1)) 50 (sI x2)) 51 (sV x4)) 52 (sV (.tuple ⟨[(.int .i64 i5), (.int .i64 i6)]⟩))) 47 (sV (.tuple ⟨[(.int .i64 i5), (.int .i64 i6)]⟩))) 53 (sI i5)) 54 (sI i6)) 13 (sI i5)) 14 (sI i6)) V0 h2))))) := by kernel_rfl
theorem F130_r7 : R130 [1, 1, 0, 0, 0, 1, 1, 1, 1, 1, 1, 1, 0, 1, 0, 0] 7 (upd (upd (upd (upd (upd e 13 (sI x13)) 4 (sV x4)) 2 (sI x2)) 1 (sI x1)) 0 (sS x0a x0n x0c)) V0 hp K =
    (CF Try.prog 162 [(.slice x0a x0n x0c), (.int .i64 x1), (.int .i64 x2), (.int .i64 x13), x4] hp fun u1 h2 => (intV u1 .i64 fun i3 => (K (upd (upd (upd (upd (upd (upd (upd (upd (upd (upd (upd (upd e 13 (sI x13)) 4 (sV x4)) 2 (sI x2)) 1 (sI x1)) 0 (sS x0a x0n x0c)) 98 (sS x0a x0n x0c)) 99 (sI x1)) 100 (sI x2)) 101 (sI x13)) 102 (sV x4)) 103 (sI i3)) 15 (sI i3)) V0 h2))) := by kernel_rfl
theorem F130_r8 : R130 [1, 1, 0, 0, 0, 1, 1, 1, 1, 1, 1, 1, 0, 1, 0, 1, 0] 2 (upd e 15 (sI x15)) V0 hp K =
    (K (upd (upd (upd e 15 (sI x15)) 104 (sI x15)) 1 (sI x15)) V0 hp) := by kernel_rfl
theorem F130_r9 : R130 [1, 1, 0, 0, 0, 1, 1, 1, 1, 1, 1, 1, 1, 0] 11 (upd (upd (upd (upd (upd e 13 (sI x13)) 4 (sV x4)) 2 (sI x2)) 1 (sI x1)) 0 (sS x0a x0n x0c)) V0 hp K =
    (CF Try.prog 163 [(.slice x0a x0n x0c), (.int .i64 x1), (.int .i64 x2), (.int .i64 x13), x4] hp fun u1 h2 => (tup2V u1 fun u3 u4 => (intV u3 .i64 fun i5 => (boolV u4 fun q6 => (K (upd (upd (upd (upd (upd (upd (upd (upd (upd (upd (upd (upd (upd (upd (upd (upd e 13 (sI x13)) 4 (sV x4)) 2 (sI x2)) 1 (sI x1)) 0 (sS x0a x0n x0c)) 106 (sS x0a x0n x0c)) 107 (sI x1)) 108 (sI x2)) 109 (sI x13)) 110 (sV x4)) 111 (sV (.tuple ⟨[(.int .i64 i5), (.bool q6)]⟩))) 105 (sV (.tuple ⟨[(.int .i64 i5), (.bool q6)]⟩))) 112 (sI i5)) 113 (sB q6)) 16 (sI i5)) 17 (sB q6)) V0 h2))))) := by kernel_rfl
theorem F130_r10 : R130 [1, 1, 0, 0, 0, 1, 1, 1, 1, 1, 1, 1, 1, 1, 0] 2 (upd e 17 (sB x17)) V0 hp K =
    (K (upd (upd (upd e 17 (sB x17)) 114 (sB x17)) 11 (sB x17)) V0 hp) := by kernel_rfl
theorem F130_r11 : R130 [1, 1, 0, 0, 0, 1, 1, 1, 1, 1, 1, 1, 1, 1, 1, 0] 8 (upd (upd (upd e 16 (sI x16)) 2 (sI x2)) 1 (sI x1)) V0 hp K =
    (K (upd (upd (upd (upd (upd (upd (upd (upd (upd (upd (upd e 16 (sI x16)) 2 (sI x2)) 1 (sI x1)) 115 (sI x16)) 116 (sI x1)) 117 (sI ((wr (x16 - x1))))) 118 (sI x2)) 119 (sI x16)) 120 (sI ((wr (x2 - x16))))) 18 (sI ((wr (x16 - x1))))) 19 (sI ((wr (x2 - x16))))) V0 hp) := by kernel_rfl
theorem F130_r12 : R130 [1, 1, 0, 0, 0, 1, 1, 1, 1, 1, 1, 1, 1, 1, 1, 1, 0] 3 (upd e 12 (sI x12)) V0 hp K =
    (((8 : Int) ≠ 0) ∧ (K (upd (upd (upd (upd e 12 (sI x12)) 121 (sI x12)) 122 (sI ((wr (Int.tdiv x12 8))))) 20 (sI ((wr (Int.tdiv x12 8))))) V0 hp)) := by kernel_rfl
theorem F130_r13 : R130 [1, 1, 0, 0, 0, 1, 1, 1, 1, 1, 1, 1, 1, 1, 1, 1, 1, 0] 3 (upd (upd e 19 (sI x19)) 18 (sI x18)) V0 hp K =
    (K (upd (upd (upd (upd (upd e 19 (sI x19)) 18 (sI x18)) 123 (sI x18)) 124 (sI x19)) 125 (sB (decide (x18 < x19)))) V0 hp) := by kernel_rfl
theorem F130_r14 : R130 [1, 1, 0, 0, 0, 1, 1, 1, 1, 1, 1, 1, 1, 1, 1, 1, 1, 1, 0, 0] 4 (upd (upd e 20 (sI x20)) 18 (sI x18)) V0 hp K =
    (K (upd (upd (upd (upd (upd (upd e 20 (sI x20)) 18 (sI x18)) 126 (sI x18)) 127 (sI x20)) 128 (sB (decide (x18 ≥ x20)))) 10 (sB (decide (x18 ≥ x20)))) V0 hp) := by kernel_rfl
theorem F130_r15 : R130 [1, 1, 0, 0, 0, 1, 1, 1, 1, 1, 1, 1, 1, 1, 1, 1, 1, 1, 0, 1, 0] 6 (upd (upd (upd (upd (upd e 16 (sI x16)) 4 (sV x4)) 3 (sI x3)) 1 (sI x1)) 0 (sS x0a x0n x0c)) V0 hp K =
    (CF Try.prog 130 [(.slice x0a x0n x0c), (.int .i64 x1), (.int .i64 x16), (.int .i64 x3), x4] hp fun u1 h2 => (K (upd (upd (upd (upd (upd (upd (upd (upd (upd (upd (upd e 16 (sI x16)) 4 (sV x4)) 3 (sI x3)) 1 (sI x1)) 0 (sS x0a x0n x0c)) 129 (sS x0a x0n x0c)) 130 (sI x1)) 131 (sI x16)) 132 (sI x3)) 133 (sV x4)) 134 (sV u1)) V0 h2)) := by kernel_rfl
theorem F130_r16 : R130 [1, 1, 0, 0, 0, 1, 1, 1, 1, 1, 1, 1, 1, 1, 1, 1, 1, 1, 0, 1, 1] 3 (upd e 16 (sI x16)) V0 hp K =
    (K (upd (upd (upd (upd e 16 (sI x16)) 135 (sI x16)) 136 (sI ((wr (x16 + 1))))) 1 (sI ((wr (x16 + 1))))) V0 hp) := by kernel_rfl
theorem F130_r17 : R130 [1, 1, 0, 0, 0, 1, 1, 1, 1, 1, 1, 1, 1, 1, 1, 1, 1, 1, 1, 0] 4 (upd (upd e 20 (sI x20)) 19 (sI x19)) V0 hp K =
    (K (upd (upd (upd (upd (upd (upd e 20 (sI x20)) 19 (sI x19)) 137 (sI x19)) 138 (sI x20)) 139 (sB (decide (x19 ≥ x20)))) 10 (sB (decide (x19 ≥ x20)))) V0 hp) := by kernel_rfl
theorem F130_r18 : R130 [1, 1, 0, 0, 0, 1, 1, 1, 1, 1, 1, 1, 1, 1, 1, 1, 1, 1, 1, 1, 0] 7 (upd (upd (upd (upd (upd e 16 (sI x16)) 4 (sV x4)) 3 (sI x3)) 2 (sI x2)) 0 (sS x0a x0n x0c)) V0 hp K =
    (CF Try.prog 130 [(.slice x0a x0n x0c), (.int .i64 (wr (x16 + 1))), (.int .i64 x2), (.int .i64 x3), x4] hp fun u1 h2 => (K (upd (upd (upd (upd (upd (upd (upd (upd (upd (upd (upd (upd e 16 (sI x16)) 4 (sV x4)) 3 (sI x3)) 2 (sI x2)) 0 (sS x0a x0n x0c)) 140 (sS x0a x0n x0c)) 141 (sI x16)) 142 (sI ((wr (x16 + 1))))) 143 (sI x2)) 144 (sI x3)) 145 (sV x4)) 146 (sV u1)) V0 h2)) := by kernel_rfl
theorem F130_r19 : R130 [1, 1, 0, 0, 0, 1, 1, 1, 1, 1, 1, 1, 1, 1, 1, 1, 1, 1, 1, 1, 1] 2 (upd e 16 (sI x16)) V0 hp K =
    (K (upd (upd (upd e 16 (sI x16)) 147 (sI x16)) 2 (sI x16)) V0 hp) := by kernel_rfl
def F130_j6 (x0a : Option Addr) (x0n : Nat) (x0c : Nat) (x1 : Int) (x2 : Int) (x3 : Int) (x4 : Value) (x10 : Bool) (x11 : Bool) (x12 : Int) (x13 : Int) (x97 : Bool) (hp : HP) (I2 : (Int × Int × Int × Bool × Bool) → HP → Prop) (K : Value → HP → Prop) : Prop :=
  (ite2 x97 (CF Try.prog 162 [(.slice x0a x0n x0c), (.int .i64 x1), (.int .i64 x2), (.int .i64 x13), x4] hp fun u_11 h_12 => (intV u_11 .i64 fun i_13 => (I2 (i_13, x2, x3, x10, x11) h_12))) (CF Try.prog 163 [(.slice x0a x0n x0c), (.int .i64 x1), (.int .i64 x2), (.int .i64 x13), x4] hp fun u_14 h_15 => (tup2V u_14 fun u_16 u_17 => (intV u_16 .i64 fun i_18 => (boolV u_17 fun q_19 => (((8 : Int) ≠ 0) ∧ (ite2 (decide (((IntKind.wrap .i64 (i_18 - x1)) : Int) < (IntKind.wrap .i64 (x2 - i_18)))) (CF Try.prog 130 [(.slice x0a x0n x0c), (.int .i64 x1), (.int .i64 i_18), (.int .i64 x3), x4] h_15 fun u_20 h_21 => (I2 ((IntKind.wrap .i64 (i_18 + 1)), x2, x3, (decide (((IntKind.wrap .i64 (i_18 - x1)) : Int) ≥ (IntKind.wrap .i64 (Int.tdiv x12 8)))), q_19) h_21)) (CF Try.prog 130 [(.slice x0a x0n x0c), (.int .i64 (IntKind.wrap .i64 (i_18 + 1))), (.int .i64 x2), (.int .i64 x3), x4] h_15 fun u_22 h_23 => (I2 (x1, i_18, x3, (decide (((IntKind.wrap .i64 (x2 - i_18)) : Int) ≥ (IntKind.wrap .i64 (Int.tdiv x12 8)))), q_19) h_23)))))))))
theorem F130_r20 : R130 [1, 1, 0, 0, 0, 1, 1, 1, 1, 1, 1, 1, 0, 0] 17 (upd (upd (upd (upd e 13 (sI x13)) 4 (sV x4)) 1 (sI x1)) 0 (sS x0a x0n x0c)) V0 hp K =
    (ite2 (decide (x1 > 0)) ((0 ≤ ((wr (x1 - 1)) : Int)) ∧ (((wr (x1 - 1)) : Int) < x0n) ∧ (ptrN x0a fun b1 o2 => (ldL (HP.cellN hp b1 (o2 + Int.toNat (wr (x1 - 1)) * 5) 5) fun l3 => ((0 ≤ x13) ∧ (x13 < x0n) ∧ (ptrN x0a fun b4 o5 => (ldL (HP.cellN hp b4 (o5 + Int.toNat x13 * 5) 5) fun l6 => (fnV x4 fun f7 ga8 gb9 => (CF Try.prog f7 (ga8 ++ [(Value.agg ⟨l3⟩), (.agg ⟨l6⟩)] ++ gb9) hp fun u10 h11 => (intV u10 .i64 fun i12 => (K (upd (upd (upd (upd (upd (upd (upd (upd (upd (upd (upd (upd (upd (upd (upd (upd (upd (upd (upd (upd (upd e 13 (sI x13)) 4 (sV x4)) 1 (sI x1)) 0 (sS x0a x0n x0c)) 81 (sI x1)) 82 (sB (decide (x1 > 0)))) 83 (sB true)) 84 (sV x4)) 85 (sS x0a x0n x0c)) 86 (sI x1)) 87 (sI ((wr (x1 - 1))))) 88 (sV (ptr b1 (o2 + Int.toNat (wr (x1 - 1)) * 5)))) 89 (sA l3)) 90 (sS x0a x0n x0c)) 91 (sI x13)) 92 (sQ b4 (o5 + Int.toNat x13 * 5))) 93 (sA l6)) 94 (sI i12)) 95 (sB (decide (i12 < 0)))) 96 (sB ((!(decide (i12 < 0)))))) 97 (sB ((!(decide (i12 < 0)))))) V0 h11)))))))))) (K (upd (upd (upd (upd (upd (upd (upd (upd (upd (upd (upd (upd (upd (upd (upd (upd (upd (upd (upd (upd (upd e 13 (sI x13)) 4 (sV x4)) 1 (sI x1)) 0 (sS x0a x0n x0c)) 81 (sI x1)) 82 (sB (decide (x1 > 0)))) 83 (sB false)) 84 sU) 85 sU) 86 sU) 87 sU) 88 sU) 89 sU) 90 sU) 91 sU) 92 sU) 93 sU) 94 sU) 95 sU) 96 sU) 97 (sB false)) V0 hp)) := by kernel_rfl
def F130_j5 (x0a : Option Addr) (x0n : Nat) (x0c : Nat) (x1 : Int) (x2 : Int) (x3 : Int) (x4 : Value) (x10 : Bool) (x11 : Bool) (x12 : Int) (x13 : Int) (hp : HP) (I2 : (Int × Int × Int × Bool × Bool) → HP → Prop) (K : Value → HP → Prop) : Prop :=
  (ite2 (decide (x1 > 0)) ((0 ≤ ((IntKind.wrap .i64 (x1 - 1)) : Int)) ∧ (((IntKind.wrap .i64 (x1 - 1)) : Int) < x0n) ∧ (ptrN x0a fun b_24 o_25 => (ldL (HP.cellN hp b_24 (o_25 + Int.toNat (IntKind.wrap .i64 (x1 - 1)) * 5) 5) fun l_26 => ((0 ≤ x13) ∧ (x13 < x0n) ∧ (ptrN x0a fun b_27 o_28 => (ldL (HP.cellN hp b_27 (o_28 + Int.toNat x13 * 5) 5) fun l_29 => (fnV x4 fun f_30 ga_31 gb_32 => (CF Try.prog f_30 (ga_31 ++ [(Value.agg ⟨l_26⟩), (.agg ⟨l_29⟩)] ++ gb_32) hp fun u_33 h_34 => (intV u_33 .i64 fun i_35 => (F130_j6 x0a x0n x0c x1 x2 x3 x4 x10 x11 x12 x13 (!(decide (i_35 < 0))) h_34 I2 K)))))))))) (F130_j6 x0a x0n x0c x1 x2 x3 x4 x10 x11 x12 x13 false hp I2 K))
theorem F130_r21 : R130 [1, 1, 0, 0, 0, 1, 1, 1, 1, 1, 1, 0, 1, 0, 0] 5 (upd (upd (upd (upd e 4 (sV x4)) 2 (sI x2)) 1 (sI x1)) 0 (sS x0a x0n x0c)) V0 hp K =
    (CF Try.prog 161 [(.slice x0a x0n x0c), (.int .i64 x1), (.int .i64 x2), x4] hp fun u1 h2 => (boolV u1 fun q3 => (K (upd (upd (upd (upd (upd (upd (upd (upd (upd e 4 (sV x4)) 2 (sI x2)) 1 (sI x1)) 0 (sS x0a x0n x0c)) 76 (sS x0a x0n x0c)) 77 (sI x1)) 78 (sI x2)) 79 (sV x4)) 80 (sB q3)) V0 h2))) := by kernel_rfl
def F130_j7 (x0a : Option Addr) (x0n : Nat) (x0c : Nat) (x1 : Int) (x2 : Int) (x3 : Int) (x4 : Value) (x10 : Bool) (x11 : Bool) (x12 : Int) (x13 : Int) (x75 : Bool) (hp : HP) (I2 : (Int × Int × Int × Bool × Bool) → HP → Prop) (K : Value → HP → Prop) : Prop :=
  (ite2 x75 (CF Try.prog 161 [(.slice x0a x0n x0c), (.int .i64 x1), (.int .i64 x2), x4] hp fun u_36 h_37 => (boolV u_36 fun q_38 => (ite2 q_38 (K (.tuple ⟨[]⟩) h_37) (F130_j5 x0a x0n x0c x1 x2 x3 x4 x10 x11 x12 x13 h_37 I2 K)))) (F130_j5 x0a x0n x0c x1 x2 x3 x4 x10 x11 x12 x13 hp I2 K))
theorem F130_r22 : R130 [1, 1, 0, 0, 0, 1, 1, 1, 1, 1, 1, 0, 0] 8 (upd (upd (upd e 14 (sI x14)) 11 (sB x11)) 10 (sB x10)) V0 hp K =
    (ite2 x10 (ite2 x11 (K (upd (upd (upd (upd (upd (upd (upd (upd (upd (upd (upd e 14 (sI x14)) 11 (sB x11)) 10 (sB x10)) 68 (sB x10)) 69 (sB true)) 70 (sB x11)) 71 (sB x11)) 72 (sB true)) 73 (sI x14)) 74 (sB ((x14 == 1)))) 75 (sB ((x14 == 1)))) V0 hp) (K (upd (upd (upd (upd (upd (upd (upd (upd (upd (upd (upd e 14 (sI x14)) 11 (sB x11)) 10 (sB x10)) 68 (sB x10)) 69 (sB true)) 70 (sB x11)) 71 (sB x11)) 72 (sB false)) 73 sU) 74 sU) 75 (sB false)) V0 hp)) (K (upd (upd (upd (upd (upd (upd (upd (upd (upd (upd (upd e 14 (sI x14)) 11 (sB x11)) 10 (sB x10)) 68 (sB x10)) 69 (sB false)) 70 sU) 71 (sB false)) 72 (sB false)) 73 sU) 74 sU) 75 (sB false)) V0 hp)) := by kernel_rfl
def F130_j4 (x0a : Option Addr) (x0n : Nat) (x0c : Nat) (x1 : Int) (x2 : Int) (x3 : Int) (x4 : Value) (x10 : Bool) (x11 : Bool) (x12 : Int) (x13 : Int) (x14 : Int) (hp : HP) (I2 : (Int × Int × Int × Bool × Bool) → HP → Prop) (K : Value → HP → Prop) : Prop :=
  (ite2 x10 (ite2 x11 (F130_j7 x0a x0n x0c x1 x2 x3 x4 x10 x11 x12 x13 (x14 == 1) hp I2 K) (F130_j7 x0a x0n x0c x1 x2 x3 x4 x10 x11 x12 x13 false hp I2 K)) (F130_j7 x0a x0n x0c x1 x2 x3 x4 x10 x11 x12 x13 false hp I2 K))
theorem F130_r23 : R130 [1, 1, 0, 0, 0, 1, 1, 1, 1, 1, 0, 0] 2 (upd e 14 (sI x14)) V0 hp K =
    (K (upd (upd (upd e 14 (sI x14)) 55 (sI x14)) 56 (sB ((x14 == 2)))) V0 hp) := by kernel_rfl
theorem F130_r24 : R130 [1, 1, 0, 0, 0, 1, 1, 1, 1, 1, 0, 1, 0, 0] 5 (upd (upd (upd (upd e 4 (sV x4)) 2 (sI x2)) 1 (sI x1)) 0 (sS x0a x0n x0c)) V0 hp K =
    (CF Try.prog 160 [(.slice x0a x0n x0c), (.int .i64 x1), (.int .i64 x2), x4] hp fun u1 h2 => (K (upd (upd (upd (upd (upd (upd (upd (upd (upd e 4 (sV x4)) 2 (sI x2)) 1 (sI x1)) 0 (sS x0a x0n x0c)) 57 (sS x0a x0n x0c)) 58 (sI x1)) 59 (sI x2)) 60 (sV x4)) 61 (sV u1)) V0 h2)) := by kernel_rfl
theorem F130_r25 : R130 [1, 1, 0, 0, 0, 1, 1, 1, 1, 1, 0, 1, 0, 1, 0] 7 (upd (upd (upd e 13 (sI x13)) 2 (sI x2)) 1 (sI x1)) V0 hp K =
    (K (upd (upd (upd (upd (upd (upd (upd (upd (upd (upd e 13 (sI x13)) 2 (sI x2)) 1 (sI x1)) 62 (sI x2)) 63 (sI ((wr (x2 - 1))))) 64 (sI x13)) 65 (sI x1)) 66 (sI ((wr (x13 - x1))))) 67 (sI ((wr ((wr (x2 - 1)) - (wr (x13 - x1))))))) 13 (sI ((wr ((wr (x2 - 1)) - (wr (x13 - x1))))))) V0 hp) := by kernel_rfl
theorem F130_r26 : R130 [1, 1, 0, 0, 0, 1, 1, 1, 1, 1, 0, 1, 0, 1, 1] 1 e V0 hp K =
    (K (upd e 14 (sI 1)) V0 hp) := by kernel_rfl
def F130_j3 (x0a : Option Addr) (x0n : Nat) (x0c : Nat) (x1 : Int) (x2 : Int) (x3 : Int) (x4 : Value) (x10 : Bool) (x11 : Bool) (x12 : Int) (hp : HP) (I2 : (Int × Int × Int × Bool × Bool) → HP → Prop) (K : Value → HP → Prop) : Prop :=
  (CF Try.prog 159 [(.slice x0a x0n x0c), (.int .i64 x1), (.int .i64 x2), x4] hp fun u_5 h_6 => (tup2V u_5 fun u_7 u_8 => (intV u_7 .i64 fun i_9 => (intV u_8 .i64 fun i_10 => (ite2 (i_10 == 2) (CF Try.prog 160 [(.slice x0a x0n x0c), (.int .i64 x1), (.int .i64 x2), x4] h_6 fun u_39 h_40 => (F130_j4 x0a x0n x0c x1 x2 x3 x4 x10 x11 x12 (IntKind.wrap .i64 ((IntKind.wrap .i64 (x2 - 1)) - (IntKind.wrap .i64 (i_9 - x1)))) 1 h_40 I2 K)) (F130_j4 x0a x0n x0c x1 x2 x3 x4 x10 x11 x12 i_9 i_10 h_6 I2 K))))))
theorem F130_r27 : R130 [1, 1, 0, 0, 0, 1, 1, 1, 0, 0] 2 (upd e 10 (sB x10)) V0 hp K =
    (K (upd (upd (upd e 10 (sB x10)) 38 (sB x10)) 39 (sB ((!x10)))) V0 hp) := by kernel_rfl
theorem F130_r28 : R130 [1, 1, 0, 0, 0, 1, 1, 1, 0, 1, 0, 0] 5 (upd (upd (upd (upd e 4 (sV x4)) 2 (sI x2)) 1 (sI x1)) 0 (sS x0a x0n x0c)) V0 hp K =
    (CF Try.prog 158 [(.slice x0a x0n x0c), (.int .i64 x1), (.int .i64 x2), x4] hp fun u1 h2 => (K (upd (upd (upd (upd (upd (upd (upd (upd (upd e 4 (sV x4)) 2 (sI x2)) 1 (sI x1)) 0 (sS x0a x0n x0c)) 40 (sS x0a x0n x0c)) 41 (sI x1)) 42 (sI x2)) 43 (sV x4)) 44 (sV u1)) V0 h2)) := by kernel_rfl
theorem F130_r29 : R130 [1, 1, 0, 0, 0, 1, 1, 1, 0, 1, 0, 1] 3 (upd e 3 (sI x3)) V0 hp K =
    (K (upd (upd (upd (upd e 3 (sI x3)) 45 (sI x3)) 46 (sI ((wr (x3 - 1))))) 3 (sI ((wr (x3 - 1))))) V0 hp) := by kernel_rfl
def F130_l2 (x0a : Option Addr) (x0n : Nat) (x0c : Nat) (x4 : Value) (K : Value → HP → Prop) (I2 : (Int × Int × Int × Bool × Bool) → HP → Prop) (x1 : Int) (x2 : Int) (x3 : Int) (x10 : Bool) (x11 : Bool) (hp : HP) : Prop :=
  (ite2 (decide (((IntKind.wrap .i64 (x2 - x1)) : Int) ≤ 12)) (CF Try.prog 156 [(.slice x0a x0n x0c), (.int .i64 x1), (.int .i64 x2), x4] hp fun u_1 h_2 => (K (.tuple ⟨[]⟩) h_2)) (ite2 (x3 == 0) (CF Try.prog 157 [(.slice x0a x0n x0c), (.int .i64 x1), (.int .i64 x2), x4] hp fun u_3 h_4 => (K (.tuple ⟨[]⟩) h_4)) (ite2 (!x10) (CF Try.prog 158 [(.slice x0a x0n x0c), (.int .i64 x1), (.int .i64 x2), x4] hp fun u_41 h_42 => (F130_j3 x0a x0n x0c x1 x2 (IntKind.wrap .i64 (x3 - 1)) x4 x10 x11 (IntKind.wrap .i64 (x2 - x1)) h_42 I2 K)) (F130_j3 x0a x0n x0c x1 x2 x3 x4 x10 x11 (IntKind.wrap .i64 (x2 - x1)) hp I2 K))))
def F130_j1 (x0a : Option Addr) (x0n : Nat) (x0c : Nat) (x1 : Int) (x2 : Int) (x3 : Int) (x4 : Value) (x10 : Bool) (x11 : Bool) (hp : HP) (K : Value → HP → Prop) : Prop :=
  (LoopP (σ := Int × Int × Int × Bool × Bool) (fun I s hp => F130_l2 x0a x0n x0c x4  K I s.1 s.2.1 s.2.2.1 s.2.2.2.1 s.2.2.2.2 hp) (x1, x2, x3, x10, x11) hp)
theorem F130_r30 : R130 [1, 0] 1 e V0 hp K =
    (K (upd e 11 (sB true)) V0 hp) := by kernel_rfl
def F130 (x0a : Option Addr) (x0n : Nat) (x0c : Nat) (x1 : Int) (x2 : Int) (x3 : Int) (x4 : Value) (hp : HP) (K : Value → HP → Prop) : Prop :=
  (F130_j1 x0a x0n x0c x1 x2 x3 x4 true true hp  K)
noncomputable def F130_code : Code := (.seq (.region 0 (opsAt Try.f130 [0]) false) (.seq (.region 1 (opsAt Try.f130 [1, 0]) false) (.block 0 (.loop (.block 1 (.seq (.region 2 (opsAt Try.f130 [1, 1, 0, 0, 0, 0]) false) (.seq (.seq (.region 3 (opsAt Try.f130 [1, 1, 0, 0, 0, 1, 0, 0]) false) (.cond (.tmp 25) (.seq (.region 4 (opsAt Try.f130 [1, 1, 0, 0, 0, 1, 0, 1, 0, 0]) false) .ret) .skip)) (.seq (.seq (.region 5 (opsAt Try.f130 [1, 1, 0, 0, 0, 1, 1, 0, 0]) false) (.cond (.tmp 32) (.seq (.region 6 (opsAt Try.f130 [1, 1, 0, 0, 0, 1, 1, 0, 1, 0, 0]) false) .ret) .skip)) (.seq (.seq (.region 7 (opsAt Try.f130 [1, 1, 0, 0, 0, 1, 1, 1, 0, 0]) false) (.cond (.tmp 39) (.seq (.region 8 (opsAt Try.f130 [1, 1, 0, 0, 0, 1, 1, 1, 0, 1, 0, 0]) false) (.region 9 (opsAt Try.f130 [1, 1, 0, 0, 0, 1, 1, 1, 0, 1, 0, 1]) false)) .skip)) (.seq (.region 10 (opsAt Try.f130 [1, 1, 0, 0, 0, 1, 1, 1, 1, 0]) false) (.seq (.seq (.region 11 (opsAt Try.f130 [1, 1, 0, 0, 0, 1, 1, 1, 1, 1, 0, 0]) false) (.cond (.tmp 56) (.seq (.region 12 (opsAt Try.f130 [1, 1, 0, 0, 0, 1, 1, 1, 1, 1, 0, 1, 0, 0]) false) (.seq (.region 13 (opsAt Try.f130 [1, 1, 0, 0, 0, 1, 1, 1, 1, 1, 0, 1, 0, 1, 0]) false) (.region 14 (opsAt Try.f130 [1, 1, 0, 0, 0, 1, 1, 1, 1, 1, 0, 1, 0, 1, 1]) false))) .skip)) (.seq (.seq (.region 15 (opsAt Try.f130 [1, 1, 0, 0, 0, 1, 1, 1, 1, 1, 1, 0, 0]) false) (.cond (.tmp 75) (.seq (.region 16 (opsAt Try.f130 [1, 1, 0, 0, 0, 1, 1, 1, 1, 1, 1, 0, 1, 0, 0]) false) (.cond (.tmp 80) .ret .skip)) .skip)) (.seq (.seq (.region 17 (opsAt Try.f130 [1, 1, 0, 0, 0, 1, 1, 1, 1, 1, 1, 1, 0, 0]) true) (.cond (.tmp 97) (.seq (.region 18 (opsAt Try.f130 [1, 1, 0, 0, 0, 1, 1, 1, 1, 1, 1, 1, 0, 1, 0, 0]) false) (.seq (.region 19 (opsAt Try.f130 [1, 1, 0, 0, 0, 1, 1, 1, 1, 1, 1, 1, 0, 1, 0, 1, 0]) false) (.exit 1))) .skip)) (.seq (.region 20 (opsAt Try.f130 [1, 1, 0, 0, 0, 1, 1, 1, 1, 1, 1, 1, 1, 0]) false) (.seq (.region 21 (opsAt Try.f130 [1, 1, 0, 0, 0, 1, 1, 1, 1, 1, 1, 1, 1, 1, 0]) false) (.seq (.region 22 (opsAt Try.f130 [1, 1, 0, 0, 0, 1, 1, 1, 1, 1, 1, 1, 1, 1, 1, 0]) false) (.seq (.region 23 (opsAt Try.f130 [1, 1, 0, 0, 0, 1, 1, 1, 1, 1, 1, 1, 1, 1, 1, 1, 0]) false) (.seq (.region 24 (opsAt Try.f130 [1, 1, 0, 0, 0, 1, 1, 1, 1, 1, 1, 1, 1, 1, 1, 1, 1, 0]) false) (.cond (.tmp 125) (.seq (.region 25 (opsAt Try.f130 [1, 1, 0, 0, 0, 1, 1, 1, 1, 1, 1, 1, 1, 1, 1, 1, 1, 1, 0, 0]) false) (.seq (.region 26 (opsAt Try.f130 [1, 1, 0, 0, 0, 1, 1, 1, 1, 1, 1, 1, 1, 1, 1, 1, 1, 1, 0, 1, 0]) false) (.region 27 (opsAt Try.f130 [1, 1, 0, 0, 0, 1, 1, 1, 1, 1, 1, 1, 1, 1, 1, 1, 1, 1, 0, 1, 1]) false))) (.seq (.region 28 (opsAt Try.f130 [1, 1, 0, 0, 0, 1, 1, 1, 1, 1, 1, 1, 1, 1, 1, 1, 1, 1, 1, 0]) false) (.seq (.region 29 (opsAt Try.f130 [1, 1, 0, 0, 0, 1, 1, 1, 1, 1, 1, 1, 1, 1, 1, 1, 1, 1, 1, 1, 0]) false) (.region 30 (opsAt Try.f130 [1, 1, 0, 0, 0, 1, 1, 1, 1, 1, 1, 1, 1, 1, 1, 1, 1, 1, 1, 1, 1]) false))))))))))))))))))))))
theorem F130_body : Try.f130.body = some F130_code := by kernel_rfl
theorem F130_ok (x0a : Option Addr) (x0n : Nat) (x0c : Nat) (x1 : Int) (x2 : Int) (x3 : Int) (x4 : Value) (hp : HP) (K : Value → HP → Prop) (h : F130 x0a x0n x0c x1 x2 x3 x4 hp K) : CF Try.prog 130 [(.slice x0a x0n x0c), (.int .i64 x1), (.int .i64 x2), (.int .i64 x3), x4] hp K := by
 refine .inl ⟨by kernel_rfl, AC.intro (N := 148) Try.func130 F130_body rfl (Nat.le_of_ble_eq_true rfl) ?_⟩
 unfold F130 at h
 unfold F130_code
 refine AWP.seq' ?_
 refine AWP.rgn (F130_r0 (upd (upd (upd (upd (upd E0 4 (sV x4)) 3 (sI x3)) 2 (sI x2)) 1 (sI x1)) 0 (sS x0a x0n x0c))  hp _) ?_ (Ru 0 (Ru 1 (Ru 2 (Ru 3 (Ru 4 Rn))))) (Sc rfl (Sc rfl (Sc rfl (Sc rfl (Sc rfl Sn))))) Sn
 refine AWP.seq (fun env pv hp => ∃ (x0a : Option Addr) (x0n : Nat) (x0c : Nat) (x1 : Int) (x2 : Int) (x3 : Int) (x4 : Value) (x10 : Bool) (x11 : Bool), Sub (upd (upd (upd (upd (upd (upd (upd E0 11 (sB x11)) 10 (sB x10)) 4 (sV x4)) 3 (sI x3)) 2 (sI x2)) 1 (sI x1)) 0 (sS x0a x0n x0c)) env ∧ Sub V0 pv ∧ (F130_j1 x0a x0n x0c x1 x2 x3 x4 x10 x11 hp  K)) ?_ ?_
 ·refine AWP.rgn (F130_r30 (upd (upd (upd (upd (upd (upd E0 10 (sB true)) 4 (sV x4)) 3 (sI x3)) 2 (sI x2)) 1 (sI x1)) 0 (sS x0a x0n x0c))  hp _) ?_ (Ru 0 (Ru 1 (Ru 2 (Ru 3 (Ru 4 (Ru 10 Rn)))))) (Sc rfl (Sc rfl (Sc rfl (Sc rfl (Sc rfl (Sc rfl Sn)))))) Sn
  exact ⟨x0a, x0n, x0c, x1, x2, x3, x4, true, true, (Sc rfl (Sc rfl (Sc rfl (Sc rfl (Sc rfl (Sc rfl (Sc rfl Sn))))))), Sn, h⟩
 ·rintro env pv hp ⟨x0a, x0n, x0c, x1, x2, x3, x4, x10, x11, he, hv, h⟩
  refine AWP.sub (env' := (upd (upd (upd (upd (upd (upd (upd E0 11 (sB x11)) 10 (sB x10)) 4 (sV x4)) 3 (sI x3)) 2 (sI x2)) 1 (sI x1)) 0 (sS x0a x0n x0c))) (pv' := V0) ?_ (Ru 0 (Ru 1 (Ru 2 (Ru 3 (Ru 4 (Ru 10 (Ru 11 Rn))))))) he hv (HSub.refl _)
  clear he hv
  unfold F130_j1 at h
  refine AWP.block ?_
  refine AWP.loop (σ := Int × Int × Int × Bool × Bool) (fun I s hp => F130_l2 x0a x0n x0c x4  K I s.1 s.2.1 s.2.2.1 s.2.2.2.1 s.2.2.2.2 hp) (fun s => (upd (upd (upd (upd (upd (upd (upd E0 11 (sB (s.2.2.2.2))) 10 (sB (s.2.2.2.1))) 4 (sV x4)) 3 (sI (s.2.2.1))) 2 (sI (s.2.1))) 1 (sI (s.1))) 0 (sS x0a x0n x0c))) (fun s => V0) (x1, x2, x3, x10, x11) h (fun s => (Ru 0 (Ru 1 (Ru 2 (Ru 3 (Ru 4 (Ru 10 (Ru 11 Rn)))))))) (Sc rfl (Sc rfl (Sc rfl (Sc rfl (Sc rfl (Sc rfl (Sc rfl Sn))))))) Sn ?_
  intro I2 s hp h
  obtain ⟨x1, x2, x3, x10, x11⟩ := s
  replace h : F130_l2 x0a x0n x0c x4  K I2 x1 x2 x3 x10 x11 hp := h
  unfold F130_l2 at h
  refine AWP.block ?_
  refine AWP.seq' ?_
  refine AWP.rgn (F130_r1 (upd (upd (upd (upd (upd E0 11 (sB x11)) 10 (sB x10)) 4 (sV x4)) 3 (sI x3)) 0 (sS x0a x0n x0c)) x1 x2 hp _) ?_ (Ru 1 (Ru 2 (Ru 0 (Ru 3 (Ru 4 (Ru 10 (Ru 11 Rn))))))) (Sc rfl (Sc rfl (Sc rfl (Sc rfl (Sc rfl (Sc rfl (Sc rfl Sn))))))) Sn
  refine AWP.seq' ?_
  refine AWP.seq' ?_
  refine AWP.rgn (F130_r2 (upd (upd (upd (upd (upd (upd (upd E0 11 (sB x11)) 10 (sB x10)) 4 (sV x4)) 3 (sI x3)) 2 (sI x2)) 1 (sI x1)) 0 (sS x0a x0n x0c)) (wr (x2 - x1)) hp _) ?_ (Ru 12 (Ru 0 (Ru 1 (Ru 2 (Ru 3 (Ru 4 (Ru 10 (Ru 11 Rn)))))))) (Sc rfl (Sc rfl (Sc rfl (Sc rfl (Sc rfl (Sc rfl (Sc rfl (Sc rfl Sn)))))))) Sn
  refine AWP.cond (t := (decide (((wr (x2 - x1)) : Int) ≤ 12))) rfl (fun e => ?_) (fun e => ?_)
  ·replace h := ite2_t h e
   refine AWP.seq' ?_
   refine AWP.rgn (F130_r3 E0 x0a x0n x0c x1 x2 x4 hp _) ?_ (Ru 0 (Ru 1 (Ru 2 (Ru 4 Rn)))) (Sc rfl (Sc rfl (Sc rfl (Sc rfl Sn)))) Sn
   refine mC h fun u_1 h_2 h => ?_
   refine AWP.ret ?_
   exact h
  ·replace h := ite2_f h e
   refine AWP.skip ?_
   refine AWP.seq' ?_
   refine AWP.seq' ?_
   refine AWP.rgn (F130_r4 (upd (upd (upd (upd (upd (upd (upd E0 12 (sI ((wr (x2 - x1))))) 11 (sB x11)) 10 (sB x10)) 4 (sV x4)) 2 (sI x2)) 1 (sI x1)) 0 (sS x0a x0n x0c)) x3 hp _) ?_ (Ru 3 (Ru 0 (Ru 1 (Ru 2 (Ru 4 (Ru 10 (Ru 11 (Ru 12 Rn)))))))) (Sc rfl (Sc rfl (Sc rfl (Sc rfl (Sc rfl (Sc rfl (Sc rfl (Sc rfl Sn)))))))) Sn
   refine AWP.cond (t := (x3 == 0)) rfl (fun e => ?_) (fun e => ?_)
   ·replace h := ite2_t h e
    refine AWP.seq' ?_
    refine AWP.rgn (F130_r5 E0 x0a x0n x0c x1 x2 x4 hp _) ?_ (Ru 0 (Ru 1 (Ru 2 (Ru 4 Rn)))) (Sc rfl (Sc rfl (Sc rfl (Sc rfl Sn)))) Sn
    refine mC h fun u_3 h_4 h => ?_
    refine AWP.ret ?_
    exact h
   ·replace h := ite2_f h e
    refine AWP.skip ?_
    refine AWP.seq (fun env pv hp => ∃ (x1 : Int) (x2 : Int) (x3 : Int) (x10 : Bool) (x11 : Bool) (x12 : Int), Sub (upd (upd (upd (upd (upd (upd (upd (upd E0 12 (sI x12)) 11 (sB x11)) 10 (sB x10)) 4 (sV x4)) 3 (sI x3)) 2 (sI x2)) 1 (sI x1)) 0 (sS x0a x0n x0c)) env ∧ Sub V0 pv ∧ (F130_j3 x0a x0n x0c x1 x2 x3 x4 x10 x11 x12 hp I2 K)) ?_ ?_
    ·refine AWP.seq' ?_
     refine AWP.rgn (F130_r27 (upd (upd (upd (upd (upd (upd (upd E0 12 (sI ((wr (x2 - x1))))) 11 (sB x11)) 4 (sV x4)) 3 (sI x3)) 2 (sI x2)) 1 (sI x1)) 0 (sS x0a x0n x0c)) x10 hp _) ?_ (Ru 10 (Ru 0 (Ru 1 (Ru 2 (Ru 3 (Ru 4 (Ru 11 (Ru 12 Rn)))))))) (Sc rfl (Sc rfl (Sc rfl (Sc rfl (Sc rfl (Sc rfl (Sc rfl (Sc rfl Sn)))))))) Sn
     refine AWP.cond (t := (!x10)) rfl (fun e => ?_) (fun e => ?_)
     ·replace h := ite2_t h e
      refine AWP.seq' ?_
      refine AWP.rgn (F130_r28 (upd (upd (upd (upd E0 12 (sI ((wr (x2 - x1))))) 11 (sB x11)) 10 (sB x10)) 3 (sI x3)) x0a x0n x0c x1 x2 x4 hp _) ?_ (Ru 0 (Ru 1 (Ru 2 (Ru 4 (Ru 3 (Ru 10 (Ru 11 (Ru 12 Rn)))))))) (Sc rfl (Sc rfl (Sc rfl (Sc rfl (Sc rfl (Sc rfl (Sc rfl (Sc rfl Sn)))))))) Sn
      refine mC h fun u_41 h_42 h => ?_
      refine AWP.rgn (F130_r29 (upd (upd (upd (upd (upd (upd (upd E0 12 (sI ((wr (x2 - x1))))) 11 (sB x11)) 10 (sB x10)) 4 (sV x4)) 2 (sI x2)) 1 (sI x1)) 0 (sS x0a x0n x0c)) x3 h_42 _) ?_ (Ru 3 (Ru 0 (Ru 1 (Ru 2 (Ru 4 (Ru 10 (Ru 11 (Ru 12 Rn)))))))) (Sc rfl (Sc rfl (Sc rfl (Sc rfl (Sc rfl (Sc rfl (Sc rfl (Sc rfl Sn)))))))) Sn
      exact ⟨x1, x2, (wr (x3 - 1)), x10, x11, (wr (x2 - x1)), (Sc rfl (Sc rfl (Sc rfl (Sc rfl (Sc rfl (Sc rfl (Sc rfl (Sc rfl Sn)))))))), Sn, h⟩
     ·replace h := ite2_f h e
      refine AWP.skip ?_
      exact ⟨x1, x2, x3, x10, x11, (wr (x2 - x1)), (Sc rfl (Sc rfl (Sc rfl (Sc rfl (Sc rfl (Sc rfl (Sc rfl (Sc rfl Sn)))))))), Sn, h⟩
    ·rintro env pv hp ⟨x1, x2, x3, x10, x11, x12, he, hv, h⟩
     refine AWP.sub (env' := (upd (upd (upd (upd (upd (upd (upd (upd E0 12 (sI x12)) 11 (sB x11)) 10 (sB x10)) 4 (sV x4)) 3 (sI x3)) 2 (sI x2)) 1 (sI x1)) 0 (sS x0a x0n x0c))) (pv' := V0) ?_ (Ru 0 (Ru 1 (Ru 2 (Ru 3 (Ru 4 (Ru 10 (Ru 11 (Ru 12 Rn)))))))) he hv (HSub.refl _)
     clear he hv
     unfold F130_j3 at h
     refine AWP.seq' ?_
     refine AWP.rgn (F130_r6 (upd (upd (upd (upd E0 12 (sI x12)) 11 (sB x11)) 10 (sB x10)) 3 (sI x3)) x0a x0n x0c x1 x2 x4 hp _) ?_ (Ru 0 (Ru 1 (Ru 2 (Ru 4 (Ru 3 (Ru 10 (Ru 11 (Ru 12 Rn)))))))) (Sc rfl (Sc rfl (Sc rfl (Sc rfl (Sc rfl (Sc rfl (Sc rfl (Sc rfl Sn)))))))) Sn
     refine mC h fun u_5 h_6 h => mT h fun u_7 u_8 h => mI h fun i_9 h => mI h fun i_10 h => ?_
     refine AWP.seq (fun env pv hp => ∃ (x1 : Int) (x2 : Int) (x3 : Int) (x10 : Bool) (x11 : Bool) (x12 : Int) (x13 : Int) (x14 : Int), Sub (upd (upd (upd (upd (upd (upd (upd (upd (upd (upd E0 14 (sI x14)) 13 (sI x13)) 12 (sI x12)) 11 (sB x11)) 10 (sB x10)) 4 (sV x4)) 3 (sI x3)) 2 (sI x2)) 1 (sI x1)) 0 (sS x0a x0n x0c)) env ∧ Sub V0 pv ∧ (F130_j4 x0a x0n x0c x1 x2 x3 x4 x10 x11 x12 x13 x14 hp I2 K)) ?_ ?_
     ·refine AWP.seq' ?_
      refine AWP.rgn (F130_r23 (upd (upd (upd (upd (upd (upd (upd (upd (upd E0 13 (sI i_9)) 12 (sI x12)) 11 (sB x11)) 10 (sB x10)) 4 (sV x4)) 3 (sI x3)) 2 (sI x2)) 1 (sI x1)) 0 (sS x0a x0n x0c)) i_10 h_6 _) ?_ (Ru 14 (Ru 0 (Ru 1 (Ru 2 (Ru 3 (Ru 4 (Ru 10 (Ru 11 (Ru 12 (Ru 13 Rn)))))))))) (Sc rfl (Sc rfl (Sc rfl (Sc rfl (Sc rfl (Sc rfl (Sc rfl (Sc rfl (Sc rfl (Sc rfl Sn)))))))))) Sn
      refine AWP.cond (t := (i_10 == 2)) rfl (fun e => ?_) (fun e => ?_)
      ·replace h := ite2_t h e
       refine AWP.seq' ?_
       refine AWP.rgn (F130_r24 (upd (upd (upd (upd (upd E0 13 (sI i_9)) 12 (sI x12)) 11 (sB x11)) 10 (sB x10)) 3 (sI x3)) x0a x0n x0c x1 x2 x4 h_6 _) ?_ (Ru 0 (Ru 1 (Ru 2 (Ru 4 (Ru 3 (Ru 10 (Ru 11 (Ru 12 (Ru 13 Rn))))))))) (Sc rfl (Sc rfl (Sc rfl (Sc rfl (Sc rfl (Sc rfl (Sc rfl (Sc rfl (Sc rfl Sn))))))))) Sn
       refine mC h fun u_39 h_40 h => ?_
       refine AWP.seq' ?_
       refine AWP.rgn (F130_r25 (upd (upd (upd (upd (upd (upd E0 12 (sI x12)) 11 (sB x11)) 10 (sB x10)) 4 (sV x4)) 3 (sI x3)) 0 (sS x0a x0n x0c)) x1 x2 i_9 h_40 _) ?_ (Ru 1 (Ru 2 (Ru 13 (Ru 0 (Ru 3 (Ru 4 (Ru 10 (Ru 11 (Ru 12 Rn))))))))) (Sc rfl (Sc rfl (Sc rfl (Sc rfl (Sc rfl (Sc rfl (Sc rfl (Sc rfl (Sc rfl Sn))))))))) Sn
       refine AWP.rgn (F130_r26 (upd (upd (upd (upd (upd (upd (upd (upd (upd E0 13 (sI ((wr ((wr (x2 - 1)) - (wr (i_9 - x1))))))) 12 (sI x12)) 11 (sB x11)) 10 (sB x10)) 4 (sV x4)) 3 (sI x3)) 2 (sI x2)) 1 (sI x1)) 0 (sS x0a x0n x0c))  h_40 _) ?_ (Ru 0 (Ru 1 (Ru 2 (Ru 3 (Ru 4 (Ru 10 (Ru 11 (Ru 12 (Ru 13 Rn))))))))) (Sc rfl (Sc rfl (Sc rfl (Sc rfl (Sc rfl (Sc rfl (Sc rfl (Sc rfl (Sc rfl Sn))))))))) Sn
       exact ⟨x1, x2, x3, x10, x11, x12, (wr ((wr (x2 - 1)) - (wr (i_9 - x1)))), 1, (Sc rfl (Sc rfl (Sc rfl (Sc rfl (Sc rfl (Sc rfl (Sc rfl (Sc rfl (Sc rfl (Sc rfl Sn)))))))))), Sn, h⟩
      ·replace h := ite2_f h e
       refine AWP.skip ?_
       exact ⟨x1, x2, x3, x10, x11, x12, i_9, i_10, (Sc rfl (Sc rfl (Sc rfl (Sc rfl (Sc rfl (Sc rfl (Sc rfl (Sc rfl (Sc rfl (Sc rfl Sn)))))))))), Sn, h⟩
     ·rintro env pv hp ⟨x1, x2, x3, x10, x11, x12, x13, x14, he, hv, h⟩
      refine AWP.sub (env' := (upd (upd (upd (upd (upd (upd (upd (upd (upd (upd E0 14 (sI x14)) 13 (sI x13)) 12 (sI x12)) 11 (sB x11)) 10 (sB x10)) 4 (sV x4)) 3 (sI x3)) 2 (sI x2)) 1 (sI x1)) 0 (sS x0a x0n x0c))) (pv' := V0) ?_ (Ru 0 (Ru 1 (Ru 2 (Ru 3 (Ru 4 (Ru 10 (Ru 11 (Ru 12 (Ru 13 (Ru 14 Rn)))))))))) he hv (HSub.refl _)
      clear he hv
      unfold F130_j4 at h
      refine AWP.seq (fun env pv hp => ∃ (x1 : Int) (x2 : Int) (x3 : Int) (x10 : Bool) (x11 : Bool) (x12 : Int) (x13 : Int), Sub (upd (upd (upd (upd (upd (upd (upd (upd (upd E0 13 (sI x13)) 12 (sI x12)) 11 (sB x11)) 10 (sB x10)) 4 (sV x4)) 3 (sI x3)) 2 (sI x2)) 1 (sI x1)) 0 (sS x0a x0n x0c)) env ∧ Sub V0 pv ∧ (F130_j5 x0a x0n x0c x1 x2 x3 x4 x10 x11 x12 x13 hp I2 K)) ?_ ?_
      ·refine AWP.seq (fun env pv hp => ∃ (x1 : Int) (x2 : Int) (x3 : Int) (x10 : Bool) (x11 : Bool) (x12 : Int) (x13 : Int) (x75 : Bool), Sub (upd (upd (upd (upd (upd (upd (upd (upd (upd (upd E0 75 (sB x75)) 13 (sI x13)) 12 (sI x12)) 11 (sB x11)) 10 (sB x10)) 4 (sV x4)) 3 (sI x3)) 2 (sI x2)) 1 (sI x1)) 0 (sS x0a x0n x0c)) env ∧ Sub V0 pv ∧ (F130_j7 x0a x0n x0c x1 x2 x3 x4 x10 x11 x12 x13 x75 hp I2 K)) ?_ ?_
       ·refine AWP.rgn (F130_r22 (upd (upd (upd (upd (upd (upd (upd E0 13 (sI x13)) 12 (sI x12)) 4 (sV x4)) 3 (sI x3)) 2 (sI x2)) 1 (sI x1)) 0 (sS x0a x0n x0c)) x10 x11 x14 hp _) ?_ (Ru 10 (Ru 11 (Ru 14 (Ru 0 (Ru 1 (Ru 2 (Ru 3 (Ru 4 (Ru 12 (Ru 13 Rn)))))))))) (Sc rfl (Sc rfl (Sc rfl (Sc rfl (Sc rfl (Sc rfl (Sc rfl (Sc rfl (Sc rfl (Sc rfl Sn)))))))))) Sn
        refine mt h (fun h => ?_) (fun h => ?_)
        ·refine mt h (fun h => ?_) (fun h => ?_)
         ·exact ⟨x1, x2, x3, x10, x11, x12, x13, (x14 == 1), (Sc rfl (Sc rfl (Sc rfl (Sc rfl (Sc rfl (Sc rfl (Sc rfl (Sc rfl (Sc rfl (Sc rfl Sn)))))))))), Sn, h⟩
         ·exact ⟨x1, x2, x3, x10, x11, x12, x13, false, (Sc rfl (Sc rfl (Sc rfl (Sc rfl (Sc rfl (Sc rfl (Sc rfl (Sc rfl (Sc rfl (Sc rfl Sn)))))))))), Sn, h⟩
        ·exact ⟨x1, x2, x3, x10, x11, x12, x13, false, (Sc rfl (Sc rfl (Sc rfl (Sc rfl (Sc rfl (Sc rfl (Sc rfl (Sc rfl (Sc rfl (Sc rfl Sn)))))))))), Sn, h⟩
       ·rintro env pv hp ⟨x1, x2, x3, x10, x11, x12, x13, x75, he, hv, h⟩
        refine AWP.sub (env' := (upd (upd (upd (upd (upd (upd (upd (upd (upd (upd E0 75 (sB x75)) 13 (sI x13)) 12 (sI x12)) 11 (sB x11)) 10 (sB x10)) 4 (sV x4)) 3 (sI x3)) 2 (sI x2)) 1 (sI x1)) 0 (sS x0a x0n x0c))) (pv' := V0) ?_ (Ru 0 (Ru 1 (Ru 2 (Ru 3 (Ru 4 (Ru 10 (Ru 11 (Ru 12 (Ru 13 (Ru 75 Rn)))))))))) he hv (HSub.refl _)
        clear he hv
        unfold F130_j7 at h
        refine AWP.cond (t := x75) rfl (fun e => ?_) (fun e => ?_)
        ·replace h := ite2_t h e
         refine AWP.seq' ?_
         refine AWP.rgn (F130_r21 (upd (upd (upd (upd (upd E0 13 (sI x13)) 12 (sI x12)) 11 (sB x11)) 10 (sB x10)) 3 (sI x3)) x0a x0n x0c x1 x2 x4 hp _) ?_ (Ru 0 (Ru 1 (Ru 2 (Ru 4 (Ru 3 (Ru 10 (Ru 11 (Ru 12 (Ru 13 Rn))))))))) (Sc rfl (Sc rfl (Sc rfl (Sc rfl (Sc rfl (Sc rfl (Sc rfl (Sc rfl (Sc rfl Sn))))))))) Sn
         refine mC h fun u_36 h_37 h => mB h fun q_38 h => ?_
         refine AWP.cond (t := q_38) rfl (fun e => ?_) (fun e => ?_)
         ·replace h := ite2_t h e
          refine AWP.ret ?_
          exact h
         ·replace h := ite2_f h e
          refine AWP.skip ?_
          exact ⟨x1, x2, x3, x10, x11, x12, x13, (Sc rfl (Sc rfl (Sc rfl (Sc rfl (Sc rfl (Sc rfl (Sc rfl (Sc rfl (Sc rfl Sn))))))))), Sn, h⟩
        ·replace h := ite2_f h e
         refine AWP.skip ?_
         exact ⟨x1, x2, x3, x10, x11, x12, x13, (Sc rfl (Sc rfl (Sc rfl (Sc rfl (Sc rfl (Sc rfl (Sc rfl (Sc rfl (Sc rfl Sn))))))))), Sn, h⟩
      ·rintro env pv hp ⟨x1, x2, x3, x10, x11, x12, x13, he, hv, h⟩
       refine AWP.sub (env' := (upd (upd (upd (upd (upd (upd (upd (upd (upd E0 13 (sI x13)) 12 (sI x12)) 11 (sB x11)) 10 (sB x10)) 4 (sV x4)) 3 (sI x3)) 2 (sI x2)) 1 (sI x1)) 0 (sS x0a x0n x0c))) (pv' := V0) ?_ (Ru 0 (Ru 1 (Ru 2 (Ru 3 (Ru 4 (Ru 10 (Ru 11 (Ru 12 (Ru 13 Rn))))))))) he hv (HSub.refl _)
       clear he hv
       unfold F130_j5 at h
       refine AWP.seq' ?_
       refine AWP.seq (fun env pv hp => ∃ (x1 : Int) (x2 : Int) (x3 : Int) (x10 : Bool) (x11 : Bool) (x12 : Int) (x13 : Int) (x97 : Bool), Sub (upd (upd (upd (upd (upd (upd (upd (upd (upd (upd E0 97 (sB x97)) 13 (sI x13)) 12 (sI x12)) 11 (sB x11)) 10 (sB x10)) 4 (sV x4)) 3 (sI x3)) 2 (sI x2)) 1 (sI x1)) 0 (sS x0a x0n x0c)) env ∧ Sub V0 pv ∧ (F130_j6 x0a x0n x0c x1 x2 x3 x4 x10 x11 x12 x13 x97 hp I2 K)) ?_ ?_
       ·refine AWP.rgnD (by kernel_rfl) (by kernel_rfl) (F130_r20 (upd (upd (upd (upd (upd E0 12 (sI x12)) 11 (sB x11)) 10 (sB x10)) 3 (sI x3)) 2 (sI x2)) x0a x0n x0c x1 x4 x13 hp _) ?_ (Ru 0 (Ru 1 (Ru 4 (Ru 13 (Ru 2 (Ru 3 (Ru 10 (Ru 11 (Ru 12 Rn))))))))) (Sc rfl (Sc rfl (Sc rfl (Sc rfl (Sc rfl (Sc rfl (Sc rfl (Sc rfl (Sc rfl Sn))))))))) Sn
        refine mt h (fun h => ?_) (fun h => ?_)
        ·refine ⟨h.1, h.2.1, mN h.2.2 (fun b_24 o_25 h => mL h (fun l_26 h => ⟨h.1, h.2.1, mN h.2.2 fun b_27 o_28 h => mL h fun l_29 h => mF h fun f_30 ga_31 gb_32 h => mC h fun u_33 h_34 h => mI h fun i_35 h => ?_⟩))⟩
         exact ⟨x1, x2, x3, x10, x11, x12, x13, (!(decide (i_35 < 0))), (Sc rfl (Sc rfl (Sc rfl (Sc rfl (Sc rfl (Sc rfl (Sc rfl (Sc rfl (Sc rfl (Sc rfl Sn)))))))))), Sn, h⟩
        ·exact ⟨x1, x2, x3, x10, x11, x12, x13, false, (Sc rfl (Sc rfl (Sc rfl (Sc rfl (Sc rfl (Sc rfl (Sc rfl (Sc rfl (Sc rfl (Sc rfl Sn)))))))))), Sn, h⟩
       ·rintro env pv hp ⟨x1, x2, x3, x10, x11, x12, x13, x97, he, hv, h⟩
        refine AWP.sub (env' := (upd (upd (upd (upd (upd (upd (upd (upd (upd (upd E0 97 (sB x97)) 13 (sI x13)) 12 (sI x12)) 11 (sB x11)) 10 (sB x10)) 4 (sV x4)) 3 (sI x3)) 2 (sI x2)) 1 (sI x1)) 0 (sS x0a x0n x0c))) (pv' := V0) ?_ (Ru 0 (Ru 1 (Ru 2 (Ru 3 (Ru 4 (Ru 10 (Ru 11 (Ru 12 (Ru 13 (Ru 97 Rn)))))))))) he hv (HSub.refl _)
        clear he hv
        unfold F130_j6 at h
        refine AWP.cond (t := x97) rfl (fun e => ?_) (fun e => ?_)
        ·replace h := ite2_t h e
         refine AWP.seq' ?_
         refine AWP.rgn (F130_r7 (upd (upd (upd E0 11 (sB x11)) 10 (sB x10)) 3 (sI x3)) x0a x0n x0c x1 x2 x4 x13 hp _) ?_ (Ru 0 (Ru 1 (Ru 2 (Ru 4 (Ru 13 (Ru 3 (Ru 10 (Ru 11 Rn)))))))) (Sc rfl (Sc rfl (Sc rfl (Sc rfl (Sc rfl (Sc rfl (Sc rfl (Sc rfl Sn)))))))) Sn
         refine mC h fun u_11 h_12 h => mI h fun i_13 h => ?_
         refine AWP.seq' ?_
         refine AWP.rgn (F130_r8 (upd (upd (upd (upd (upd (upd E0 11 (sB x11)) 10 (sB x10)) 4 (sV x4)) 3 (sI x3)) 2 (sI x2)) 0 (sS x0a x0n x0c)) i_13 h_12 _) ?_ (Ru 15 (Ru 0 (Ru 2 (Ru 3 (Ru 4 (Ru 10 (Ru 11 Rn))))))) (Sc rfl (Sc rfl (Sc rfl (Sc rfl (Sc rfl (Sc rfl (Sc rfl Sn))))))) Sn
         refine AWP.exit ?_
         exact ⟨(i_13, x2, x3, x10, x11), (Sc rfl (Sc rfl (Sc rfl (Sc rfl (Sc rfl (Sc rfl (Sc rfl Sn))))))), Sn, h⟩
        ·replace h := ite2_f h e
         refine AWP.skip ?_
         refine AWP.seq' ?_
         refine AWP.rgn (F130_r9 (upd (upd E0 12 (sI x12)) 3 (sI x3)) x0a x0n x0c x1 x2 x4 x13 hp _) ?_ (Ru 0 (Ru 1 (Ru 2 (Ru 4 (Ru 13 (Ru 3 (Ru 12 Rn))))))) (Sc rfl (Sc rfl (Sc rfl (Sc rfl (Sc rfl (Sc rfl (Sc rfl Sn))))))) Sn
         refine mC h fun u_14 h_15 h => mT h fun u_16 u_17 h => mI h fun i_18 h => mB h fun q_19 h => ?_
         refine AWP.seq' ?_
         refine AWP.rgn (F130_r10 (upd (upd (upd (upd (upd (upd (upd E0 16 (sI i_18)) 12 (sI x12)) 4 (sV x4)) 3 (sI x3)) 2 (sI x2)) 1 (sI x1)) 0 (sS x0a x0n x0c)) q_19 h_15 _) ?_ (Ru 17 (Ru 0 (Ru 1 (Ru 2 (Ru 3 (Ru 4 (Ru 12 (Ru 16 Rn)))))))) (Sc rfl (Sc rfl (Sc rfl (Sc rfl (Sc rfl (Sc rfl (Sc rfl (Sc rfl Sn)))))))) Sn
         refine AWP.seq' ?_
         refine AWP.rgn (F130_r11 (upd (upd (upd (upd (upd E0 12 (sI x12)) 11 (sB q_19)) 4 (sV x4)) 3 (sI x3)) 0 (sS x0a x0n x0c)) x1 x2 i_18 h_15 _) ?_ (Ru 1 (Ru 2 (Ru 16 (Ru 0 (Ru 3 (Ru 4 (Ru 11 (Ru 12 Rn)))))))) (Sc rfl (Sc rfl (Sc rfl (Sc rfl (Sc rfl (Sc rfl (Sc rfl (Sc rfl Sn)))))))) Sn
         refine AWP.seq' ?_
         refine AWP.rgn (F130_r12 (upd (upd (upd (upd (upd (upd (upd (upd (upd E0 19 (sI ((wr (x2 - i_18))))) 18 (sI ((wr (i_18 - x1))))) 16 (sI i_18)) 11 (sB q_19)) 4 (sV x4)) 3 (sI x3)) 2 (sI x2)) 1 (sI x1)) 0 (sS x0a x0n x0c)) x12 h_15 _) ?_ (Ru 12 (Ru 0 (Ru 1 (Ru 2 (Ru 3 (Ru 4 (Ru 11 (Ru 16 (Ru 18 (Ru 19 Rn)))))))))) (Sc rfl (Sc rfl (Sc rfl (Sc rfl (Sc rfl (Sc rfl (Sc rfl (Sc rfl (Sc rfl (Sc rfl Sn)))))))))) Sn
         refine ⟨h.1, ?_⟩
         replace h := h.2
         refine AWP.seq' ?_
         refine AWP.rgn (F130_r13 (upd (upd (upd (upd (upd (upd (upd (upd E0 20 (sI ((wr (Int.tdiv x12 8))))) 16 (sI i_18)) 11 (sB q_19)) 4 (sV x4)) 3 (sI x3)) 2 (sI x2)) 1 (sI x1)) 0 (sS x0a x0n x0c)) (wr (i_18 - x1)) (wr (x2 - i_18)) h_15 _) ?_ (Ru 18 (Ru 19 (Ru 0 (Ru 1 (Ru 2 (Ru 3 (Ru 4 (Ru 11 (Ru 16 (Ru 20 Rn)))))))))) (Sc rfl (Sc rfl (Sc rfl (Sc rfl (Sc rfl (Sc rfl (Sc rfl (Sc rfl (Sc rfl (Sc rfl Sn)))))))))) Sn
         refine AWP.cond (t := (decide (((wr (i_18 - x1)) : Int) < (wr (x2 - i_18))))) rfl (fun e => ?_) (fun e => ?_)
         ·replace h := ite2_t h e
          refine AWP.seq' ?_
          refine AWP.rgn (F130_r14 (upd (upd (upd (upd (upd (upd (upd E0 16 (sI i_18)) 11 (sB q_19)) 4 (sV x4)) 3 (sI x3)) 2 (sI x2)) 1 (sI x1)) 0 (sS x0a x0n x0c)) (wr (i_18 - x1)) (wr (Int.tdiv x12 8)) h_15 _) ?_ (Ru 18 (Ru 20 (Ru 0 (Ru 1 (Ru 2 (Ru 3 (Ru 4 (Ru 11 (Ru 16 Rn))))))))) (Sc rfl (Sc rfl (Sc rfl (Sc rfl (Sc rfl (Sc rfl (Sc rfl (Sc rfl (Sc rfl Sn))))))))) Sn
          refine AWP.seq' ?_
          refine AWP.rgn (F130_r15 (upd (upd (upd E0 11 (sB q_19)) 10 (sB ((decide (((wr (i_18 - x1)) : Int) ≥ (wr (Int.tdiv x12 8))))))) 2 (sI x2)) x0a x0n x0c x1 x3 x4 i_18 h_15 _) ?_ (Ru 0 (Ru 1 (Ru 3 (Ru 4 (Ru 16 (Ru 2 (Ru 10 (Ru 11 Rn)))))))) (Sc rfl (Sc rfl (Sc rfl (Sc rfl (Sc rfl (Sc rfl (Sc rfl (Sc rfl Sn)))))))) Sn
          refine mC h fun u_20 h_21 h => ?_
          refine AWP.rgn (F130_r16 (upd (upd (upd (upd (upd (upd E0 11 (sB q_19)) 10 (sB ((decide (((wr (i_18 - x1)) : Int) ≥ (wr (Int.tdiv x12 8))))))) 4 (sV x4)) 3 (sI x3)) 2 (sI x2)) 0 (sS x0a x0n x0c)) i_18 h_21 _) ?_ (Ru 16 (Ru 0 (Ru 2 (Ru 3 (Ru 4 (Ru 10 (Ru 11 Rn))))))) (Sc rfl (Sc rfl (Sc rfl (Sc rfl (Sc rfl (Sc rfl (Sc rfl Sn))))))) Sn
          exact ⟨((wr (i_18 + 1)), x2, x3, (decide (((wr (i_18 - x1)) : Int) ≥ (wr (Int.tdiv x12 8)))), q_19), (Sc rfl (Sc rfl (Sc rfl (Sc rfl (Sc rfl (Sc rfl (Sc rfl Sn))))))), Sn, h⟩
         ·replace h := ite2_f h e
          refine AWP.seq' ?_
          refine AWP.rgn (F130_r17 (upd (upd (upd (upd (upd (upd (upd E0 16 (sI i_18)) 11 (sB q_19)) 4 (sV x4)) 3 (sI x3)) 2 (sI x2)) 1 (sI x1)) 0 (sS x0a x0n x0c)) (wr (x2 - i_18)) (wr (Int.tdiv x12 8)) h_15 _) ?_ (Ru 19 (Ru 20 (Ru 0 (Ru 1 (Ru 2 (Ru 3 (Ru 4 (Ru 11 (Ru 16 Rn))))))))) (Sc rfl (Sc rfl (Sc rfl (Sc rfl (Sc rfl (Sc rfl (Sc rfl (Sc rfl (Sc rfl Sn))))))))) Sn
          refine AWP.seq' ?_
          refine AWP.rgn (F130_r18 (upd (upd (upd E0 11 (sB q_19)) 10 (sB ((decide (((wr (x2 - i_18)) : Int) ≥ (wr (Int.tdiv x12 8))))))) 1 (sI x1)) x0a x0n x0c x2 x3 x4 i_18 h_15 _) ?_ (Ru 0 (Ru 2 (Ru 3 (Ru 4 (Ru 16 (Ru 1 (Ru 10 (Ru 11 Rn)))))))) (Sc rfl (Sc rfl (Sc rfl (Sc rfl (Sc rfl (Sc rfl (Sc rfl (Sc rfl Sn)))))))) Sn
          refine mC h fun u_22 h_23 h => ?_
          refine AWP.rgn (F130_r19 (upd (upd (upd (upd (upd (upd E0 11 (sB q_19)) 10 (sB ((decide (((wr (x2 - i_18)) : Int) ≥ (wr (Int.tdiv x12 8))))))) 4 (sV x4)) 3 (sI x3)) 1 (sI x1)) 0 (sS x0a x0n x0c)) i_18 h_23 _) ?_ (Ru 16 (Ru 0 (Ru 1 (Ru 3 (Ru 4 (Ru 10 (Ru 11 Rn))))))) (Sc rfl (Sc rfl (Sc rfl (Sc rfl (Sc rfl (Sc rfl (Sc rfl Sn))))))) Sn
          exact ⟨(x1, i_18, x3, (decide (((wr (x2 - i_18)) : Int) ≥ (wr (Int.tdiv x12 8)))), q_19), (Sc rfl (Sc rfl (Sc rfl (Sc rfl (Sc rfl (Sc rfl (Sc rfl Sn))))))), Sn, h⟩
end
-- 94 slices.SortFunc[[]interpreter/api.T4,interpreter/api.T4]
section
variable (e : Env) (x0a : Option Addr) (x0n x0c : Nat) (x1 : Value) (x4 : Int) (hp : HP) (K : Env → PV → HP → Prop)
abbrev R94 (p : List Nat) (n : Nat) := RW Try.prog 14 [] (opsAt Try.f94 p) (List.range n)
theorem F94_r0 : R94 [0] 3 (upd e 0 (sS x0a x0n x0c)) V0 hp K =
    (K (upd (upd (upd (upd e 0 (sS x0a x0n x0c)) 5 (sS x0a x0n x0c)) 6 (sI ((x0n : Nat)))) 4 (sI ((x0n : Nat)))) V0 hp) := by kernel_rfl
theorem F94_r1 : R94 [1] 7 (upd (upd (upd e 4 (sI x4)) 1 (sV x1)) 0 (sS x0a x0n x0c)) V0 hp K =
    (CF Try.prog 129 [(.int .u64 (IntKind.wrap .u64 (x4)))] hp fun u1 h2 => (intV u1 .i64 fun i3 => (CF Try.prog 130 [(.slice x0a x0n x0c), .int .i64 0, (.int .i64 x4), (.int .i64 i3), x1] h2 fun u4 h5 => (K (upd (upd (upd (upd (upd (upd (upd (upd (upd (upd e 4 (sI x4)) 1 (sV x1)) 0 (sS x0a x0n x0c)) 7 (sS x0a x0n x0c)) 8 (sI x4)) 9 (sI x4)) 10 (sV (.int .u64 (IntKind.wrap .u64 (x4))))) 11 (sI i3)) 12 (sV x1)) 13 (sV u4)) V0 h5)))) := by kernel_rfl
def F94 (x0a : Option Addr) (x0n : Nat) (x0c : Nat) (x1 : Value) (hp : HP) (K : Value → HP → Prop) : Prop :=
  (CF Try.prog 129 [(.int .u64 (IntKind.wrap .u64 ((x0n : Nat))))] hp fun u_1 h_2 => (intV u_1 .i64 fun i_3 => (CF Try.prog 130 [(.slice x0a x0n x0c), .int .i64 0, (.int .i64 (x0n : Nat)), (.int .i64 i_3), x1] h_2 fun u_4 h_5 => (K (.tuple ⟨[]⟩) h_5))))
noncomputable def F94_code : Code := (.seq (.region 0 (opsAt Try.f94 [0]) false) (.region 1 (opsAt Try.f94 [1]) false))
theorem F94_body : Try.f94.body = some F94_code := by kernel_rfl
theorem F94_ok (x0a : Option Addr) (x0n : Nat) (x0c : Nat) (x1 : Value) (hp : HP) (K : Value → HP → Prop) (h : F94 x0a x0n x0c x1 hp K) : CF Try.prog 94 [(.slice x0a x0n x0c), x1] hp K := by
 refine .inl ⟨by kernel_rfl, AC.intro (N := 14) Try.func94 F94_body rfl (Nat.le_of_ble_eq_true rfl) ?_⟩
 unfold F94 at h
 unfold F94_code
 refine AWP.seq' ?_
 refine AWP.rgn (F94_r0 (upd E0 1 (sV x1)) x0a x0n x0c hp _) ?_ (Ru 0 (Ru 1 Rn)) (Sc rfl (Sc rfl Sn)) Sn
 refine AWP.rgn (F94_r1 E0 x0a x0n x0c x1 (x0n : Nat) hp _) ?_ (Ru 0 (Ru 1 (Ru 4 Rn))) (Sc rfl (Sc rfl (Sc rfl Sn))) Sn
 refine mC h fun u_1 h_2 h => mI h fun i_3 h => mC h fun u_4 h_5 h => ?_
 exact h
end
end Go.Proofs

set_option linter.unusedVariables false
set_option maxRecDepth 20000
namespace Go.Proofs
open Go Go.HL
-- 173 (*slices.xorshift).Next
section
variable (e : Env) (x0 : Option Addr) (hp : HP) (K : Env → PV → HP → Prop)
abbrev R173 (p : List Nat) (n : Nat) := RW Try.prog 33 [] (opsAt Try.f173 p) (List.range n)
theorem F173_r0 : R173 [0] 1 e V0 hp K =
    (K (upd e 2 (sV (.int .u64 0))) V0 hp) := by kernel_rfl
theorem F173_r1 : R173 [1, 0] 10 (upd e 0 (sP x0)) V0 hp K =
    (ptrN x0 fun b1 o2 => (ldV (HP.cell hp b1 o2) fun v3 => (intV v3 .u64 fun i4 => (ptrN x0 fun b5 o6 => (ldV (HP.cell hp b5 o6) fun v7 => (intV v7 .u64 fun i8 => ((0 ≤ (13 : Int)) ∧ (ptrN x0 fun b9 o10 => (HP.st hp b9 o10 (.int .u64 (bxor .u64 i4 (IntKind.wrap .u64 (i8 * 2 ^ (min (Int.toNat 13) (IntKind.bits .u64)))))) fun h11 => (K (upd (upd (upd (upd (upd (upd (upd (upd (upd (upd e 0 (sP x0)) 3 (sP x0)) 4 (sQ b1 o2)) 5 (sV (.int .u64 i4))) 6 (sP x0)) 7 (sQ b5 o6)) 8 (sV (.int .u64 i8))) 9 (sV (.int .u64 (IntKind.wrap .u64 (i8 * 2 ^ (min (Int.toNat 13) (IntKind.bits .u64))))))) 10 (sV (.int .u64 (bxor .u64 i4 (IntKind.wrap .u64 (i8 * 2 ^ (min (Int.toNat 13) (IntKind.bits .u64)))))))) 11 (sQ b9 o10)) V0 h11)))))))))) := by kernel_rfl
theorem F173_r2 : R173 [1, 1, 0] 10 (upd e 0 (sP x0)) V0 hp K =
    (ptrN x0 fun b1 o2 => (ldV (HP.cell hp b1 o2) fun v3 => (intV v3 .u64 fun i4 => (ptrN x0 fun b5 o6 => (ldV (HP.cell hp b5 o6) fun v7 => (intV v7 .u64 fun i8 => ((0 ≤ (7 : Int)) ∧ (ptrN x0 fun b9 o10 => (HP.st hp b9 o10 (.int .u64 (bxor .u64 i4 (Int.fdiv i8 (2 ^ (min (Int.toNat 7) (IntKind.bits .u64)))))) fun h11 => (K (upd (upd (upd (upd (upd (upd (upd (upd (upd (upd e 0 (sP x0)) 12 (sP x0)) 13 (sQ b1 o2)) 14 (sV (.int .u64 i4))) 15 (sP x0)) 16 (sQ b5 o6)) 17 (sV (.int .u64 i8))) 18 (sV (.int .u64 (Int.fdiv i8 (2 ^ (min (Int.toNat 7) (IntKind.bits .u64))))))) 19 (sV (.int .u64 (bxor .u64 i4 (Int.fdiv i8 (2 ^ (min (Int.toNat 7) (IntKind.bits .u64)))))))) 20 (sQ b9 o10)) V0 h11)))))))))) := by kernel_rfl
theorem F173_r3 : R173 [1, 1, 1, 0] 10 (upd e 0 (sP x0)) V0 hp K =
    (ptrN x0 fun b1 o2 => (ldV (HP.cell hp b1 o2) fun v3 => (intV v3 .u64 fun i4 => (ptrN x0 fun b5 o6 => (ldV (HP.cell hp b5 o6) fun v7 => (intV v7 .u64 fun i8 => ((0 ≤ (17 : Int)) ∧ (ptrN x0 fun b9 o10 => (HP.st hp b9 o10 (.int .u64 (bxor .u64 i4 (IntKind.wrap .u64 (i8 * 2 ^ (min (Int.toNat 17) (IntKind.bits .u64)))))) fun h11 => (K (upd (upd (upd (upd (upd (upd (upd (upd (upd (upd e 0 (sP x0)) 21 (sP x0)) 22 (sQ b1 o2)) 23 (sV (.int .u64 i4))) 24 (sP x0)) 25 (sQ b5 o6)) 26 (sV (.int .u64 i8))) 27 (sV (.int .u64 (IntKind.wrap .u64 (i8 * 2 ^ (min (Int.toNat 17) (IntKind.bits .u64))))))) 28 (sV (.int .u64 (bxor .u64 i4 (IntKind.wrap .u64 (i8 * 2 ^ (min (Int.toNat 17) (IntKind.bits .u64)))))))) 29 (sQ b9 o10)) V0 h11)))))))))) := by kernel_rfl
theorem F173_r4 : R173 [1, 1, 1, 1, 0] 4 (upd e 0 (sP x0)) V0 hp K =
    (ptrN x0 fun b1 o2 => (ldV (HP.cell hp b1 o2) fun v3 => (intV v3 .u64 fun i4 => (K (upd (upd (upd (upd (upd e 0 (sP x0)) 30 (sP x0)) 31 (sQ b1 o2)) 32 (sV (.int .u64 i4))) 2 (sV (.int .u64 i4))) V0 hp)))) := by kernel_rfl
def F173 (x0 : Option Addr) (hp : HP) (K : Value → HP → Prop) : Prop :=
  (ptrN x0 fun b_1 o_2 => (ldV (HP.cell hp b_1 o_2) fun v_3 => (intV v_3 .u64 fun i_4 => (ptrN x0 fun b_5 o_6 => (ldV (HP.cell hp b_5 o_6) fun v_7 => (intV v_7 .u64 fun i_8 => ((0 ≤ (13 : Int)) ∧ (ptrN x0 fun b_9 o_10 => (HP.st hp b_9 o_10 (.int .u64 (bxor .u64 i_4 (IntKind.wrap .u64 (i_8 * 2 ^ (min (Int.toNat 13) (IntKind.bits .u64)))))) fun h_11 => (ptrN x0 fun b_12 o_13 => (ldV (HP.cell h_11 b_12 o_13) fun v_14 => (intV v_14 .u64 fun i_15 => (ptrN x0 fun b_16 o_17 => (ldV (HP.cell h_11 b_16 o_17) fun v_18 => (intV v_18 .u64 fun i_19 => ((0 ≤ (7 : Int)) ∧ (ptrN x0 fun b_20 o_21 => (HP.st h_11 b_20 o_21 (.int .u64 (bxor .u64 i_15 (Int.fdiv i_19 (2 ^ (min (Int.toNat 7) (IntKind.bits .u64)))))) fun h_22 => (ptrN x0 fun b_23 o_24 => (ldV (HP.cell h_22 b_23 o_24) fun v_25 => (intV v_25 .u64 fun i_26 => (ptrN x0 fun b_27 o_28 => (ldV (HP.cell h_22 b_27 o_28) fun v_29 => (intV v_29 .u64 fun i_30 => ((0 ≤ (17 : Int)) ∧ (ptrN x0 fun b_31 o_32 => (HP.st h_22 b_31 o_32 (.int .u64 (bxor .u64 i_26 (IntKind.wrap .u64 (i_30 * 2 ^ (min (Int.toNat 17) (IntKind.bits .u64)))))) fun h_33 => (ptrN x0 fun b_34 o_35 => (ldV (HP.cell h_33 b_34 o_35) fun v_36 => (intV v_36 .u64 fun i_37 => (K (.int .u64 i_37) h_33)))))))))))))))))))))))))))))))
noncomputable def F173_code : Code := (.seq (.region 0 (opsAt Try.f173 [0]) false) (.seq (.region 1 (opsAt Try.f173 [1, 0]) true) (.seq (.region 2 (opsAt Try.f173 [1, 1, 0]) true) (.seq (.region 3 (opsAt Try.f173 [1, 1, 1, 0]) true) (.seq (.region 4 (opsAt Try.f173 [1, 1, 1, 1, 0]) false) .ret)))))
theorem F173_body : Try.f173.body = some F173_code := by kernel_rfl
theorem F173_ok (x0 : Option Addr) (hp : HP) (K : Value → HP → Prop) (h : F173 x0 hp K) : CF Try.prog 173 [(.pointer x0)] hp K := by
 refine .inl ⟨by kernel_rfl, AC.intro (N := 33) Try.func173 F173_body rfl (Nat.le_of_ble_eq_true rfl) ?_⟩
 unfold F173 at h
 unfold F173_code
 refine AWP.seq' ?_
 refine AWP.rgn (F173_r0 (upd E0 0 (sP x0))  hp _) ?_ (Ru 0 Rn) (Sc rfl Sn) Sn
 refine AWP.seq' ?_
 refine AWP.rgnD (by kernel_rfl) (by kernel_rfl) (F173_r1 E0 x0 hp _) ?_ (Ru 0 Rn) (Sc rfl Sn) Sn
 refine mN h (fun b_1 o_2 h => mV h (fun v_3 h => mI h (fun i_4 h => mN h (fun b_5 o_6 h => mV h (fun v_7 h => mI h (fun i_8 h => ⟨h.1, mN h.2 fun b_9 o_10 h => mw h fun h_11 h => ?_⟩))))))
 refine AWP.seq' ?_
 refine AWP.rgnD (by kernel_rfl) (by kernel_rfl) (F173_r2 E0 x0 h_11 _) ?_ (Ru 0 Rn) (Sc rfl Sn) Sn
 refine mN h (fun b_12 o_13 h => mV h (fun v_14 h => mI h (fun i_15 h => mN h (fun b_16 o_17 h => mV h (fun v_18 h => mI h (fun i_19 h => ⟨h.1, mN h.2 fun b_20 o_21 h => mw h fun h_22 h => ?_⟩))))))
 refine AWP.seq' ?_
 refine AWP.rgnD (by kernel_rfl) (by kernel_rfl) (F173_r3 E0 x0 h_22 _) ?_ (Ru 0 Rn) (Sc rfl Sn) Sn
 refine mN h (fun b_23 o_24 h => mV h (fun v_25 h => mI h (fun i_26 h => mN h (fun b_27 o_28 h => mV h (fun v_29 h => mI h (fun i_30 h => ⟨h.1, mN h.2 fun b_31 o_32 h => mw h fun h_33 h => ?_⟩))))))
 refine AWP.seq' ?_
 refine AWP.rgn (F173_r4 E0 x0 h_33 _) ?_ (Ru 0 Rn) (Sc rfl Sn) Sn
 refine mN h fun b_34 o_35 h => mV h fun v_36 h => mI h fun i_37 h => ?_
 refine AWP.ret ?_
 exact h
end
-- 172 slices.nextPowerOfTwo
section
variable (e : Env) (x0 : Int) (hp : HP) (K : Env → PV → HP → Prop)
abbrev R172 (p : List Nat) (n : Nat) := RW Try.prog 7 [] (opsAt Try.f172 p) (List.range n)
theorem F172_r0 : R172 [0] 1 e V0 hp K =
    (K (upd e 2 (sV (.int .u64 0))) V0 hp) := by kernel_rfl
theorem F172_r1 : R172 [1, 0] 5 (upd e 0 (sI x0)) V0 hp K =
    (CF Try.prog 129 [(.int .u64 (IntKind.wrap .u64 (x0)))] hp fun u1 h2 => (intV u1 .i64 fun i3 => ((0 ≤ i3) ∧ (K (upd (upd (upd (upd (upd (upd e 0 (sI x0)) 3 (sI x0)) 4 (sV (.int .u64 (IntKind.wrap .u64 (x0))))) 5 (sI i3)) 6 (sV (.int .u64 (IntKind.wrap .u64 (1 * 2 ^ (min (Int.toNat i3) (IntKind.bits .u64))))))) 2 (sV (.int .u64 (IntKind.wrap .u64 (1 * 2 ^ (min (Int.toNat i3) (IntKind.bits .u64))))))) V0 h2)))) := by kernel_rfl
def F172 (x0 : Int) (hp : HP) (K : Value → HP → Prop) : Prop :=
  (CF Try.prog 129 [(.int .u64 (IntKind.wrap .u64 (x0)))] hp fun u_1 h_2 => (intV u_1 .i64 fun i_3 => ((0 ≤ i_3) ∧ (K (.int .u64 (IntKind.wrap .u64 (1 * 2 ^ (min (Int.toNat i_3) (IntKind.bits .u64))))) h_2))))
noncomputable def F172_code : Code := (.seq (.region 0 (opsAt Try.f172 [0]) false) (.seq (.region 1 (opsAt Try.f172 [1, 0]) false) .ret))
theorem F172_body : Try.f172.body = some F172_code := by kernel_rfl
theorem F172_ok (x0 : Int) (hp : HP) (K : Value → HP → Prop) (h : F172 x0 hp K) : CF Try.prog 172 [(.int .i64 x0)] hp K := by
 refine .inl ⟨by kernel_rfl, AC.intro (N := 7) Try.func172 F172_body rfl (Nat.le_of_ble_eq_true rfl) ?_⟩
 unfold F172 at h
 unfold F172_code
 refine AWP.seq' ?_
 refine AWP.rgn (F172_r0 (upd E0 0 (sI x0))  hp _) ?_ (Ru 0 Rn) (Sc rfl Sn) Sn
 refine AWP.seq' ?_
 refine AWP.rgn (F172_r1 E0 x0 hp _) ?_ (Ru 0 Rn) (Sc rfl Sn) Sn
 refine mC h (fun u_1 h_2 h => mI h (fun i_3 h => ⟨h.1, ?_⟩))
 replace h := h.2
 refine AWP.ret ?_
 exact h
end
-- 129 math/bits.Len
section
variable (e : Env) (x0 : Int) (hp : HP) (K : Env → PV → HP → Prop)
abbrev R129 (p : List Nat) (n : Nat) := RW Try.prog 8 [] (opsAt Try.f129 p) (List.range n)
theorem F129_r0 : R129 [0] 1 e V0 hp K =
    (K (upd e 2 (sI 0)) V0 hp) := by kernel_rfl
theorem F129_r1 : R129 [1, 1, 0] 3 (upd e 0 (sV (.int .u64 x0))) V0 hp K =
    (CF Try.prog 155 [(.int .u64 x0)] hp fun u1 h2 => (intV u1 .i64 fun i3 => (K (upd (upd (upd (upd e 0 (sV (.int .u64 x0))) 6 (sV (.int .u64 x0))) 7 (sI i3)) 2 (sI i3)) V0 h2))) := by kernel_rfl
def F129 (x0 : Int) (hp : HP) (K : Value → HP → Prop) : Prop :=
  (CF Try.prog 155 [(.int .u64 x0)] hp fun u_1 h_2 => (intV u_1 .i64 fun i_3 => (K (.int .i64 i_3) h_2)))
noncomputable def F129_code : Code := (.seq (.region 0 (opsAt Try.f129 [0]) false) (.seq (.cond (.const (.bool false)) (.seq (.region 1 (opsAt Try.f129 [1, 0, 0, 0]) false) .ret) .skip) (.seq (.region 2 (opsAt Try.f129 [1, 1, 0]) false) .ret)))
theorem F129_body : Try.f129.body = some F129_code := by kernel_rfl
theorem F129_ok (x0 : Int) (hp : HP) (K : Value → HP → Prop) (h : F129 x0 hp K) : CF Try.prog 129 [(.int .u64 x0)] hp K := by
 refine .inl ⟨by kernel_rfl, AC.intro (N := 8) Try.func129 F129_body rfl (Nat.le_of_ble_eq_true rfl) ?_⟩
 unfold F129 at h
 unfold F129_code
 refine AWP.seq' ?_
 refine AWP.rgn (F129_r0 (upd E0 0 (sV (.int .u64 x0)))  hp _) ?_ (Ru 0 Rn) (Sc rfl Sn) Sn
 refine AWP.seq' ?_
 refine AWP.condK ?_
 refine AWP.skip ?_
 refine AWP.seq' ?_
 refine AWP.rgn (F129_r1 E0 x0 hp _) ?_ (Ru 0 Rn) (Sc rfl Sn) Sn
 refine mC h fun u_1 h_2 h => mI h fun i_3 h => ?_
 refine AWP.ret ?_
 exact h
end
-- 155 math/bits.Len64
section
variable (e : Env) (x0 x2 : Int) (hp : HP) (K : Env → PV → HP → Prop)
abbrev R155 (p : List Nat) (n : Nat) := RW Try.prog 25 [] (opsAt Try.f155 p) (List.range n)
theorem F155_r0 : R155 [0] 1 e V0 hp K =
    (K (upd e 2 (sI 0)) V0 hp) := by kernel_rfl
theorem F155_r1 : R155 [1, 1, 1, 1, 0] 7 (upd (upd e 2 (sI x2)) 0 (sV (.int .u64 x0))) V0 hp K =
    ((0 ≤ ((IntKind.wrap .u8 (x0)) : Int)) ∧ (((IntKind.wrap .u8 (x0)) : Int) < (ByteArray.size (⟨#[0, 1, 2, 2, 3, 3, 3, 3, 4, 4, 4, 4, 4, 4, 4, 4, 5, 5, 5, 5, 5, 5, 5, 5, 5, 5, 5, 5, 5, 5, 5, 5, 6, 6, 6, 6, 6, 6, 6, 6, 6, 6, 6, 6, 6, 6, 6, 6, 6, 6, 6, 6, 6, 6, 6, 6, 6, 6, 6, 6, 6, 6, 6, 6, 7, 7, 7, 7, 7, 7, 7, 7, 7, 7, 7, 7, 7, 7, 7, 7, 7, 7, 7, 7, 7, 7, 7, 7, 7, 7, 7, 7, 7, 7, 7, 7, 7, 7, 7, 7, 7, 7, 7, 7, 7, 7, 7, 7, 7, 7, 7, 7, 7, 7, 7, 7, 7, 7, 7, 7, 7, 7, 7, 7, 7, 7, 7, 7, 8, 8, 8, 8, 8, 8, 8, 8, 8, 8, 8, 8, 8, 8, 8, 8, 8, 8, 8, 8, 8, 8, 8, 8, 8, 8, 8, 8, 8, 8, 8, 8, 8, 8, 8, 8, 8, 8, 8, 8, 8, 8, 8, 8, 8, 8, 8, 8, 8, 8, 8, 8, 8, 8, 8, 8, 8, 8, 8, 8, 8, 8, 8, 8, 8, 8, 8, 8, 8, 8, 8, 8, 8, 8, 8, 8, 8, 8, 8, 8, 8, 8, 8, 8, 8, 8, 8, 8, 8, 8, 8, 8, 8, 8, 8, 8, 8, 8, 8, 8, 8, 8, 8, 8, 8, 8, 8, 8, 8, 8, 8, 8, 8, 8, 8, 8, 8, 8, 8, 8, 8, 8, 8, 8, 8, 8, 8, 8]⟩ : ByteArray) : Nat)) ∧ (K (upd (upd (upd (upd (upd (upd (upd (upd (upd e 2 (sI x2)) 0 (sV (.int .u64 x0))) 19 (sI x2)) 20 (sV (.int .u64 x0))) 21 (sV (.int .u8 (IntKind.wrap .u8 (x0))))) 22 (sV (.int .u8 (bt (⟨#[0, 1, 2, 2, 3, 3, 3, 3, 4, 4, 4, 4, 4, 4, 4, 4, 5, 5, 5, 5, 5, 5, 5, 5, 5, 5, 5, 5, 5, 5, 5, 5, 6, 6, 6, 6, 6, 6, 6, 6, 6, 6, 6, 6, 6, 6, 6, 6, 6, 6, 6, 6, 6, 6, 6, 6, 6, 6, 6, 6, 6, 6, 6, 6, 7, 7, 7, 7, 7, 7, 7, 7, 7, 7, 7, 7, 7, 7, 7, 7, 7, 7, 7, 7, 7, 7, 7, 7, 7, 7, 7, 7, 7, 7, 7, 7, 7, 7, 7, 7, 7, 7, 7, 7, 7, 7, 7, 7, 7, 7, 7, 7, 7, 7, 7, 7, 7, 7, 7, 7, 7, 7, 7, 7, 7, 7, 7, 7, 8, 8, 8, 8, 8, 8, 8, 8, 8, 8, 8, 8, 8, 8, 8, 8, 8, 8, 8, 8, 8, 8, 8, 8, 8, 8, 8, 8, 8, 8, 8, 8, 8, 8, 8, 8, 8, 8, 8, 8, 8, 8, 8, 8, 8, 8, 8, 8, 8, 8, 8, 8, 8, 8, 8, 8, 8, 8, 8, 8, 8, 8, 8, 8, 8, 8, 8, 8, 8, 8, 8, 8, 8, 8, 8, 8, 8, 8, 8, 8, 8, 8, 8, 8, 8, 8, 8, 8, 8, 8, 8, 8, 8, 8, 8, 8, 8, 8, 8, 8, 8, 8, 8, 8, 8, 8, 8, 8, 8, 8, 8, 8, 8, 8, 8, 8, 8, 8, 8, 8, 8, 8, 8, 8, 8, 8, 8, 8]⟩ : ByteArray) (IntKind.wrap .u8 (x0)))))) 23 (sI ((wr ((bt (⟨#[0, 1, 2, 2, 3, 3, 3, 3, 4, 4, 4, 4, 4, 4, 4, 4, 5, 5, 5, 5, 5, 5, 5, 5, 5, 5, 5, 5, 5, 5, 5, 5, 6, 6, 6, 6, 6, 6, 6, 6, 6, 6, 6, 6, 6, 6, 6, 6, 6, 6, 6, 6, 6, 6, 6, 6, 6, 6, 6, 6, 6, 6, 6, 6, 7, 7, 7, 7, 7, 7, 7, 7, 7, 7, 7, 7, 7, 7, 7, 7, 7, 7, 7, 7, 7, 7, 7, 7, 7, 7, 7, 7, 7, 7, 7, 7, 7, 7, 7, 7, 7, 7, 7, 7, 7, 7, 7, 7, 7, 7, 7, 7, 7, 7, 7, 7, 7, 7, 7, 7, 7, 7, 7, 7, 7, 7, 7, 7, 8, 8, 8, 8, 8, 8, 8, 8, 8, 8, 8, 8, 8, 8, 8, 8, 8, 8, 8, 8, 8, 8, 8, 8, 8, 8, 8, 8, 8, 8, 8, 8, 8, 8, 8, 8, 8, 8, 8, 8, 8, 8, 8, 8, 8, 8, 8, 8, 8, 8, 8, 8, 8, 8, 8, 8, 8, 8, 8, 8, 8, 8, 8, 8, 8, 8, 8, 8, 8, 8, 8, 8, 8, 8, 8, 8, 8, 8, 8, 8, 8, 8, 8, 8, 8, 8, 8, 8, 8, 8, 8, 8, 8, 8, 8, 8, 8, 8, 8, 8, 8, 8, 8, 8, 8, 8, 8, 8, 8, 8, 8, 8, 8, 8, 8, 8, 8, 8, 8, 8, 8, 8, 8, 8, 8, 8, 8, 8]⟩ : ByteArray) (IntKind.wrap .u8 (x0)))))))) 24 (sI ((wr (x2 + (wr ((bt (⟨#[0, 1, 2, 2, 3, 3, 3, 3, 4, 4, 4, 4, 4, 4, 4, 4, 5, 5, 5, 5, 5, 5, 5, 5, 5, 5, 5, 5, 5, 5, 5, 5, 6, 6, 6, 6, 6, 6, 6, 6, 6, 6, 6, 6, 6, 6, 6, 6, 6, 6, 6, 6, 6, 6, 6, 6, 6, 6, 6, 6, 6, 6, 6, 6, 7, 7, 7, 7, 7, 7, 7, 7, 7, 7, 7, 7, 7, 7, 7, 7, 7, 7, 7, 7, 7, 7, 7, 7, 7, 7, 7, 7, 7, 7, 7, 7, 7, 7, 7, 7, 7, 7, 7, 7, 7, 7, 7, 7, 7, 7, 7, 7, 7, 7, 7, 7, 7, 7, 7, 7, 7, 7, 7, 7, 7, 7, 7, 7, 8, 8, 8, 8, 8, 8, 8, 8, 8, 8, 8, 8, 8, 8, 8, 8, 8, 8, 8, 8, 8, 8, 8, 8, 8, 8, 8, 8, 8, 8, 8, 8, 8, 8, 8, 8, 8, 8, 8, 8, 8, 8, 8, 8, 8, 8, 8, 8, 8, 8, 8, 8, 8, 8, 8, 8, 8, 8, 8, 8, 8, 8, 8, 8, 8, 8, 8, 8, 8, 8, 8, 8, 8, 8, 8, 8, 8, 8, 8, 8, 8, 8, 8, 8, 8, 8, 8, 8, 8, 8, 8, 8, 8, 8, 8, 8, 8, 8, 8, 8, 8, 8, 8, 8, 8, 8, 8, 8, 8, 8, 8, 8, 8, 8, 8, 8, 8, 8, 8, 8, 8, 8, 8, 8, 8, 8, 8, 8]⟩ : ByteArray) (IntKind.wrap .u8 (x0)))))))))) 2 (sI ((wr (x2 + (wr ((bt (⟨#[0, 1, 2, 2, 3, 3, 3, 3, 4, 4, 4, 4, 4, 4, 4, 4, 5, 5, 5, 5, 5, 5, 5, 5, 5, 5, 5, 5, 5, 5, 5, 5, 6, 6, 6, 6, 6, 6, 6, 6, 6, 6, 6, 6, 6, 6, 6, 6, 6, 6, 6, 6, 6, 6, 6, 6, 6, 6, 6, 6, 6, 6, 6, 6, 7, 7, 7, 7, 7, 7, 7, 7, 7, 7, 7, 7, 7, 7, 7, 7, 7, 7, 7, 7, 7, 7, 7, 7, 7, 7, 7, 7, 7, 7, 7, 7, 7, 7, 7, 7, 7, 7, 7, 7, 7, 7, 7, 7, 7, 7, 7, 7, 7, 7, 7, 7, 7, 7, 7, 7, 7, 7, 7, 7, 7, 7, 7, 7, 8, 8, 8, 8, 8, 8, 8, 8, 8, 8, 8, 8, 8, 8, 8, 8, 8, 8, 8, 8, 8, 8, 8, 8, 8, 8, 8, 8, 8, 8, 8, 8, 8, 8, 8, 8, 8, 8, 8, 8, 8, 8, 8, 8, 8, 8, 8, 8, 8, 8, 8, 8, 8, 8, 8, 8, 8, 8, 8, 8, 8, 8, 8, 8, 8, 8, 8, 8, 8, 8, 8, 8, 8, 8, 8, 8, 8, 8, 8, 8, 8, 8, 8, 8, 8, 8, 8, 8, 8, 8, 8, 8, 8, 8, 8, 8, 8, 8, 8, 8, 8, 8, 8, 8, 8, 8, 8, 8, 8, 8, 8, 8, 8, 8, 8, 8, 8, 8, 8, 8, 8, 8, 8, 8, 8, 8, 8, 8]⟩ : ByteArray) (IntKind.wrap .u8 (x0)))))))))) V0 hp)) := by kernel_rfl
def F155_j3 (x0 : Int) (x2 : Int) (hp : HP) (K : Value → HP → Prop) : Prop :=
  ((0 ≤ ((IntKind.wrap .u8 (x0)) : Int)) ∧ (((IntKind.wrap .u8 (x0)) : Int) < (ByteArray.size (⟨#[0, 1, 2, 2, 3, 3, 3, 3, 4, 4, 4, 4, 4, 4, 4, 4, 5, 5, 5, 5, 5, 5, 5, 5, 5, 5, 5, 5, 5, 5, 5, 5, 6, 6, 6, 6, 6, 6, 6, 6, 6, 6, 6, 6, 6, 6, 6, 6, 6, 6, 6, 6, 6, 6, 6, 6, 6, 6, 6, 6, 6, 6, 6, 6, 7, 7, 7, 7, 7, 7, 7, 7, 7, 7, 7, 7, 7, 7, 7, 7, 7, 7, 7, 7, 7, 7, 7, 7, 7, 7, 7, 7, 7, 7, 7, 7, 7, 7, 7, 7, 7, 7, 7, 7, 7, 7, 7, 7, 7, 7, 7, 7, 7, 7, 7, 7, 7, 7, 7, 7, 7, 7, 7, 7, 7, 7, 7, 7, 8, 8, 8, 8, 8, 8, 8, 8, 8, 8, 8, 8, 8, 8, 8, 8, 8, 8, 8, 8, 8, 8, 8, 8, 8, 8, 8, 8, 8, 8, 8, 8, 8, 8, 8, 8, 8, 8, 8, 8, 8, 8, 8, 8, 8, 8, 8, 8, 8, 8, 8, 8, 8, 8, 8, 8, 8, 8, 8, 8, 8, 8, 8, 8, 8, 8, 8, 8, 8, 8, 8, 8, 8, 8, 8, 8, 8, 8, 8, 8, 8, 8, 8, 8, 8, 8, 8, 8, 8, 8, 8, 8, 8, 8, 8, 8, 8, 8, 8, 8, 8, 8, 8, 8, 8, 8, 8, 8, 8, 8, 8, 8, 8, 8, 8, 8, 8, 8, 8, 8, 8, 8, 8, 8, 8, 8, 8, 8]⟩ : ByteArray) : Nat)) ∧ (K (.int .i64 (IntKind.wrap .i64 (x2 + (IntKind.wrap .i64 ((bt (⟨#[0, 1, 2, 2, 3, 3, 3, 3, 4, 4, 4, 4, 4, 4, 4, 4, 5, 5, 5, 5, 5, 5, 5, 5, 5, 5, 5, 5, 5, 5, 5, 5, 6, 6, 6, 6, 6, 6, 6, 6, 6, 6, 6, 6, 6, 6, 6, 6, 6, 6, 6, 6, 6, 6, 6, 6, 6, 6, 6, 6, 6, 6, 6, 6, 7, 7, 7, 7, 7, 7, 7, 7, 7, 7, 7, 7, 7, 7, 7, 7, 7, 7, 7, 7, 7, 7, 7, 7, 7, 7, 7, 7, 7, 7, 7, 7, 7, 7, 7, 7, 7, 7, 7, 7, 7, 7, 7, 7, 7, 7, 7, 7, 7, 7, 7, 7, 7, 7, 7, 7, 7, 7, 7, 7, 7, 7, 7, 7, 8, 8, 8, 8, 8, 8, 8, 8, 8, 8, 8, 8, 8, 8, 8, 8, 8, 8, 8, 8, 8, 8, 8, 8, 8, 8, 8, 8, 8, 8, 8, 8, 8, 8, 8, 8, 8, 8, 8, 8, 8, 8, 8, 8, 8, 8, 8, 8, 8, 8, 8, 8, 8, 8, 8, 8, 8, 8, 8, 8, 8, 8, 8, 8, 8, 8, 8, 8, 8, 8, 8, 8, 8, 8, 8, 8, 8, 8, 8, 8, 8, 8, 8, 8, 8, 8, 8, 8, 8, 8, 8, 8, 8, 8, 8, 8, 8, 8, 8, 8, 8, 8, 8, 8, 8, 8, 8, 8, 8, 8, 8, 8, 8, 8, 8, 8, 8, 8, 8, 8, 8, 8, 8, 8, 8, 8, 8, 8]⟩ : ByteArray) (IntKind.wrap .u8 (x0)))))))) hp))
theorem F155_r2 : R155 [1, 1, 1, 0, 0] 2 (upd e 0 (sV (.int .u64 x0))) V0 hp K =
    (K (upd (upd (upd e 0 (sV (.int .u64 x0))) 13 (sV (.int .u64 x0))) 14 (sB (decide (x0 ≥ 256)))) V0 hp) := by kernel_rfl
theorem F155_r3 : R155 [1, 1, 1, 0, 1, 0, 0] 3 (upd e 0 (sV (.int .u64 x0))) V0 hp K =
    ((0 ≤ (8 : Int)) ∧ (K (upd (upd (upd (upd e 0 (sV (.int .u64 x0))) 15 (sV (.int .u64 x0))) 16 (sV (.int .u64 (Int.fdiv x0 (2 ^ (min (Int.toNat 8) (IntKind.bits .u64))))))) 0 (sV (.int .u64 (Int.fdiv x0 (2 ^ (min (Int.toNat 8) (IntKind.bits .u64))))))) V0 hp)) := by kernel_rfl
theorem F155_r4 : R155 [1, 1, 1, 0, 1, 0, 1] 3 (upd e 2 (sI x2)) V0 hp K =
    (K (upd (upd (upd (upd e 2 (sI x2)) 17 (sI x2)) 18 (sI ((wr (x2 + 8))))) 2 (sI ((wr (x2 + 8))))) V0 hp) := by kernel_rfl
def F155_j2 (x0 : Int) (x2 : Int) (hp : HP) (K : Value → HP → Prop) : Prop :=
  (ite2 (decide (x0 ≥ 256)) ((0 ≤ (8 : Int)) ∧ (F155_j3 (Int.fdiv x0 (2 ^ (min (Int.toNat 8) (IntKind.bits .u64)))) (IntKind.wrap .i64 (x2 + 8)) hp  K)) (F155_j3 x0 x2 hp  K))
theorem F155_r5 : R155 [1, 1, 0, 0] 2 (upd e 0 (sV (.int .u64 x0))) V0 hp K =
    (K (upd (upd (upd e 0 (sV (.int .u64 x0))) 7 (sV (.int .u64 x0))) 8 (sB (decide (x0 ≥ 65536)))) V0 hp) := by kernel_rfl
theorem F155_r6 : R155 [1, 1, 0, 1, 0, 0] 3 (upd e 0 (sV (.int .u64 x0))) V0 hp K =
    ((0 ≤ (16 : Int)) ∧ (K (upd (upd (upd (upd e 0 (sV (.int .u64 x0))) 9 (sV (.int .u64 x0))) 10 (sV (.int .u64 (Int.fdiv x0 (2 ^ (min (Int.toNat 16) (IntKind.bits .u64))))))) 0 (sV (.int .u64 (Int.fdiv x0 (2 ^ (min (Int.toNat 16) (IntKind.bits .u64))))))) V0 hp)) := by kernel_rfl
theorem F155_r7 : R155 [1, 1, 0, 1, 0, 1] 3 (upd e 2 (sI x2)) V0 hp K =
    (K (upd (upd (upd (upd e 2 (sI x2)) 11 (sI x2)) 12 (sI ((wr (x2 + 16))))) 2 (sI ((wr (x2 + 16))))) V0 hp) := by kernel_rfl
def F155_j1 (x0 : Int) (x2 : Int) (hp : HP) (K : Value → HP → Prop) : Prop :=
  (ite2 (decide (x0 ≥ 65536)) ((0 ≤ (16 : Int)) ∧ (F155_j2 (Int.fdiv x0 (2 ^ (min (Int.toNat 16) (IntKind.bits .u64)))) (IntKind.wrap .i64 (x2 + 16)) hp  K)) (F155_j2 x0 x2 hp  K))
theorem F155_r8 : R155 [1, 0, 0] 2 (upd e 0 (sV (.int .u64 x0))) V0 hp K =
    (K (upd (upd (upd e 0 (sV (.int .u64 x0))) 3 (sV (.int .u64 x0))) 4 (sB (decide (x0 ≥ 4294967296)))) V0 hp) := by kernel_rfl
theorem F155_r9 : R155 [1, 0, 1, 0, 0] 3 (upd e 0 (sV (.int .u64 x0))) V0 hp K =
    ((0 ≤ (32 : Int)) ∧ (K (upd (upd (upd (upd e 0 (sV (.int .u64 x0))) 5 (sV (.int .u64 x0))) 6 (sV (.int .u64 (Int.fdiv x0 (2 ^ (min (Int.toNat 32) (IntKind.bits .u64))))))) 0 (sV (.int .u64 (Int.fdiv x0 (2 ^ (min (Int.toNat 32) (IntKind.bits .u64))))))) V0 hp)) := by kernel_rfl
theorem F155_r10 : R155 [1, 0, 1, 0, 1] 1 e V0 hp K =
    (K (upd e 2 (sI 32)) V0 hp) := by kernel_rfl
def F155 (x0 : Int) (hp : HP) (K : Value → HP → Prop) : Prop :=
  (ite2 (decide (x0 ≥ 4294967296)) ((0 ≤ (32 : Int)) ∧ (F155_j1 (Int.fdiv x0 (2 ^ (min (Int.toNat 32) (IntKind.bits .u64)))) 32 hp  K)) (F155_j1 x0 0 hp  K))
noncomputable def F155_code : Code := (.seq (.region 0 (opsAt Try.f155 [0]) false) (.seq (.seq (.region 1 (opsAt Try.f155 [1, 0, 0]) false) (.cond (.tmp 4) (.seq (.region 2 (opsAt Try.f155 [1, 0, 1, 0, 0]) false) (.region 3 (opsAt Try.f155 [1, 0, 1, 0, 1]) false)) .skip)) (.seq (.seq (.region 4 (opsAt Try.f155 [1, 1, 0, 0]) false) (.cond (.tmp 8) (.seq (.region 5 (opsAt Try.f155 [1, 1, 0, 1, 0, 0]) false) (.region 6 (opsAt Try.f155 [1, 1, 0, 1, 0, 1]) false)) .skip)) (.seq (.seq (.region 7 (opsAt Try.f155 [1, 1, 1, 0, 0]) false) (.cond (.tmp 14) (.seq (.region 8 (opsAt Try.f155 [1, 1, 1, 0, 1, 0, 0]) false) (.region 9 (opsAt Try.f155 [1, 1, 1, 0, 1, 0, 1]) false)) .skip)) (.seq (.region 10 (opsAt Try.f155 [1, 1, 1, 1, 0]) false) .ret)))))
theorem F155_body : Try.f155.body = some F155_code := by kernel_rfl
theorem F155_ok (x0 : Int) (hp : HP) (K : Value → HP → Prop) (h : F155 x0 hp K) : CF Try.prog 155 [(.int .u64 x0)] hp K := by
 refine .inl ⟨by kernel_rfl, AC.intro (N := 25) Try.func155 F155_body rfl (Nat.le_of_ble_eq_true rfl) ?_⟩
 unfold F155 at h
 unfold F155_code
 refine AWP.seq' ?_
 refine AWP.rgn (F155_r0 (upd E0 0 (sV (.int .u64 x0)))  hp _) ?_ (Ru 0 Rn) (Sc rfl Sn) Sn
 refine AWP.seq (fun env pv hp => ∃ (x0 : Int) (x2 : Int), Sub (upd (upd E0 2 (sI x2)) 0 (sV (.int .u64 x0))) env ∧ Sub V0 pv ∧ (F155_j1 x0 x2 hp  K)) ?_ ?_
 ·refine AWP.seq' ?_
  refine AWP.rgn (F155_r8 (upd E0 2 (sI 0)) x0 hp _) ?_ (Ru 0 (Ru 2 Rn)) (Sc rfl (Sc rfl Sn)) Sn
  refine AWP.cond (t := (decide (x0 ≥ 4294967296))) rfl (fun e => ?_) (fun e => ?_)
  ·replace h := ite2_t h e
   refine AWP.seq' ?_
   refine AWP.rgn (F155_r9 E0 x0 hp _) ?_ (Ru 0 Rn) (Sc rfl Sn) Sn
   refine ⟨h.1, ?_⟩
   replace h := h.2
   refine AWP.rgn (F155_r10 (upd E0 0 (sV (.int .u64 (Int.fdiv x0 (2 ^ (min (Int.toNat 32) (IntKind.bits .u64)))))))  hp _) ?_ (Ru 0 Rn) (Sc rfl Sn) Sn
   exact ⟨(Int.fdiv x0 (2 ^ (min (Int.toNat 32) (IntKind.bits .u64)))), 32, (Sc rfl (Sc rfl Sn)), Sn, h⟩
  ·replace h := ite2_f h e
   refine AWP.skip ?_
   exact ⟨x0, 0, (Sc rfl (Sc rfl Sn)), Sn, h⟩
 ·rintro env pv hp ⟨x0, x2, he, hv, h⟩
  refine AWP.sub (env' := (upd (upd E0 2 (sI x2)) 0 (sV (.int .u64 x0)))) (pv' := V0) ?_ (Ru 0 (Ru 2 Rn)) he hv (HSub.refl _)
  clear he hv
  unfold F155_j1 at h
  refine AWP.seq (fun env pv hp => ∃ (x0 : Int) (x2 : Int), Sub (upd (upd E0 2 (sI x2)) 0 (sV (.int .u64 x0))) env ∧ Sub V0 pv ∧ (F155_j2 x0 x2 hp  K)) ?_ ?_
  ·refine AWP.seq' ?_
   refine AWP.rgn (F155_r5 (upd E0 2 (sI x2)) x0 hp _) ?_ (Ru 0 (Ru 2 Rn)) (Sc rfl (Sc rfl Sn)) Sn
   refine AWP.cond (t := (decide (x0 ≥ 65536))) rfl (fun e => ?_) (fun e => ?_)
   ·replace h := ite2_t h e
    refine AWP.seq' ?_
    refine AWP.rgn (F155_r6 (upd E0 2 (sI x2)) x0 hp _) ?_ (Ru 0 (Ru 2 Rn)) (Sc rfl (Sc rfl Sn)) Sn
    refine ⟨h.1, ?_⟩
    replace h := h.2
    refine AWP.rgn (F155_r7 (upd E0 0 (sV (.int .u64 (Int.fdiv x0 (2 ^ (min (Int.toNat 16) (IntKind.bits .u64))))))) x2 hp _) ?_ (Ru 2 (Ru 0 Rn)) (Sc rfl (Sc rfl Sn)) Sn
    exact ⟨(Int.fdiv x0 (2 ^ (min (Int.toNat 16) (IntKind.bits .u64)))), (wr (x2 + 16)), (Sc rfl (Sc rfl Sn)), Sn, h⟩
   ·replace h := ite2_f h e
    refine AWP.skip ?_
    exact ⟨x0, x2, (Sc rfl (Sc rfl Sn)), Sn, h⟩
  ·rintro env pv hp ⟨x0, x2, he, hv, h⟩
   refine AWP.sub (env' := (upd (upd E0 2 (sI x2)) 0 (sV (.int .u64 x0)))) (pv' := V0) ?_ (Ru 0 (Ru 2 Rn)) he hv (HSub.refl _)
   clear he hv
   unfold F155_j2 at h
   refine AWP.seq (fun env pv hp => ∃ (x0 : Int) (x2 : Int), Sub (upd (upd E0 2 (sI x2)) 0 (sV (.int .u64 x0))) env ∧ Sub V0 pv ∧ (F155_j3 x0 x2 hp  K)) ?_ ?_
   ·refine AWP.seq' ?_
    refine AWP.rgn (F155_r2 (upd E0 2 (sI x2)) x0 hp _) ?_ (Ru 0 (Ru 2 Rn)) (Sc rfl (Sc rfl Sn)) Sn
    refine AWP.cond (t := (decide (x0 ≥ 256))) rfl (fun e => ?_) (fun e => ?_)
    ·replace h := ite2_t h e
     refine AWP.seq' ?_
     refine AWP.rgn (F155_r3 (upd E0 2 (sI x2)) x0 hp _) ?_ (Ru 0 (Ru 2 Rn)) (Sc rfl (Sc rfl Sn)) Sn
     refine ⟨h.1, ?_⟩
     replace h := h.2
     refine AWP.rgn (F155_r4 (upd E0 0 (sV (.int .u64 (Int.fdiv x0 (2 ^ (min (Int.toNat 8) (IntKind.bits .u64))))))) x2 hp _) ?_ (Ru 2 (Ru 0 Rn)) (Sc rfl (Sc rfl Sn)) Sn
     exact ⟨(Int.fdiv x0 (2 ^ (min (Int.toNat 8) (IntKind.bits .u64)))), (wr (x2 + 8)), (Sc rfl (Sc rfl Sn)), Sn, h⟩
    ·replace h := ite2_f h e
     refine AWP.skip ?_
     exact ⟨x0, x2, (Sc rfl (Sc rfl Sn)), Sn, h⟩
   ·rintro env pv hp ⟨x0, x2, he, hv, h⟩
    refine AWP.sub (env' := (upd (upd E0 2 (sI x2)) 0 (sV (.int .u64 x0)))) (pv' := V0) ?_ (Ru 0 (Ru 2 Rn)) he hv (HSub.refl _)
    clear he hv
    unfold F155_j3 at h
    refine AWP.seq' ?_
    refine AWP.rgn (F155_r1 E0 x0 x2 hp _) ?_ (Ru 0 (Ru 2 Rn)) (Sc rfl (Sc rfl Sn)) Sn
    refine ⟨h.1, h.2.1, ?_⟩
    replace h := h.2.2
    refine AWP.ret ?_
    exact h
end
end Go.Proofs

set_option linter.unusedVariables false
set_option maxRecDepth 20000
namespace Go.Proofs
open Go Go.HL

def lenTab : ByteArray := ⟨#[0, 1, 2, 2, 3, 3, 3, 3, 4, 4, 4, 4, 4, 4, 4, 4, 5, 5, 5, 5, 5, 5, 5, 5, 5, 5, 5, 5, 5, 5, 5, 5, 6, 6, 6, 6, 6, 6, 6, 6, 6, 6, 6, 6, 6, 6, 6, 6, 6, 6, 6, 6, 6, 6, 6, 6, 6, 6, 6, 6, 6, 6, 6, 6, 7, 7, 7, 7, 7, 7, 7, 7, 7, 7, 7, 7, 7, 7, 7, 7, 7, 7, 7, 7, 7, 7, 7, 7, 7, 7, 7, 7, 7, 7, 7, 7, 7, 7, 7, 7, 7, 7, 7, 7, 7, 7, 7, 7, 7, 7, 7, 7, 7, 7, 7, 7, 7, 7, 7, 7, 7, 7, 7, 7, 7, 7, 7, 7, 8, 8, 8, 8, 8, 8, 8, 8, 8, 8, 8, 8, 8, 8, 8, 8, 8, 8, 8, 8, 8, 8, 8, 8, 8, 8, 8, 8, 8, 8, 8, 8, 8, 8, 8, 8, 8, 8, 8, 8, 8, 8, 8, 8, 8, 8, 8, 8, 8, 8, 8, 8, 8, 8, 8, 8, 8, 8, 8, 8, 8, 8, 8, 8, 8, 8, 8, 8, 8, 8, 8, 8, 8, 8, 8, 8, 8, 8, 8, 8, 8, 8, 8, 8, 8, 8, 8, 8, 8, 8, 8, 8, 8, 8, 8, 8, 8, 8, 8, 8, 8, 8, 8, 8, 8, 8, 8, 8, 8, 8, 8, 8, 8, 8, 8, 8, 8, 8, 8, 8, 8, 8, 8, 8, 8, 8, 8, 8]⟩
theorem len_tab : ∀ y : Fin 256, bt lenTab (y.val : Int) = (Sort.bitsLen y.val : Nat) := by decide +kernel
theorem lenTab_size : lenTab.size = 256 := by kernel_rfl

theorem C155 {n : Nat} {hp : HP} {K : Value → HP → Prop} (hn : n ≤ 65535) (h : ∀ L : Nat, L ≤ 16 → n < 2 ^ L → (0 < n → 2 ^ L ≤ 2 * n) → K (.int .i64 L) hp) : CF Try.prog 155 [.int .u64 n] hp K := by
  refine F155_ok n hp K ?_
  have tail : ∀ (y o : Nat), y < 256 → o ≤ 8 → n < 2 ^ (o + Sort.bitsLen y) → (0 < n → 2 ^ (o + Sort.bitsLen y) ≤ 2 * n) → F155_j3 y o hp K := by
    intro y o hy ho h1 h2
    unfold F155_j3
    change (0 ≤ (IntKind.wrap .u8 (y : Int))) ∧ ((IntKind.wrap .u8 (y : Int)) < (ByteArray.size lenTab : Nat)) ∧ K (Value.int .i64 (IntKind.wrap .i64 ((o : Int) + IntKind.wrap .i64 (bt lenTab (IntKind.wrap .u8 (y : Int)))))) hp
    rw [wu8 (by omega) (by omega), lenTab_size]
    have := len_tab ⟨y, hy⟩
    simp only at this
    rw [this]
    have hb : Sort.bitsLen y ≤ 8 := (Sort.bitsLen_le_iff y 8).2 (by omega)
    rw [w64 (n := ((Sort.bitsLen y : Nat) : Int)) (by omega) (by omega), w64 (by omega) (by omega)]
    refine ⟨by omega, by omega, ?_⟩
    have e : (o : Int) + (Sort.bitsLen y : Nat) = ((o + Sort.bitsLen y : Nat) : Int) := by omega
    rw [e]
    exact h _ (by omega) h1 h2
  unfold F155
  rw [decide_eq_false (by omega : ¬ (n : Int) ≥ 4294967296), ite2_false]
  unfold F155_j1
  rw [decide_eq_false (by omega : ¬ (n : Int) ≥ 65536), ite2_false]
  unfold F155_j2
  by_cases h8 : n ≥ 256
  · rw [decide_eq_true (by omega : (n : Int) ≥ 256), ite2_true]
    refine ⟨by omega, ?_⟩
    have e1 : Int.fdiv (n : Int) (2 ^ (min (Int.toNat 8) (IntKind.bits .u64))) = ((n / 256 : Nat) : Int) := by
      show Int.fdiv (n : Int) 256 = _
      rw [Int.fdiv_eq_ediv_of_nonneg _ (by omega)]; omega
    have e2 : IntKind.wrap .i64 ((0 : Int) + 8) = ((8 : Nat) : Int) := by rw [w64 (by omega) (by omega)]; rfl
    rw [e1, e2]
    have ha := Sort.lt_two_pow_bitsLen (n / 256)
    have hb := Sort.two_pow_bitsLen_le (n := n / 256) (by omega)
    have hp : 2 ^ (8 + Sort.bitsLen (n / 256)) = 256 * 2 ^ Sort.bitsLen (n / 256) := by rw [Nat.pow_add]
    refine tail _ 8 (by omega) (by omega) (by rw [hp]; omega) (fun _ => by rw [hp]; omega)
  · rw [decide_eq_false (by omega : ¬ (n : Int) ≥ 256), ite2_false]
    refine tail n 0 (by omega) (by omega) ?_ ?_
    · rw [Nat.zero_add]; exact Sort.lt_two_pow_bitsLen n
    · intro h0; rw [Nat.zero_add]; exact Sort.two_pow_bitsLen_le h0

theorem C129 {n : Nat} {hp : HP} {K : Value → HP → Prop} (hn : n ≤ 65535) (h : ∀ L : Nat, L ≤ 16 → n < 2 ^ L → (0 < n → 2 ^ L ≤ 2 * n) → K (.int .i64 L) hp) : CF Try.prog 129 [.int .u64 n] hp K := by
  refine F129_ok n hp K ?_
  unfold F129
  refine C155 hn fun L h1 h2 h3 => ?_
  rw [intV_int]
  exact h L h1 h2 h3

theorem C172 {n : Nat} {hp : HP} {K : Value → HP → Prop} (hn : n ≤ 65535) (h : ∀ L : Nat, L ≤ 16 → n < 2 ^ L → (0 < n → 2 ^ L ≤ 2 * n) → K (.int .u64 ((2 ^ L : Nat) : Int)) hp) : CF Try.prog 172 [.int .i64 n] hp K := by
  refine F172_ok n hp K ?_
  unfold F172
  rw [wu64 (by omega) (by omega)]
  refine C129 hn fun L h1 h2 h3 => ?_
  rw [intV_int]
  refine ⟨by omega, ?_⟩
  have e : min (Int.toNat (L : Int)) (IntKind.bits .u64) = L := by
    show min (Int.toNat (L : Int)) 64 = L
    rw [Int.toNat_natCast]; omega
  have hle : 2 ^ L ≤ 2 ^ 16 := Nat.pow_le_pow_right (by omega) h1
  rw [e]
  have e2 : (1 : Int) * 2 ^ L = ((2 ^ L : Nat) : Int) := by rw [Int.one_mul]; simp
  rw [e2, wu64 (by omega) (by omega)]
  exact h L h1 h2 h3

theorem C173 {r : Nat} {y : Int} {hp : HP} {K : Value → HP → Prop} (hr : hp r = .cells 236 [.int .u64 y] 0) (h : ∀ z : Int, K (.int .u64 z) (hp.set r (.cells 236 [.int .u64 z] 0))) : CF Try.prog 173 [.pointer (some ⟨r, 0, none⟩)] hp K := by
  refine F173_ok _ hp K ?_
  unfold F173
  have hc : ∀ o, hp.cell r o = [Value.int .u64 y][o]? := fun o => HP.cell_of hr
  simp only [ptrN_some, hc, List.getElem?_cons_zero, ldV_some, intV_int]
  refine ⟨by omega, ?_⟩
  refine HP.st_at hr (by simp) ?_
  simp only [List.set_cons_zero]
  generalize bxor .u64 y _ = y2
  have hr2 : (hp.set r (.cells 236 [.int .u64 y2] 0)) r = .cells 236 [.int .u64 y2] 0 := HP.set_eq ..
  have hc2 : ∀ o, (hp.set r (.cells 236 [.int .u64 y2] 0)).cell r o = [Value.int .u64 y2][o]? := fun o => HP.cell_of hr2
  simp only [hc2, List.getElem?_cons_zero, ldV_some, intV_int]
  refine ⟨by omega, ?_⟩
  refine HP.st_at hr2 (by simp) ?_
  simp only [List.set_cons_zero, HP.set_set]
  generalize bxor .u64 y2 _ = y3
  have hr3 : (hp.set r (.cells 236 [.int .u64 y3] 0)) r = .cells 236 [.int .u64 y3] 0 := HP.set_eq ..
  have hc3 : ∀ o, (hp.set r (.cells 236 [.int .u64 y3] 0)).cell r o = [Value.int .u64 y3][o]? := fun o => HP.cell_of hr3
  simp only [hc3, List.getElem?_cons_zero, ldV_some, intV_int]
  refine ⟨by omega, ?_⟩
  refine HP.st_at hr3 (by simp) ?_
  simp only [List.set_cons_zero, HP.set_set]
  generalize bxor .u64 y3 _ = y4
  have hr4 : (hp.set r (.cells 236 [.int .u64 y4] 0)) r = .cells 236 [.int .u64 y4] 0 := HP.set_eq ..
  have hc4 : ∀ o, (hp.set r (.cells 236 [.int .u64 y4] 0)).cell r o = [Value.int .u64 y4][o]? := fun o => HP.cell_of hr4
  simp only [hc4, List.getElem?_cons_zero, ldV_some, intV_int]
  exact h y4

end Go.Proofs

set_option linter.unusedVariables false
set_option maxRecDepth 20000
namespace Go.Proofs
open Go Go.HL

section
variable {f : FuncId} {ga gb : List Value} {hp0 : HP} {b sp n c : Nat} {cf : (Q × Int) → (Q × Int) → Int}

theorem S158 {v : Value} {d : Array (Q × Int)} {lo hi : Nat} {K : Value → HP → Prop} (hs : d.size = n) (hlo : lo ≤ hi) (hf : hi ≤ n) (hn : n ≤ 65535)
    (h : ∀ d', Sort.PermIn lo hi d d' → K (.tuple ⟨[]⟩) (HA hp0 b 75 sp t4 d')) :
    CF Try.prog 158 [.slice (some ⟨b, 0, none⟩) n c, .int .i64 lo, .int .i64 hi, v] (HA hp0 b 75 sp t4 d) K := by
  refine CF.drop (F158_ok _ n c lo hi _ _ _ ?_)
  unfold F158
  have w1 : IntKind.wrap .i64 ((hi : Int) - (lo : Int)) = ((hi - lo : Nat) : Int) := wi (by omega) (by omega)
  rw [w1]
  by_cases h8 : hi - lo ≥ 8
  · rw [decide_eq_true (by omega : ((hi - lo : Nat) : Int) ≥ 8), ite2_true]
    intro r hr
    obtain ⟨hrb, hr0⟩ := HA.ne_of_none hr
    refine HP.st_at (HP.set_eq ..) (by simp) ?_
    simp only [List.set_cons_zero, HP.set_set]
    rw [HA.set_comm hrb]
    refine C172 (n := hi - lo) (by omega) fun L hL1 hL2 hL3 => ?_
    have hL4 := hL3 (by omega)
    have hL5 : 2 ^ L ≤ 2 ^ 16 := Nat.pow_le_pow_right (by omega) hL1
    rw [intV_int]
    refine ⟨by omega, ?_⟩
    have e4 : Int.tdiv ((hi - lo : Nat) : Int) 4 = (((hi - lo) / 4 : Nat) : Int) := rfl
    generalize hm : hi - lo = m at *
    rw [e4]
    have v1 : IntKind.wrap .i64 ((m / 4 : Nat) : Int) = ((m / 4 : Nat) : Int) := wi rfl (by omega)
    have v2 : IntKind.wrap .i64 (((m / 4 : Nat) : Int) * 2) = ((m / 4 * 2 : Nat) : Int) := wi (by omega) (by omega)
    have v3 : IntKind.wrap .i64 ((lo : Int) + ((m / 4 * 2 : Nat) : Int)) = ((lo + m / 4 * 2 : Nat) : Int) := wi (by omega) (by omega)
    have v4 : IntKind.wrap .i64 (((lo + m / 4 * 2 : Nat) : Int) - 1) = ((lo + m / 4 * 2 - 1 : Nat) : Int) := wi (by omega) (by omega)
    have v5 : IntKind.wrap .i64 (((lo + m / 4 * 2 : Nat) : Int) + 1) = ((lo + m / 4 * 2 + 1 : Nat) : Int) := wi (by omega) (by omega)
    rw [v1, v2, v3, v4]
    unfold F158_j1
    generalize hz0 : IntKind.wrap .u64 (m : Int) = z0
    refine LoopP.by (J := fun k (x : Int) hp => ∃ (i : Nat) (d' : Array (Q × Int)) (z : Int), x = i ∧ hp = HA (hp0.set r (.cells 236 [.int .u64 z] 0)) b 75 sp t4 d' ∧ Sort.PermIn lo hi d d' ∧ lo ≤ i ∧ k = lo + m / 4 * 2 + 2 - i) ?_
      (n := lo + m / 4 * 2 + 2 - (lo + m / 4 * 2 - 1)) ⟨lo + m / 4 * 2 - 1, d, z0, rfl, rfl, Sort.permIn_refl d lo hi, by omega, rfl⟩
    rintro I k x hp ⟨i, d', z, rfl, rfl, hpm, hli, rfl⟩ hI
    unfold F158_l2
    refine ⟨by omega, ?_⟩
    rw [e4, v1, v2, v3, v5]
    by_cases hi' : i ≤ lo + m / 4 * 2 + 1
    · rw [decide_eq_true (by omega : (i : Int) ≤ ((lo + m / 4 * 2 + 1 : Nat) : Int)), ite2_true]
      refine C173 (y := z) (by rw [HA.ne hrb, HP.set_eq]) fun z' => ?_
      rw [HA.set_comm hrb, HP.set_set, intV_int]
      have u1 : IntKind.wrap .u64 (((2 ^ L : Nat) : Int) - 1) = ((2 ^ L - 1 : Nat) : Int) := by rw [wu64 (by omega) (by omega)]; omega
      rw [u1]
      have hbd := band_le (z := z') (m := ((2 ^ L - 1 : Nat) : Int)) (by omega) (by omega)
      generalize band .u64 z' ((2 ^ L - 1 : Nat) : Int) = w at hbd
      obtain ⟨o, rfl⟩ : ∃ o : Nat, w = o := ⟨w.toNat, by omega⟩
      rw [w64 (n := (o : Int)) (by omega) (by omega)]
      have hs' : d'.size = n := by rw [hpm.1]; exact hs
      have step : ∀ o : Nat, o < m → F158_j3 (some ⟨b, 0, none⟩) n c lo m (some ⟨r, 0, none⟩) ((2 ^ L : Nat) : Int) i o (HA (hp0.set r (.cells 236 [.int .u64 z'] 0)) b 75 sp t4 d') I (fun v hp' => ∃ hp'', HSub hp'' hp' ∧ K v hp'') := by
        intro o ho
        unfold F158_j3
        have x1 : IntKind.wrap .i64 ((lo : Int) + (o : Int)) = ((lo + o : Nat) : Int) := wi (by omega) (by omega)
        have x2 : IntKind.wrap .i64 ((i : Int) + 1) = ((i + 1 : Nat) : Int) := wi (by omega) (by omega)
        rw [x1, x2]
        refine swapP t4_len t4_one hs' (i := i) (j := lo + o) rfl rfl (by omega) (by omega) ?_
        exact hI (lo + m / 4 * 2 + 2 - (i + 1)) _ _ (by omega) ⟨i + 1, _, z', rfl, rfl, Sort.permIn_trans _ _ _ _ _ hpm (Sort.swp_permIn d' lo hi i (lo + o) (by omega) (by omega) (by omega) (by omega) (by omega)), by omega, rfl⟩
      by_cases hom : o ≥ m
      · rw [decide_eq_true (by omega : (o : Int) ≥ (m : Int)), ite2_true]
        have x3 : IntKind.wrap .i64 ((o : Int) - (m : Int)) = ((o - m : Nat) : Int) := wi (by omega) (by omega)
        rw [x3]
        exact step (o - m) (by omega)
      · rw [decide_eq_false (by omega : ¬ (o : Int) ≥ (m : Int)), ite2_false]
        exact step o (by omega)
    · rw [decide_eq_false (by omega : ¬ (i : Int) ≤ ((lo + m / 4 * 2 + 1 : Nat) : Int)), ite2_false]
      exact ⟨_, HA.sub (HSub.set_fresh hp0 _ hr0), h d' hpm⟩
  · rw [decide_eq_false (by omega : ¬ ((hi - lo : Nat) : Int) ≥ 8), ite2_false]
    exact ⟨_, HSub.refl _, h d (Sort.permIn_refl d lo hi)⟩

/-- With the counter of swaps beside. -/
theorem S190 (hx : CmpX Try.prog f ga gb hp0 b 75 sp t4 n cf) {d : Array (Q × Int)} {i j r : Nat} {s : Int} {K : Value → HP → Prop} (hs : d.size = n) (hi : i < n) (hj : j < n) (hrb : r ≠ b) (hr0 : hp0 r = .none)
    (h : ∀ (s' : Int) (x y : Nat), (x = i ∧ y = j) ∨ (x = j ∧ y = i) → K (.tuple ⟨[.int .i64 x, .int .i64 y]⟩) (HA (hp0.set r (.cells 3 [.int .i64 s'] 0)) b 75 sp t4 d)) :
    CF Try.prog 190 [.slice (some ⟨b, 0, none⟩) n c, .int .i64 i, .int .i64 j, .pointer (some ⟨r, 0, none⟩), .func (.func f) ⟨ga⟩ ⟨gb⟩] (HA (hp0.set r (.cells 3 [.int .i64 s] 0)) b 75 sp t4 d) K := by
  refine F190_ok _ n c i j _ _ _ K ?_
  unfold F190
  refine cmpP (hx _ (HSub.set_fresh hp0 _ hr0)) t4_len hs (i := j) (j := i) rfl rfl hj hi ?_
  cases decide (cf d[j]! d[i]! < 0)
  · rw [ite2_false]
    exact h s i j (.inl ⟨rfl, rfl⟩)
  · have hc : (HA (hp0.set r (.cells 3 [.int .i64 s] 0)) b 75 sp t4 d) r = .cells 3 [.int .i64 s] 0 := by rw [HA.ne hrb, HP.set_eq]
    rw [ite2_true, ptrN_some, HP.cell_of hc]
    simp only [List.getElem?_cons_zero, ldV_some, intV_int, ptrN_some]
    refine HP.st_at hc (by simp) ?_
    rw [List.set_cons_zero, HA.set_comm hrb, HP.set_set]
    exact h _ j i (.inr ⟨rfl, rfl⟩)

theorem S178 (hx : CmpX Try.prog f ga gb hp0 b 75 sp t4 n cf) {d : Array (Q × Int)} {i j k r : Nat} {s : Int} {K : Value → HP → Prop} (hs : d.size = n) (hi : i < n) (hj : j < n) (hk : k < n) (hrb : r ≠ b) (hr0 : hp0 r = .none)
    (h : ∀ (s' : Int) (x : Nat), x = i ∨ x = j ∨ x = k → K (.int .i64 x) (HA (hp0.set r (.cells 3 [.int .i64 s'] 0)) b 75 sp t4 d)) :
    CF Try.prog 178 [.slice (some ⟨b, 0, none⟩) n c, .int .i64 i, .int .i64 j, .int .i64 k, .pointer (some ⟨r, 0, none⟩), .func (.func f) ⟨ga⟩ ⟨gb⟩] (HA (hp0.set r (.cells 3 [.int .i64 s] 0)) b 75 sp t4 d) K := by
  refine F178_ok _ n c i j k _ _ _ K ?_
  unfold F178
  refine S190 hx hs hi hj hrb hr0 fun s1 a1 b1 h1 => ?_
  simp only [tup2V_mk, intV_int]
  refine S190 hx hs (by omega) hk hrb hr0 fun s2 a2 b2 h2 => ?_
  simp only [tup2V_mk, intV_int]
  refine S190 hx hs (by omega) (by omega) hrb hr0 fun s3 a3 b3 h3 => ?_
  simp only [tup2V_mk, intV_int]
  exact h s3 b3 (by omega)

theorem S177 (hx : CmpX Try.prog f ga gb hp0 b 75 sp t4 n cf) {d : Array (Q × Int)} {i r : Nat} {s : Int} {K : Value → HP → Prop} (hs : d.size = n) (hi0 : 0 < i) (hi : i + 1 < n) (hn : n ≤ 65535) (hrb : r ≠ b) (hr0 : hp0 r = .none)
    (h : ∀ (s' : Int) (x : Nat), i - 1 ≤ x → x ≤ i + 1 → K (.int .i64 x) (HA (hp0.set r (.cells 3 [.int .i64 s'] 0)) b 75 sp t4 d)) :
    CF Try.prog 177 [.slice (some ⟨b, 0, none⟩) n c, .int .i64 i, .pointer (some ⟨r, 0, none⟩), .func (.func f) ⟨ga⟩ ⟨gb⟩] (HA (hp0.set r (.cells 3 [.int .i64 s] 0)) b 75 sp t4 d) K := by
  refine F177_ok _ n c i _ _ _ K ?_
  unfold F177
  have v1 : IntKind.wrap .i64 ((i : Int) - 1) = ((i - 1 : Nat) : Int) := wi (by omega) (by omega)
  have v2 : IntKind.wrap .i64 ((i : Int) + 1) = ((i + 1 : Nat) : Int) := wi (by omega) (by omega)
  rw [v1, v2]
  refine S178 hx hs (by omega) (by omega) (by omega) hrb hr0 fun s1 x h1 => ?_
  rw [intV_int]
  exact h s1 x (by omega) (by omega)

theorem S159 (hx : CmpX Try.prog f ga gb hp0 b 75 sp t4 n cf) {d : Array (Q × Int)} {lo hi : Nat} {K : Value → HP → Prop} (hs : d.size = n) (hlo : lo < hi) (hf : hi ≤ n) (hn : n ≤ 65535)
    (h : ∀ (p : Nat) (w : Int), lo ≤ p → p < hi → K (.tuple ⟨[.int .i64 p, .int .i64 w]⟩) (HA hp0 b 75 sp t4 d)) :
    CF Try.prog 159 [.slice (some ⟨b, 0, none⟩) n c, .int .i64 lo, .int .i64 hi, .func (.func f) ⟨ga⟩ ⟨gb⟩] (HA hp0 b 75 sp t4 d) K := by
  refine CF.drop (F159_ok _ n c lo hi _ _ _ ?_)
  unfold F159
  intro r hr
  obtain ⟨hrb, hr0⟩ := HA.ne_of_none hr
  have w1 : IntKind.wrap .i64 ((hi : Int) - (lo : Int)) = ((hi - lo : Nat) : Int) := wi (by omega) (by omega)
  have e4 : Int.tdiv ((hi - lo : Nat) : Int) 4 = (((hi - lo) / 4 : Nat) : Int) := rfl
  simp only [w1, e4]
  refine ⟨by omega, by omega, by omega, ?_⟩
  clear e4 w1
  rw [HA.set_comm hrb]
  have hmm : hi = lo + (hi - lo) := by omega
  generalize hi - lo = m at *
  subst hmm
  have v0 : IntKind.wrap .i64 ((m / 4 : Nat) : Int) = ((m / 4 : Nat) : Int) := wi rfl (by omega)
  have v1 : IntKind.wrap .i64 (((m / 4 : Nat) : Int) * 1) = ((m / 4 : Nat) : Int) := wi (by omega) (by omega)
  have v2 : IntKind.wrap .i64 (((m / 4 : Nat) : Int) * 2) = ((m / 4 * 2 : Nat) : Int) := wi (by omega) (by omega)
  have v3 : IntKind.wrap .i64 (((m / 4 : Nat) : Int) * 3) = ((m / 4 * 3 : Nat) : Int) := wi (by omega) (by omega)
  have u1 : IntKind.wrap .i64 ((lo : Int) + ((m / 4 : Nat) : Int)) = ((lo + m / 4 : Nat) : Int) := wi (by omega) (by omega)
  have u2 : IntKind.wrap .i64 ((lo : Int) + ((m / 4 * 2 : Nat) : Int)) = ((lo + m / 4 * 2 : Nat) : Int) := wi (by omega) (by omega)
  have u3 : IntKind.wrap .i64 ((lo : Int) + ((m / 4 * 3 : Nat) : Int)) = ((lo + m / 4 * 3 : Nat) : Int) := wi (by omega) (by omega)
  simp only [v0, v1, v2, v3, u1, u2, u3]
  have fin : ∀ (s : Int) (p : Nat), lo ≤ p → p < lo + m → F159_j1 (some ⟨r, 0, none⟩) p (HA (hp0.set r (.cells 3 [.int .i64 s] 0)) b 75 sp t4 d) (fun v hp' => ∃ hp'', HSub hp'' hp' ∧ K v hp'') := by
    intro s p h1 h2
    have hc : (HA (hp0.set r (.cells 3 [.int .i64 s] 0)) b 75 sp t4 d) r = .cells 3 [.int .i64 s] 0 := by rw [HA.ne hrb, HP.set_eq]
    unfold F159_j1
    rw [ptrN_some, HP.cell_of hc]
    simp only [List.getElem?_cons_zero, ldV_some, intV_int]
    have hsub := HA.sub (b := b) (e := 75) (sp := sp) (en := t4) (d := d) (HSub.set_fresh hp0 (.cells 3 [.int .i64 s] 0) hr0)
    cases (s == 0)
    · rw [ite2_false]
      cases (s == 12)
      · rw [ite2_false]; exact ⟨_, hsub, h p 0 h1 h2⟩
      · rw [ite2_true]; exact ⟨_, hsub, h p 2 h1 h2⟩
    · rw [ite2_true]; exact ⟨_, hsub, h p 1 h1 h2⟩
  have fin2 : ∀ (s : Int) (i j k : Nat), lo ≤ i → i < lo + m → lo ≤ j → j < lo + m → lo ≤ k → k < lo + m → F159_j2 (some ⟨b, 0, none⟩) n c (.func (.func f) ⟨ga⟩ ⟨gb⟩) (some ⟨r, 0, none⟩) i j k (HA (hp0.set r (.cells 3 [.int .i64 s] 0)) b 75 sp t4 d) (fun v hp' => ∃ hp'', HSub hp'' hp' ∧ K v hp'') := by
    intro s i j k h1 h2 h3 h4 h5 h6
    unfold F159_j2
    refine S178 hx hs (by omega) (by omega) (by omega) hrb hr0 fun s1 x hx1 => ?_
    rw [intV_int]
    exact fin s1 x (by omega) (by omega)
  by_cases h8 : m ≥ 8
  · rw [decide_eq_true (by omega : (m : Int) ≥ 8), ite2_true]
    by_cases h50 : m ≥ 50
    · rw [decide_eq_true (by omega : (m : Int) ≥ 50), ite2_true]
      refine S177 hx hs (by omega) (by omega) hn hrb hr0 fun s1 x1 a1 b1 => ?_
      rw [intV_int]
      refine S177 hx hs (by omega) (by omega) hn hrb hr0 fun s2 x2 a2 b2 => ?_
      rw [intV_int]
      refine S177 hx hs (by omega) (by omega) hn hrb hr0 fun s3 x3 a3 b3 => ?_
      rw [intV_int]
      exact fin2 s3 x1 x2 x3 (by omega) (by omega) (by omega) (by omega) (by omega) (by omega)
    · rw [decide_eq_false (by omega : ¬ (m : Int) ≥ 50), ite2_false]
      exact fin2 0 _ _ _ (by omega) (by omega) (by omega) (by omega) (by omega) (by omega)
  · rw [decide_eq_false (by omega : ¬ (m : Int) ≥ 8), ite2_false]
    exact fin 0 _ (by omega) (by omega)
end
end Go.Proofs

set_option linter.unusedVariables false
set_option maxRecDepth 20000
namespace Go.Proofs
open Go Go.HL
-- 156 slices.insertionSortCmpFunc[interpreter/api.T4]
section
variable (e : Env) (x0a : Option Addr) (x0n x0c : Nat) (x1 x2 : Int) (x3 : Value) (x8 x9 : Int) (hp : HP) (K : Env → PV → HP → Prop)
abbrev R156 (p : List Nat) (n : Nat) := RW Try.prog 53 [] (opsAt Try.f156 p) (List.range n)
theorem F156_r0 : R156 [1, 0, 0, 0, 0] 3 (upd (upd e 8 (sI x8)) 2 (sI x2)) V0 hp K =
    (K (upd (upd (upd (upd (upd e 8 (sI x8)) 2 (sI x2)) 12 (sI x8)) 13 (sI x2)) 14 (sB (decide (x8 < x2)))) V0 hp) := by kernel_rfl
theorem F156_r1 : R156 [1, 0, 0, 1, 1] 3 (upd e 8 (sI x8)) V0 hp K =
    (K (upd (upd (upd (upd e 8 (sI x8)) 15 (sI x8)) 16 (sI ((wr (x8 + 1))))) 8 (sI ((wr (x8 + 1))))) V0 hp) := by kernel_rfl
def F156_j3 (x0a : Option Addr) (x0n : Nat) (x0c : Nat) (x1 : Int) (x2 : Int) (x3 : Value) (x8 : Int) (hp : HP) (I2 : (Int) → HP → Prop) (K : Value → HP → Prop) : Prop :=
  (I2 (IntKind.wrap .i64 (x8 + 1)) hp)
theorem F156_r2 : R156 [1, 0, 0, 1, 0, 0, 1, 0, 0, 1, 0, 0] 18 (upd (upd e 9 (sI x9)) 0 (sS x0a x0n x0c)) V0 hp K =
    ((0 ≤ ((wr (x9 - 1)) : Int)) ∧ (((wr (x9 - 1)) : Int) < x0n) ∧ (ptrN x0a fun b1 o2 => (ldL (HP.cellN hp b1 (o2 + Int.toNat (wr (x9 - 1)) * 5) 5) fun l3 => ((0 ≤ x9) ∧ (x9 < x0n) ∧ (ptrN x0a fun b4 o5 => (ldL (HP.cellN hp b4 (o5 + Int.toNat x9 * 5) 5) fun l6 => ((0 ≤ x9) ∧ (x9 < x0n) ∧ (ptrN x0a fun b7 o8 => ((List.length l3 = 5) ∧ (HP.stN hp b7 (o8 + Int.toNat x9 * 5) l3 fun h9 => ((0 ≤ ((wr (x9 - 1)) : Int)) ∧ (((wr (x9 - 1)) : Int) < x0n) ∧ (ptrN x0a fun b10 o11 => ((List.length l6 = 5) ∧ (HP.stN h9 b10 (o11 + Int.toNat (wr (x9 - 1)) * 5) l6 fun h12 => (K (upd (upd (upd (upd (upd (upd (upd (upd (upd (upd (upd (upd (upd (upd (upd (upd (upd (upd e 9 (sI x9)) 0 (sS x0a x0n x0c)) 37 (sS x0a x0n x0c)) 38 (sI x9)) 39 (sS x0a x0n x0c)) 40 (sI x9)) 41 (sI ((wr (x9 - 1))))) 42 (sS x0a x0n x0c)) 43 (sI x9)) 44 (sI ((wr (x9 - 1))))) 45 (sV (ptr b1 (o2 + Int.toNat (wr (x9 - 1)) * 5)))) 46 (sA l3)) 47 (sS x0a x0n x0c)) 48 (sI x9)) 49 (sQ b4 (o5 + Int.toNat x9 * 5))) 50 (sA l6)) 51 (sQ b7 (o8 + Int.toNat x9 * 5))) 52 (sV (ptr b10 (o11 + Int.toNat (wr (x9 - 1)) * 5)))) V0 h12))))))))))))))) := by kernel_rfl
theorem F156_r3 : R156 [1, 0, 0, 1, 0, 0, 1, 0, 0, 1, 1] 3 (upd e 9 (sI x9)) V0 hp K =
    (K (upd (upd (upd (upd e 9 (sI x9)) 35 (sI x9)) 36 (sI ((wr (x9 - 1))))) 9 (sI ((wr (x9 - 1))))) V0 hp) := by kernel_rfl
def F156_j6 (x0a : Option Addr) (x0n : Nat) (x0c : Nat) (x1 : Int) (x2 : Int) (x3 : Value) (x8 : Int) (x9 : Int) (x34 : Bool) (hp : HP) (I2 : (Int) → HP → Prop) (I5 : (Int) → HP → Prop) (K : Value → HP → Prop) : Prop :=
  (ite2 x34 ((0 ≤ ((IntKind.wrap .i64 (x9 - 1)) : Int)) ∧ (((IntKind.wrap .i64 (x9 - 1)) : Int) < x0n) ∧ (ptrN x0a fun b_1 o_2 => (ldL (HP.cellN hp b_1 (o_2 + Int.toNat (IntKind.wrap .i64 (x9 - 1)) * 5) 5) fun l_3 => ((0 ≤ x9) ∧ (x9 < x0n) ∧ (ptrN x0a fun b_4 o_5 => (ldL (HP.cellN hp b_4 (o_5 + Int.toNat x9 * 5) 5) fun l_6 => ((0 ≤ x9) ∧ (x9 < x0n) ∧ (ptrN x0a fun b_7 o_8 => ((List.length l_3 = 5) ∧ (HP.stN hp b_7 (o_8 + Int.toNat x9 * 5) l_3 fun h_9 => ((0 ≤ ((IntKind.wrap .i64 (x9 - 1)) : Int)) ∧ (((IntKind.wrap .i64 (x9 - 1)) : Int) < x0n) ∧ (ptrN x0a fun b_10 o_11 => ((List.length l_6 = 5) ∧ (HP.stN h_9 b_10 (o_11 + Int.toNat (IntKind.wrap .i64 (x9 - 1)) * 5) l_6 fun h_12 => (I5 (IntKind.wrap .i64 (x9 - 1)) h_12))))))))))))))) (F156_j3 x0a x0n x0c x1 x2 x3 x8 hp I2 K))
theorem F156_r4 : R156 [1, 0, 0, 1, 0, 0, 1, 0, 0, 0, 0] 17 (upd (upd (upd (upd e 9 (sI x9)) 3 (sV x3)) 1 (sI x1)) 0 (sS x0a x0n x0c)) V0 hp K =
    (ite2 (decide (x9 > x1)) ((0 ≤ x9) ∧ (x9 < x0n) ∧ (ptrN x0a fun b1 o2 => (ldL (HP.cellN hp b1 (o2 + Int.toNat x9 * 5) 5) fun l3 => ((0 ≤ ((wr (x9 - 1)) : Int)) ∧ (((wr (x9 - 1)) : Int) < x0n) ∧ (ptrN x0a fun b4 o5 => (ldL (HP.cellN hp b4 (o5 + Int.toNat (wr (x9 - 1)) * 5) 5) fun l6 => (fnV x3 fun f7 ga8 gb9 => (CF Try.prog f7 (ga8 ++ [(Value.agg ⟨l3⟩), (.agg ⟨l6⟩)] ++ gb9) hp fun u10 h11 => (intV u10 .i64 fun i12 => (K (upd (upd (upd (upd (upd (upd (upd (upd (upd (upd (upd (upd (upd (upd (upd (upd (upd (upd (upd (upd (upd e 9 (sI x9)) 3 (sV x3)) 1 (sI x1)) 0 (sS x0a x0n x0c)) 18 (sI x9)) 19 (sI x1)) 20 (sB (decide (x9 > x1)))) 21 (sB true)) 22 (sV x3)) 23 (sS x0a x0n x0c)) 24 (sI x9)) 25 (sQ b1 (o2 + Int.toNat x9 * 5))) 26 (sA l3)) 27 (sS x0a x0n x0c)) 28 (sI x9)) 29 (sI ((wr (x9 - 1))))) 30 (sV (ptr b4 (o5 + Int.toNat (wr (x9 - 1)) * 5)))) 31 (sA l6)) 32 (sI i12)) 33 (sB (decide (i12 < 0)))) 34 (sB (decide (i12 < 0)))) V0 h11)))))))))) (K (upd (upd (upd (upd (upd (upd (upd (upd (upd (upd (upd (upd (upd (upd (upd (upd (upd (upd (upd (upd (upd e 9 (sI x9)) 3 (sV x3)) 1 (sI x1)) 0 (sS x0a x0n x0c)) 18 (sI x9)) 19 (sI x1)) 20 (sB (decide (x9 > x1)))) 21 (sB false)) 22 sU) 23 sU) 24 sU) 25 sU) 26 sU) 27 sU) 28 sU) 29 sU) 30 sU) 31 sU) 32 sU) 33 sU) 34 (sB false)) V0 hp)) := by kernel_rfl
def F156_l5 (x0a : Option Addr) (x0n : Nat) (x0c : Nat) (x1 : Int) (x2 : Int) (x3 : Value) (x8 : Int) (I2 : (Int) → HP → Prop) (K : Value → HP → Prop) (I5 : (Int) → HP → Prop) (x9 : Int) (hp : HP) : Prop :=
  (ite2 (decide (x9 > x1)) ((0 ≤ x9) ∧ (x9 < x0n) ∧ (ptrN x0a fun b_13 o_14 => (ldL (HP.cellN hp b_13 (o_14 + Int.toNat x9 * 5) 5) fun l_15 => ((0 ≤ ((IntKind.wrap .i64 (x9 - 1)) : Int)) ∧ (((IntKind.wrap .i64 (x9 - 1)) : Int) < x0n) ∧ (ptrN x0a fun b_16 o_17 => (ldL (HP.cellN hp b_16 (o_17 + Int.toNat (IntKind.wrap .i64 (x9 - 1)) * 5) 5) fun l_18 => (fnV x3 fun f_19 ga_20 gb_21 => (CF Try.prog f_19 (ga_20 ++ [(Value.agg ⟨l_15⟩), (.agg ⟨l_18⟩)] ++ gb_21) hp fun u_22 h_23 => (intV u_22 .i64 fun i_24 => (F156_j6 x0a x0n x0c x1 x2 x3 x8 x9 (decide (i_24 < 0)) h_23 I2 I5 K)))))))))) (F156_j6 x0a x0n x0c x1 x2 x3 x8 x9 false hp I2 I5 K))
def F156_j4 (x0a : Option Addr) (x0n : Nat) (x0c : Nat) (x1 : Int) (x2 : Int) (x3 : Value) (x8 : Int) (x9 : Int) (hp : HP) (I2 : (Int) → HP → Prop) (K : Value → HP → Prop) : Prop :=
  (LoopP (σ := Int) (fun I s hp => F156_l5 x0a x0n x0c x1 x2 x3 x8 I2 K I s hp) x9 hp)
theorem F156_r5 : R156 [1, 0, 0, 1, 0, 0, 0] 2 (upd e 8 (sI x8)) V0 hp K =
    (K (upd (upd (upd e 8 (sI x8)) 17 (sI x8)) 9 (sI x8)) V0 hp) := by kernel_rfl
def F156_l2 (x0a : Option Addr) (x0n : Nat) (x0c : Nat) (x1 : Int) (x2 : Int) (x3 : Value) (K : Value → HP → Prop) (I2 : (Int) → HP → Prop) (x8 : Int) (hp : HP) : Prop :=
  (ite2 (decide (x8 < x2)) (F156_j4 x0a x0n x0c x1 x2 x3 x8 x8 hp I2 K) (K (.tuple ⟨[]⟩) hp))
def F156_j1 (x0a : Option Addr) (x0n : Nat) (x0c : Nat) (x1 : Int) (x2 : Int) (x3 : Value) (x8 : Int) (hp : HP) (K : Value → HP → Prop) : Prop :=
  (LoopP (σ := Int) (fun I s hp => F156_l2 x0a x0n x0c x1 x2 x3  K I s hp) x8 hp)
theorem F156_r6 : R156 [0] 3 (upd e 1 (sI x1)) V0 hp K =
    (K (upd (upd (upd (upd e 1 (sI x1)) 10 (sI x1)) 11 (sI ((wr (x1 + 1))))) 8 (sI ((wr (x1 + 1))))) V0 hp) := by kernel_rfl
def F156 (x0a : Option Addr) (x0n : Nat) (x0c : Nat) (x1 : Int) (x2 : Int) (x3 : Value) (hp : HP) (K : Value → HP → Prop) : Prop :=
  (F156_j1 x0a x0n x0c x1 x2 x3 (IntKind.wrap .i64 (x1 + 1)) hp  K)
noncomputable def F156_code : Code := (.seq (.region 0 (opsAt Try.f156 [0]) false) (.block 0 (.loop (.seq (.seq (.region 1 (opsAt Try.f156 [1, 0, 0, 0, 0]) false) (.cond (.tmp 14) .skip (.exit 0))) (.seq (.block 1 (.seq (.region 3 (opsAt Try.f156 [1, 0, 0, 1, 0, 0, 0]) false) (.block 2 (.loop (.seq (.seq (.region 4 (opsAt Try.f156 [1, 0, 0, 1, 0, 0, 1, 0, 0, 0, 0]) true) (.cond (.tmp 34) .skip (.exit 2))) (.seq (.block 3 (.region 6 (opsAt Try.f156 [1, 0, 0, 1, 0, 0, 1, 0, 0, 1, 0, 0]) true)) (.region 5 (opsAt Try.f156 [1, 0, 0, 1, 0, 0, 1, 0, 0, 1, 1]) false))))))) (.region 2 (opsAt Try.f156 [1, 0, 0, 1, 1]) false))))))
theorem F156_body : Try.f156.body = some F156_code := by kernel_rfl
theorem F156_ok (x0a : Option Addr) (x0n : Nat) (x0c : Nat) (x1 : Int) (x2 : Int) (x3 : Value) (hp : HP) (K : Value → HP → Prop) (h : F156 x0a x0n x0c x1 x2 x3 hp K) : CF Try.prog 156 [(.slice x0a x0n x0c), (.int .i64 x1), (.int .i64 x2), x3] hp K := by
 refine .inl ⟨by kernel_rfl, AC.intro (N := 53) Try.func156 F156_body rfl (Nat.le_of_ble_eq_true rfl) ?_⟩
 unfold F156 at h
 unfold F156_code
 refine AWP.seq (fun env pv hp => ∃ (x0a : Option Addr) (x0n : Nat) (x0c : Nat) (x1 : Int) (x2 : Int) (x3 : Value) (x8 : Int), Sub (upd (upd (upd (upd (upd E0 8 (sI x8)) 3 (sV x3)) 2 (sI x2)) 1 (sI x1)) 0 (sS x0a x0n x0c)) env ∧ Sub V0 pv ∧ (F156_j1 x0a x0n x0c x1 x2 x3 x8 hp  K)) ?_ ?_
 ·refine AWP.rgn (F156_r6 (upd (upd (upd E0 3 (sV x3)) 2 (sI x2)) 0 (sS x0a x0n x0c)) x1 hp _) ?_ (Ru 1 (Ru 0 (Ru 2 (Ru 3 Rn)))) (Sc rfl (Sc rfl (Sc rfl (Sc rfl Sn)))) Sn
  exact ⟨x0a, x0n, x0c, x1, x2, x3, (wr (x1 + 1)), (Sc rfl (Sc rfl (Sc rfl (Sc rfl (Sc rfl Sn))))), Sn, h⟩
 ·rintro env pv hp ⟨x0a, x0n, x0c, x1, x2, x3, x8, he, hv, h⟩
  refine AWP.sub (env' := (upd (upd (upd (upd (upd E0 8 (sI x8)) 3 (sV x3)) 2 (sI x2)) 1 (sI x1)) 0 (sS x0a x0n x0c))) (pv' := V0) ?_ (Ru 0 (Ru 1 (Ru 2 (Ru 3 (Ru 8 Rn))))) he hv (HSub.refl _)
  clear he hv
  unfold F156_j1 at h
  refine AWP.block ?_
  refine AWP.loop (σ := Int) (fun I s hp => F156_l2 x0a x0n x0c x1 x2 x3  K I s hp) (fun s => (upd (upd (upd (upd (upd E0 8 (sI s)) 3 (sV x3)) 2 (sI x2)) 1 (sI x1)) 0 (sS x0a x0n x0c))) (fun s => V0) x8 h (fun s => (Ru 0 (Ru 1 (Ru 2 (Ru 3 (Ru 8 Rn)))))) (Sc rfl (Sc rfl (Sc rfl (Sc rfl (Sc rfl Sn))))) Sn ?_
  intro I2 s hp h
  obtain ⟨x8, hs⟩ : ∃ x, x = s := ⟨s, rfl⟩
  subst hs
  replace h : F156_l2 x0a x0n x0c x1 x2 x3  K I2 x8 hp := h
  unfold F156_l2 at h
  refine AWP.seq' ?_
  refine AWP.seq' ?_
  refine AWP.rgn (F156_r0 (upd (upd (upd E0 3 (sV x3)) 1 (sI x1)) 0 (sS x0a x0n x0c)) x2 x8 hp _) ?_ (Ru 2 (Ru 8 (Ru 0 (Ru 1 (Ru 3 Rn))))) (Sc rfl (Sc rfl (Sc rfl (Sc rfl (Sc rfl Sn))))) Sn
  refine AWP.cond (t := (decide (x8 < x2))) rfl (fun e => ?_) (fun e => ?_)
  ·replace h := ite2_t h e
   refine AWP.skip ?_
   refine AWP.seq (fun env pv hp => ∃ (x8 : Int), Sub (upd (upd (upd (upd (upd E0 8 (sI x8)) 3 (sV x3)) 2 (sI x2)) 1 (sI x1)) 0 (sS x0a x0n x0c)) env ∧ Sub V0 pv ∧ (F156_j3 x0a x0n x0c x1 x2 x3 x8 hp I2 K)) ?_ ?_
   ·refine AWP.block ?_
    refine AWP.seq (fun env pv hp => ∃ (x8 : Int) (x9 : Int), Sub (upd (upd (upd (upd (upd (upd E0 9 (sI x9)) 8 (sI x8)) 3 (sV x3)) 2 (sI x2)) 1 (sI x1)) 0 (sS x0a x0n x0c)) env ∧ Sub V0 pv ∧ (F156_j4 x0a x0n x0c x1 x2 x3 x8 x9 hp I2 K)) ?_ ?_
    ·refine AWP.rgn (F156_r5 (upd (upd (upd (upd E0 3 (sV x3)) 2 (sI x2)) 1 (sI x1)) 0 (sS x0a x0n x0c)) x8 hp _) ?_ (Ru 8 (Ru 0 (Ru 1 (Ru 2 (Ru 3 Rn))))) (Sc rfl (Sc rfl (Sc rfl (Sc rfl (Sc rfl Sn))))) Sn
     exact ⟨x8, x8, (Sc rfl (Sc rfl (Sc rfl (Sc rfl (Sc rfl (Sc rfl Sn)))))), Sn, h⟩
    ·rintro env pv hp ⟨x8, x9, he, hv, h⟩
     refine AWP.sub (env' := (upd (upd (upd (upd (upd (upd E0 9 (sI x9)) 8 (sI x8)) 3 (sV x3)) 2 (sI x2)) 1 (sI x1)) 0 (sS x0a x0n x0c))) (pv' := V0) ?_ (Ru 0 (Ru 1 (Ru 2 (Ru 3 (Ru 8 (Ru 9 Rn)))))) he hv (HSub.refl _)
     clear he hv
     unfold F156_j4 at h
     refine AWP.block ?_
     refine AWP.loop (σ := Int) (fun I s hp => F156_l5 x0a x0n x0c x1 x2 x3 x8 I2 K I s hp) (fun s => (upd (upd (upd (upd (upd (upd E0 9 (sI s)) 8 (sI x8)) 3 (sV x3)) 2 (sI x2)) 1 (sI x1)) 0 (sS x0a x0n x0c))) (fun s => V0) x9 h (fun s => (Ru 0 (Ru 1 (Ru 2 (Ru 3 (Ru 8 (Ru 9 Rn))))))) (Sc rfl (Sc rfl (Sc rfl (Sc rfl (Sc rfl (Sc rfl Sn)))))) Sn ?_
     intro I5 s hp h
     obtain ⟨x9, hs⟩ : ∃ x, x = s := ⟨s, rfl⟩
     subst hs
     replace h : F156_l5 x0a x0n x0c x1 x2 x3 x8 I2 K I5 x9 hp := h
     unfold F156_l5 at h
     refine AWP.seq' ?_
     refine AWP.seq (fun env pv hp => ∃ (x9 : Int) (x34 : Bool), Sub (upd (upd (upd (upd (upd (upd (upd E0 34 (sB x34)) 9 (sI x9)) 8 (sI x8)) 3 (sV x3)) 2 (sI x2)) 1 (sI x1)) 0 (sS x0a x0n x0c)) env ∧ Sub V0 pv ∧ (F156_j6 x0a x0n x0c x1 x2 x3 x8 x9 x34 hp I2 I5 K)) ?_ ?_
     ·refine AWP.rgnD (by kernel_rfl) (by kernel_rfl) (F156_r4 (upd (upd E0 8 (sI x8)) 2 (sI x2)) x0a x0n x0c x1 x3 x9 hp _) ?_ (Ru 0 (Ru 1 (Ru 3 (Ru 9 (Ru 2 (Ru 8 Rn)))))) (Sc rfl (Sc rfl (Sc rfl (Sc rfl (Sc rfl (Sc rfl Sn)))))) Sn
      refine mt h (fun h => ?_) (fun h => ?_)
      ·refine ⟨h.1, h.2.1, mN h.2.2 (fun b_13 o_14 h => mL h (fun l_15 h => ⟨h.1, h.2.1, mN h.2.2 fun b_16 o_17 h => mL h fun l_18 h => mF h fun f_19 ga_20 gb_21 h => mC h fun u_22 h_23 h => mI h fun i_24 h => ?_⟩))⟩
       exact ⟨x9, (decide (i_24 < 0)), (Sc rfl (Sc rfl (Sc rfl (Sc rfl (Sc rfl (Sc rfl (Sc rfl Sn))))))), Sn, h⟩
      ·exact ⟨x9, false, (Sc rfl (Sc rfl (Sc rfl (Sc rfl (Sc rfl (Sc rfl (Sc rfl Sn))))))), Sn, h⟩
     ·rintro env pv hp ⟨x9, x34, he, hv, h⟩
      refine AWP.sub (env' := (upd (upd (upd (upd (upd (upd (upd E0 34 (sB x34)) 9 (sI x9)) 8 (sI x8)) 3 (sV x3)) 2 (sI x2)) 1 (sI x1)) 0 (sS x0a x0n x0c))) (pv' := V0) ?_ (Ru 0 (Ru 1 (Ru 2 (Ru 3 (Ru 8 (Ru 9 (Ru 34 Rn))))))) he hv (HSub.refl _)
      clear he hv
      unfold F156_j6 at h
      refine AWP.cond (t := x34) rfl (fun e => ?_) (fun e => ?_)
      ·replace h := ite2_t h e
       refine AWP.skip ?_
       refine AWP.seq' ?_
       refine AWP.block ?_
       refine AWP.rgnD (by kernel_rfl) (by kernel_rfl) (F156_r2 (upd (upd (upd (upd E0 8 (sI x8)) 3 (sV x3)) 2 (sI x2)) 1 (sI x1)) x0a x0n x0c x9 hp _) ?_ (Ru 0 (Ru 9 (Ru 1 (Ru 2 (Ru 3 (Ru 8 Rn)))))) (Sc rfl (Sc rfl (Sc rfl (Sc rfl (Sc rfl (Sc rfl Sn)))))) Sn
       refine ⟨h.1, h.2.1, mN h.2.2 (fun b_1 o_2 h => mL h (fun l_3 h => ⟨h.1, h.2.1, mN h.2.2 (fun b_4 o_5 h => mL h (fun l_6 h => ⟨h.1, h.2.1, mN h.2.2 (fun b_7 o_8 h => ⟨h.1, mW h.2 (fun h_9 h => ⟨h.1, h.2.1, mN h.2.2 (fun b_10 o_11 h => ⟨h.1, mW h.2 fun h_12 h => ?_⟩)⟩)⟩)⟩))⟩))⟩
       refine AWP.rgn (F156_r3 (upd (upd (upd (upd (upd E0 8 (sI x8)) 3 (sV x3)) 2 (sI x2)) 1 (sI x1)) 0 (sS x0a x0n x0c)) x9 h_12 _) ?_ (Ru 9 (Ru 0 (Ru 1 (Ru 2 (Ru 3 (Ru 8 Rn)))))) (Sc rfl (Sc rfl (Sc rfl (Sc rfl (Sc rfl (Sc rfl Sn)))))) Sn
       exact ⟨(wr (x9 - 1)), (Sc rfl (Sc rfl (Sc rfl (Sc rfl (Sc rfl (Sc rfl Sn)))))), Sn, h⟩
      ·replace h := ite2_f h e
       refine AWP.exit ?_
       exact ⟨x8, (Sc rfl (Sc rfl (Sc rfl (Sc rfl (Sc rfl Sn))))), Sn, h⟩
   ·rintro env pv hp ⟨x8, he, hv, h⟩
    refine AWP.sub (env' := (upd (upd (upd (upd (upd E0 8 (sI x8)) 3 (sV x3)) 2 (sI x2)) 1 (sI x1)) 0 (sS x0a x0n x0c))) (pv' := V0) ?_ (Ru 0 (Ru 1 (Ru 2 (Ru 3 (Ru 8 Rn))))) he hv (HSub.refl _)
    clear he hv
    unfold F156_j3 at h
    refine AWP.rgn (F156_r1 (upd (upd (upd (upd E0 3 (sV x3)) 2 (sI x2)) 1 (sI x1)) 0 (sS x0a x0n x0c)) x8 hp _) ?_ (Ru 8 (Ru 0 (Ru 1 (Ru 2 (Ru 3 Rn))))) (Sc rfl (Sc rfl (Sc rfl (Sc rfl (Sc rfl Sn))))) Sn
    exact ⟨(wr (x8 + 1)), (Sc rfl (Sc rfl (Sc rfl (Sc rfl (Sc rfl Sn))))), Sn, h⟩
  ·replace h := ite2_f h e
   refine AWP.exit ?_
   exact h
end
end Go.Proofs

set_option linter.unusedVariables false
set_option maxRecDepth 20000
namespace Go.Proofs
open Go Go.HL

section
variable {f : FuncId} {ga gb : List Value} {hp0 : HP} {b sp n c : Nat} {cf : (Q × Int) → (Q × Int) → Int}

theorem S156 (hc : CmpOk Try.prog f ga gb hp0 b 75 sp t4 n cf) {d : Array (Q × Int)} {lo hi : Nat} {K : Value → HP → Prop} (hs : d.size = n) (hlo : lo ≤ hi) (hhi : hi ≤ n) (hn : n ≤ 1000000000)
    (h : K (.tuple ⟨[]⟩) (HA hp0 b 75 sp t4 (Sort.insertionSort (ltC cf) d lo hi))) :
    CF Try.prog 156 [.slice (some ⟨b, 0, none⟩) n c, .int .i64 lo, .int .i64 hi, .func (.func f) ⟨ga⟩ ⟨gb⟩] (HA hp0 b 75 sp t4 d) K := by
  refine F156_ok _ n c lo hi _ _ K ?_
  unfold F156 F156_j1
  rw [w64 (by omega) (by omega)]
  refine LoopP.by (J := fun k (x : Int) hp => ∃ (i : Nat) (d' : Array (Q × Int)), x = i ∧ hp = HA hp0 b 75 sp t4 d' ∧ d'.size = n ∧ lo < i ∧ k = hi - i ∧ Sort.insOuter (ltC cf) lo hi i d' = Sort.insertionSort (ltC cf) d lo hi) ?_
    (n := hi - (lo + 1)) ⟨lo + 1, d, by omega, rfl, hs, by omega, rfl, rfl⟩
  rintro I k x hp ⟨i, d', rfl, rfl, hs', hli, rfl, he⟩ hI
  unfold F156_l2
  rw [Sort.insOuter] at he
  by_cases hi' : i < hi
  · rw [decide_eq_true (by omega : (i : Int) < (hi : Int)), ite2_true]
    rw [if_pos hi'] at he
    unfold F156_j4
    refine LoopP.by (J := fun k (y : Int) hp => ∃ (j : Nat) (d2 : Array (Q × Int)), y = j ∧ hp = HA hp0 b 75 sp t4 d2 ∧ d2.size = n ∧ j < n ∧ k = j ∧ Sort.insInner (ltC cf) lo j d2 = Sort.insInner (ltC cf) lo i d') ?_
      (n := i) ⟨i, d', rfl, rfl, hs', by omega, rfl, rfl⟩
    rintro I2 k2 y hp2 ⟨j, d2, rfl, rfl, hs2, hj, hk2, he2⟩ hI2
    unfold F156_l5
    have out : Sort.insInner (ltC cf) lo i d' = d2 → F156_j6 (some ⟨b, 0, none⟩) n c lo hi (.func (.func f) ⟨ga⟩ ⟨gb⟩) i j false (HA hp0 b 75 sp t4 d2) I I2 K := by
      intro heq
      unfold F156_j6 F156_j3
      rw [ite2_false, w64 (by omega) (by omega)]
      exact hI (hi - (i + 1)) _ _ (by omega) ⟨i + 1, d2, by omega, rfl, hs2, by omega, rfl, by rw [← heq]; exact he⟩
    by_cases hjl : lo < j
    · rw [decide_eq_true (by omega : (j : Int) > (lo : Int)), ite2_true]
      obtain ⟨j', rfl⟩ : ∃ j', j = j' + 1 := ⟨j - 1, by omega⟩
      have w1 : IntKind.wrap .i64 (((j' + 1 : Nat) : Int) - 1) = (j' : Int) := by rw [w64 (by omega) (by omega)]; omega
      have g1 := HA.get (hp0 := hp0) (b := b) (e := 75) (sp := sp) t4_len (d := d2) (i := j' + 1) (by omega)
      have g0 := HA.get (hp0 := hp0) (b := b) (e := 75) (sp := sp) t4_len (d := d2) (i := j') (by omega)
      simp only [w1, ptrN_some, Int.toNat_natCast, g1, g0, ldL_some, fnV_mk]
      refine ⟨by omega, by omega, by omega, by omega, ?_⟩
      refine hc d2 _ _ _ hs2 ?_
      rw [intV_int]
      rw [Sort.insInner] at he2
      have hgt : decide (j' + 1 > lo) = true := decide_eq_true (by omega)
      cases hlt : decide (cf d2[j' + 1]! d2[j']! < 0)
      · have : ltC cf d2[j' + 1]! d2[j']! = false := hlt
        rw [hgt, this] at he2
        exact out (by simpa using he2.symm)
      · have : ltC cf d2[j' + 1]! d2[j']! = true := hlt
        rw [hgt, this] at he2
        simp only [Bool.and_self, if_true] at he2
        unfold F156_j6
        simp only [ite2_true, w1, ptrN_some, Int.toNat_natCast, g0, g1, ldL_some]
        refine ⟨by omega, by omega, by omega, by omega, by omega, by omega, rfl, ?_⟩
        refine HA.st t4_len t4_one (by omega) _ ?_
        refine ⟨by omega, by omega, rfl, ?_⟩
        refine HA.st t4_len t4_one (by rw [Array.size_setIfInBounds]; omega) _ ?_
        exact hI2 j' _ _ (by omega) ⟨j', _, rfl, rfl, by rw [Array.size_setIfInBounds, Array.size_setIfInBounds]; exact hs2, by omega, rfl, he2⟩
    · rw [decide_eq_false (by omega : ¬ (j : Int) > (lo : Int)), ite2_false]
      refine out ?_
      cases j with
      | zero => rw [Sort.insInner] at he2; exact he2.symm
      | succ j =>
        rw [Sort.insInner] at he2
        have hgt : decide (j + 1 > lo) = false := decide_eq_false (by omega)
        rw [hgt] at he2
        simpa using he2.symm
  · rw [decide_eq_false (by omega : ¬ (i : Int) < (hi : Int)), ite2_false]
    rw [if_neg hi'] at he
    rw [he]
    exact h
end
end Go.Proofs

set_option linter.unusedVariables false
set_option maxRecDepth 20000
namespace Go.Proofs
open Go Go.HL

section
variable {f : FuncId} {ga gb : List Value} {hp0 : HP} {b sp n c : Nat} {cf : (Q × Int) → (Q × Int) → Int}

theorem S130 (hx : CmpX Try.prog f ga gb hp0 b 75 sp t4 n cf) (hS : Sort.SWO (ltC cf)) (hn : n ≤ 65535) : ∀ (m : Nat) {d : Array (Q × Int)} {lo hi limit : Nat} {K : Value → HP → Prop}, d.size = n → lo ≤ hi → hi ≤ n → limit ≤ 64 → hi - lo ≤ m → Sort.Below (ltC cf) lo hi d →
    (∀ d', Sort.PermIn lo hi d d' → Sort.SortedIn (ltC cf) lo hi d' → K (.tuple ⟨[]⟩) (HA hp0 b 75 sp t4 d')) →
    CF Try.prog 130 [.slice (some ⟨b, 0, none⟩) n c, .int .i64 lo, .int .i64 hi, .int .i64 limit, .func (.func f) ⟨ga⟩ ⟨gb⟩] (HA hp0 b 75 sp t4 d) K := by
  intro m
  induction m using Nat.strongRecOn with
  | ind m ih =>
  intro d lo hi limit K hs hlo hhi hl hm hB h
  have hc := hx.ok
  refine F130_ok _ n c lo hi limit _ _ K ?_
  unfold F130 F130_j1
  refine LoopP.by (J := fun k (s : Int × Int × Int × Bool × Bool) hp => ∃ (a e lim : Nat) (wb wp : Bool) (d' : Array (Q × Int)), s = ((a : Int), (e : Int), (lim : Int), wb, wp) ∧ hp = HA hp0 b 75 sp t4 d' ∧ d'.size = n ∧ a ≤ e ∧ e ≤ n ∧ lim ≤ 64 ∧ e - a ≤ hi - lo ∧ k = e - a ∧ Sort.Below (ltC cf) a e d' ∧
      (∀ R, Sort.PermIn a e d' R → Sort.SortedIn (ltC cf) a e R → K (.tuple ⟨[]⟩) (HA hp0 b 75 sp t4 R))) ?_
    (n := hi - lo) ⟨lo, hi, limit, true, true, d, rfl, rfl, hs, hlo, hhi, hl, Nat.le_refl _, rfl, hB, h⟩
  clear hs hlo hhi hl hB h
  rintro I k x hp ⟨a, e, lim, wb, wp, d, rfl, rfl, hs, hae, hen, hl, hle, rfl, hB, h⟩ hI
  unfold F130_l2
  simp only []
  have w1 : IntKind.wrap .i64 ((e : Int) - (a : Int)) = ((e - a : Nat) : Int) := wi (by omega) (by omega)
  rw [w1]
  by_cases h12 : e - a ≤ 12
  · rw [decide_eq_true (by omega : ((e - a : Nat) : Int) ≤ 12), ite2_true]
    refine S156 hc hs hae hen (by omega) ?_
    have hi := Sort.insertionSort_holds hS d a e hae (by omega)
    exact h _ hi.1 hi.2
  rw [decide_eq_false (by omega : ¬ ((e - a : Nat) : Int) ≤ 12), ite2_false]
  by_cases h0 : lim = 0
  · subst h0
    have hb : (((0 : Nat) : Int) == 0) = true := rfl
    rw [hb, ite2_true]
    refine S157 hc hs hae hen (by omega) ?_
    have hi := Sort.heapSort_holds hS d a e hae (by omega)
    exact h _ hi.1 hi.2
  have hb : ((lim : Int) == 0) = false := by rw [beq_eq_false_iff_ne]; omega
  rw [hb, ite2_false]
  -- from the pivot on
  have last : ∀ (lim' : Nat) (d3 : Array (Q × Int)) (p : Nat) (wb wp : Bool), lim' ≤ 64 → Sort.PermIn a e d d3 → a ≤ p → p < e →
      F130_j5 (some ⟨b, 0, none⟩) n c a e lim' (.func (.func f) ⟨ga⟩ ⟨gb⟩) wb wp ((e - a : Nat) : Int) p (HA hp0 b 75 sp t4 d3) I K := by
    intro lim' d3 p wb wp hl' hp3 hpa hpe
    have hs3 : d3.size = n := by rw [hp3.1]; exact hs
    have B3 : Sort.Below (ltC cf) a e d3 := hB.perm (by omega) hp3
    -- by the partition in two
    have two : F130_j6 (some ⟨b, 0, none⟩) n c a e lim' (.func (.func f) ⟨ga⟩ ⟨gb⟩) wb wp ((e - a : Nat) : Int) p false (HA hp0 b 75 sp t4 d3) I K := by
      unfold F130_j6
      rw [ite2_false]
      refine S163 hc hs3 (by omega) hen (by omega) (by omega) ?_
      rcases hR : Sort.partition (ltC cf) d3 a e p with ⟨mid, ap, d4⟩
      obtain ⟨q1, q2, q3, q4, q5, q6, q7⟩ := Sort.round_part hS (Sort.partition_holds _) hpa hpe (by omega) B3 hR
      simp only [tup2V_mk, intV_int, boolV_bool]
      refine ⟨by omega, ?_⟩
      have v1 : IntKind.wrap .i64 ((mid : Int) - (a : Int)) = ((mid - a : Nat) : Int) := wi (by omega) (by omega)
      have v2 : IntKind.wrap .i64 ((e : Int) - (mid : Int)) = ((e - mid : Nat) : Int) := wi (by omega) (by omega)
      have v3 : IntKind.wrap .i64 ((mid : Int) + 1) = ((mid + 1 : Nat) : Int) := wi (by omega) (by omega)
      rw [v1, v2, v3]
      by_cases hlt : mid - a < e - mid
      · rw [decide_eq_true (by omega : ((mid - a : Nat) : Int) < ((e - mid : Nat) : Int)), ite2_true]
        refine ih (mid - a) (by omega) (by omega) q1 (by omega) hl' (Nat.le_refl _) q4 ?_
        intro L hL hsL
        obtain ⟨z1, z2⟩ := q6 L hL hsL
        exact hI (e - (mid + 1)) _ _ (by omega) ⟨mid + 1, e, lim', _, ap, L, rfl, rfl, by rw [hL.1]; omega, by omega, hen, hl', by omega, rfl, z1, fun R hR hsR => h R (Sort.permIn_trans _ _ _ _ _ hp3 (z2 R hR hsR).1) (z2 R hR hsR).2⟩
      · rw [decide_eq_false (by omega : ¬ ((mid - a : Nat) : Int) < ((e - mid : Nat) : Int)), ite2_false]
        refine ih (e - (mid + 1)) (by omega) (by omega) (by omega) hen hl' (Nat.le_refl _) q5 ?_
        intro L hL hsL
        obtain ⟨z1, z2⟩ := q7 L hL hsL
        exact hI (mid - a) _ _ (by omega) ⟨a, mid, lim', _, ap, L, rfl, rfl, by rw [hL.1]; omega, q1, by omega, hl', by omega, rfl, z1, fun R hR hsR => h R (Sort.permIn_trans _ _ _ _ _ hp3 (z2 R hR hsR).1) (z2 R hR hsR).2⟩
    unfold F130_j5
    by_cases ha : a > 0
    · rw [decide_eq_true (by omega : (a : Int) > 0), ite2_true]
      have v1 : IntKind.wrap .i64 ((a : Int) - 1) = ((a - 1 : Nat) : Int) := wi (by omega) (by omega)
      rw [v1]
      refine cmpP hc t4_len hs3 (i := a - 1) (j := p) rfl rfl (by omega) (by omega) ?_
      have hlq : decide (cf d3[a - 1]! d3[p]! < 0) = ltC cf d3[a - 1]! d3[p]! := rfl
      rw [hlq]
      cases hlt : ltC cf d3[a - 1]! d3[p]!
      · unfold F130_j6
        simp only [Bool.not_false, ite2_true]
        refine S162 hc hs3 (by omega) hen (by omega) (by omega) ?_
        rcases hR : Sort.partitionEqual (ltC cf) d3 a e p with ⟨mid, d4⟩
        obtain ⟨q1, q2, q3, q4, q5⟩ := Sort.round_eq hS (Sort.partitionEqual_holds _) ha hpa hpe (by omega) B3 hlt hR
        rw [intV_int]
        exact hI (e - mid) _ _ (by omega) ⟨mid, e, lim', wb, wp, d4, rfl, rfl, by omega, q2, hen, hl', by omega, rfl, q4, fun R hR hsR => h R (Sort.permIn_trans _ _ _ _ _ hp3 (q5 R hR hsR).1) (q5 R hR hsR).2⟩
      · simp only [Bool.not_true]
        exact two
    · rw [decide_eq_false (by omega : ¬ (a : Int) > 0), ite2_false]
      exact two
  -- is it sorted already?
  have part : ∀ (lim' : Nat) (d2 : Array (Q × Int)) (p : Nat) (w : Int), lim' ≤ 64 → Sort.PermIn a e d d2 → a ≤ p → p < e →
      F130_j4 (some ⟨b, 0, none⟩) n c a e lim' (.func (.func f) ⟨ga⟩ ⟨gb⟩) wb wp ((e - a : Nat) : Int) p w (HA hp0 b 75 sp t4 d2) I K := by
    intro lim' d2 p w hl' hp2 hpa hpe
    have hs2 : d2.size = n := by rw [hp2.1]; exact hs
    have B2 : Sort.Below (ltC cf) a e d2 := hB.perm (by omega) hp2
    have seven : ∀ q : Bool, F130_j7 (some ⟨b, 0, none⟩) n c a e lim' (.func (.func f) ⟨ga⟩ ⟨gb⟩) wb wp ((e - a : Nat) : Int) p q (HA hp0 b 75 sp t4 d2) I K := by
      intro q
      unfold F130_j7
      cases q
      · rw [ite2_false]; exact last lim' d2 p wb wp hl' hp2 hpa hpe
      · rw [ite2_true]
        refine S161 hc hs2 (by omega) hen (by omega) ?_
        obtain ⟨r1, r2⟩ := Sort.partialInsertionSort_holds hS d2 a e (by omega) (by omega) B2
        rw [boolV_bool]
        cases hq : (Sort.partialInsertionSort (ltC cf) d2 a e).2
        · rw [ite2_false]
          exact last lim' _ p wb wp hl' (Sort.permIn_trans _ _ _ _ _ hp2 r1) hpa hpe
        · rw [ite2_true]
          exact h _ (Sort.permIn_trans _ _ _ _ _ hp2 r1) (r2 hq)
    unfold F130_j4
    cases wb
    · rw [ite2_false]; exact seven _
    · rw [ite2_true]
      cases wp
      · rw [ite2_false]; exact seven _
      · rw [ite2_true]; exact seven _
  -- the pivot
  have piv : ∀ (lim' : Nat) (d1 : Array (Q × Int)), lim' ≤ 64 → Sort.PermIn a e d d1 → F130_j3 (some ⟨b, 0, none⟩) n c a e lim' (.func (.func f) ⟨ga⟩ ⟨gb⟩) wb wp ((e - a : Nat) : Int) (HA hp0 b 75 sp t4 d1) I K := by
    intro lim' d1 hl' hp1
    have hs1 : d1.size = n := by rw [hp1.1]; exact hs
    unfold F130_j3
    refine S159 hx hs1 (by omega) hen hn fun p w hpa hpe => ?_
    simp only [tup2V_mk, intV_int]
    cases (w == 2)
    · rw [ite2_false]; exact part lim' d1 p w hl' hp1 hpa hpe
    · rw [ite2_true]
      refine S160 hs1 (by omega) hen (by omega) ?_
      have v1 : IntKind.wrap .i64 ((e : Int) - 1) = ((e - 1 : Nat) : Int) := wi (by omega) (by omega)
      have v2 : IntKind.wrap .i64 ((p : Int) - (a : Int)) = ((p - a : Nat) : Int) := wi (by omega) (by omega)
      have v3 : IntKind.wrap .i64 (((e - 1 : Nat) : Int) - ((p - a : Nat) : Int)) = ((e - 1 - (p - a) : Nat) : Int) := wi (by omega) (by omega)
      rw [v1, v2, v3]
      exact part lim' _ _ 1 hl' (Sort.permIn_trans _ _ _ _ _ hp1 (Sort.reverseRange_holds d1 a e hae (by omega))) (by omega) (by omega)
  cases wb
  · simp only [Bool.not_false, ite2_true]
    refine S158 hs hae hen hn fun d1 hp1 => ?_
    have v1 : IntKind.wrap .i64 ((lim : Int) - 1) = ((lim - 1 : Nat) : Int) := wi (by omega) (by omega)
    rw [v1]
    exact piv (lim - 1) d1 (by omega) hp1
  · simp only [Bool.not_true, ite2_false]
    exact piv lim d hl (Sort.permIn_refl d a e)
end

/-- SortFunc of a row: the same things, in their order. -/
theorem S94 {f : FuncId} {ga gb : List Value} {cf : (Q × Int) → (Q × Int) → Int} (hS : Sort.SWO (ltC cf)) {hp : HP} {s : Option Addr} {n c : Nat} {ts : List (Q × Int)} (hr : Row hp s n c 75 5 (ts.flatMap t4)) (hl : ts.length = n) (hn : n ≤ 65535)
    (hx : ∀ b, s = some ⟨b, 0, none⟩ → CmpX Try.prog f ga gb hp b 75 ((c - n) * 5) t4 n cf) {K : Value → HP → Prop}
    (h : ∀ (ts' : List (Q × Int)) (hp' : HP), ts'.Perm ts → ts'.Pairwise (fun x y => ltC cf y x = false) → Row hp' s n c 75 5 (ts'.flatMap t4) → (hp' = hp ∨ ∃ b e, s = some ⟨b, 0, none⟩ ∧ hp' = hp.set b e) → K (.tuple ⟨[]⟩) hp') :
    CF Try.prog 94 [.slice s n c, .func (.func f) ⟨ga⟩ ⟨gb⟩] hp K := by
  refine F94_ok s n c _ hp K ?_
  unfold F94
  rw [wu64 (by omega) (by omega)]
  refine C129 hn fun L hL _ _ => ?_
  rw [intV_int]
  have z0 : (Value.int .i64 0) = Value.int .i64 ((0 : Nat) : Int) := rfl
  rcases hr with ⟨rfl, rfl, rfl, hnil⟩ | ⟨b, rfl, hnc, hxl, hb⟩
  · have ht : ts = [] := List.eq_nil_of_length_eq_zero hl
    subst ht
    rw [z0]
    refine F130_ok none 0 0 ((0 : Nat) : Int) ((0 : Nat) : Int) L _ hp _ ?_
    unfold F130 F130_j1
    refine LoopP.by (J := fun k (s : Int × Int × Int × Bool × Bool) hp' => s.1 = 0 ∧ s.2.1 = 0 ∧ hp' = hp) ?_ (n := 0) ⟨rfl, rfl, rfl⟩
    rintro I k ⟨a, e, lim, wb, wp⟩ hp' ⟨h1, h2, rfl⟩ hI
    simp only at h1 h2
    subst h1 h2
    unfold F130_l2
    simp only []
    have w0 : IntKind.wrap .i64 ((0 : Int) - 0) = 0 := by rw [w64 (by omega) (by omega)]; omega
    rw [w0, decide_eq_true (by omega : (0 : Int) ≤ 12), ite2_true]
    refine F156_ok none 0 0 0 0 _ hp' _ ?_
    unfold F156 F156_j1
    have w1 : IntKind.wrap .i64 ((0 : Int) + 1) = 1 := by rw [w64 (by omega) (by omega)]; omega
    rw [w1]
    refine LoopP.by (J := fun k (x : Int) hp2 => x = 1 ∧ hp2 = hp') ?_ (n := 0) ⟨rfl, rfl⟩
    rintro I2 k2 x hp2 ⟨rfl, rfl⟩ hI2
    unfold F156_l2
    rw [decide_eq_false (by omega : ¬ (1 : Int) < 0), ite2_false]
    exact h [] _ (List.Perm.refl _) List.Pairwise.nil (.inl ⟨rfl, rfl, rfl, rfl⟩) (.inl rfl)
  · have hha : HA hp b 75 ((c - n) * 5) t4 ts.toArray = hp := HP.set_self _ _ _ hb
    rw [z0]
    have key := S130 (c := c) (hx b rfl) hS hn n (d := ts.toArray) (lo := 0) (hi := n) (limit := L) (K := fun u_4 h_5 => K (.tuple ⟨[]⟩) h_5) (by simpa using hl) (Nat.zero_le _) (Nat.le_refl _) (by omega) (by omega) (.inl rfl) ?_
    · rw [hha] at key; exact key
    intro d' hpm hst
    have hsz : d'.size = n := by rw [hpm.1]; simpa using hl
    have hpl : d'.toList.Perm ts := by
      have h3 := hpm.2.2
      have e1 : d'.extract 0 n = d' := by rw [← hsz]; simp
      have e2 : ts.toArray.extract 0 n = ts.toArray := by rw [← hl]; simp
      rw [e1, e2] at h3
      exact h3
    refine h d'.toList _ hpl ?_ (.inr ⟨b, rfl, hnc, by rw [flat_len t4_len]; simp [hsz], by unfold HA; rw [HP.set_eq]⟩) (.inr ⟨b, _, rfl, rfl⟩)
    rw [List.pairwise_iff_getElem]
    intro i j hi hj hij
    have := hst i j (Nat.zero_le _) hij (by simpa [hsz] using hj)
    rw [getElem!_pos d' j (by simpa using hj), getElem!_pos d' i (by simpa using hi)] at this
    simpa using this
end Go.Proofs

set_option linter.unusedVariables false
set_option maxRecDepth 20000
namespace Go.Proofs
open Go Go.HL

theorem C131 {x : Int} {hp : HP} {K : Value → HP → Prop} (h : K (.bool false) hp) : CF Try.prog 131 [.int .i64 x] hp K := by
  refine F131_ok x hp K ?_
  unfold F131
  simpa using h

theorem C97 {x y : Int} {hp : HP} {K : Value → HP → Prop} (h : K (.int .i64 (cmpI x y)) hp) : CF Try.prog 97 [.int .i64 x, .int .i64 y] hp K := by
  refine F97_ok x y hp K ?_
  unfold F97
  refine C131 ?_
  rw [boolV_bool]
  refine C131 ?_
  rw [boolV_bool, ite2_false, ite2_false]
  unfold cmpI at h
  by_cases h1 : x < y
  · rw [if_pos h1] at h
    rw [decide_eq_true h1, ite2_true]; exact h
  rw [if_neg h1] at h
  rw [decide_eq_false h1, ite2_false]
  by_cases h2 : x > y
  · rw [if_pos h2] at h
    rw [decide_eq_true h2, ite2_true]; exact h
  · rw [if_neg h2] at h
    rw [decide_eq_false h2, ite2_false]; exact h

theorem C96 {r : Nat} {x y : Int} {hp : HP} {K : Value → HP → Prop} (hr : hp r = .cells 3 [.int .i64 x, .int .i64 y] 0) (h : K (.int .i64 (if x ≠ 0 then x else y)) hp) : CF Try.prog 96 [.slice (some ⟨r, 0, none⟩) 2 2] hp K := by
  refine F96_ok _ 2 2 hp K ?_
  unfold F96 F96_j2
  have hc : ∀ o, hp.cell r o = [Value.int .i64 x, .int .i64 y][o]? := fun o => HP.cell_of hr
  intro I hI
  refine hI 0 hp ?_
  unfold F96_l3
  simp only [ptrN_some, hc, Nat.zero_add]
  show ite2 (decide ((0 : Int) < 2)) _ _
  rw [decide_eq_true (by omega : (0 : Int) < 2), ite2_true]
  refine ⟨by omega, by omega, ?_⟩
  show ldV (some (Value.int .i64 x)) _
  rw [ldV_some, intV_int]
  by_cases hx : x = 0
  · rw [if_neg (by simpa using hx)] at h
    have e : (x != 0) = false := by simpa using hx
    rw [e, ite2_false]
    have w : IntKind.wrap .i64 ((0 : Int) + 1) = 1 := by rw [w64 (by omega) (by omega)]; rfl
    rw [w]
    refine hI 1 hp ?_
    unfold F96_l3
    simp only [ptrN_some, hc, Nat.zero_add]
    rw [decide_eq_true (by omega : (1 : Int) < ((2 : Nat) : Int)), ite2_true]
    refine ⟨by omega, by omega, ?_⟩
    show ldV (some (Value.int .i64 y)) _
    rw [ldV_some, intV_int]
    by_cases hy : y = 0
    · have e : (y != 0) = false := by simpa using hy
      rw [e, ite2_false]
      have w : IntKind.wrap .i64 ((1 : Int) + 1) = 2 := by rw [w64 (by omega) (by omega)]; rfl
      rw [w]
      refine hI 2 hp ?_
      unfold F96_l3
      simp only [ptrN_some, hc, Nat.zero_add]
      rw [decide_eq_false (by omega : ¬ (2 : Int) < ((2 : Nat) : Int)), ite2_false]
      unfold F96_j1
      rw [hy] at h; exact h
    · have e : (y != 0) = true := by simpa using hy
      rw [e, ite2_true]; exact h
  · rw [if_pos (by simpa using hx)] at h
    have e : (x != 0) = true := by simpa using hx
    rw [e, ite2_true]; exact h

section
variable {p m : Nat} {l : List Q} {low high : Int} {held : List ((Q × Int) × Bool)} {hp : HP} {K : Value → HP → Prop}

theorem C95 {r : Nat} {x y : Q × Int} (hr : PoolR hp p l low high held m) (hbx : hp r = .cells 69 [ptr p 0] 0) (hlen : l.length ≤ 4) (h : K (.int .i64 (cmpT l x y)) hp) :
    CF Try.prog 95 [.agg ⟨t4 x⟩, .agg ⟨t4 y⟩, .pointer (some ⟨r, 0, none⟩)] hp K := by
  refine CF.drop (F95_ok (t4 x) (t4 y) _ hp _ ?_)
  obtain ⟨a, c, h1, h2, h3⟩ := hr
  have hc1 : ∀ o, hp.cell r o = [ptr p 0][o]? := fun o => HP.cell_of hbx
  have hc2 : ∀ o, hp.cell p o = [Value.slice a l.length c, .int .i64 low, .int .i64 high, .map (some m)][o]? := fun o => HP.cell_of h1
  have q1 : ∀ t : Q × Int, cellsN (t4 t) 0 4 = some (v4 t.1) := fun _ => rfl
  have q2 : ∀ t : Q × Int, (t4 t)[4]? = some (.int .i64 t.2) := fun _ => rfl
  have fin : ∀ (i j : Int) (b : Nat), hp b = .none → (i = cmpI (idx x.1 l) (idx y.1 l)) → j = cmpI x.2 y.2 →
      CF Try.prog 96 [.slice (some ⟨b, 0, none⟩) 2 2] (hp.set b (.cells 3 [.int .i64 i, .int .i64 j] 0)) fun u h => intV u .i64 fun k => ∃ hp'', HSub hp'' h ∧ K (.int .i64 k) hp'' := by
    intro i j b hb hi hj
    refine C96 (HP.set_eq ..) ?_
    rw [intV_int]
    refine ⟨hp, HSub.set_fresh hp _ hb, ?_⟩
    subst hi hj
    exact h
  have pp : ∀ c : Option Addr → Prop, ptrV (ptr p 0) c = c (some ⟨p, 0, none⟩) := fun _ => rfl
  unfold F95
  simp only [ptrN_some, hc1, hc2, Nat.zero_add, List.getElem?_cons_zero, ldV_some, pp, slcV_slice, q1, q2, ldL_some, intV_int]
  refine ⟨?_, ?_, ?_⟩
  all_goals
    refine C98 h2.shows rfl (by omega) ?_
    simp only [ptrN_some, hc1, hc2, Nat.zero_add, List.getElem?_cons_zero, ldV_some, pp, slcV_slice, q1, q2, ldL_some, intV_int]
    refine C98 h2.shows rfl (by omega) ?_
    simp only [ptrN_some, hc1, hc2, Nat.zero_add, List.getElem?_cons_zero, ldV_some, pp, slcV_slice, q1, q2, ldL_some, intV_int]
    refine C97 ?_
    simp only [ptrN_some, hc1, hc2, Nat.zero_add, List.getElem?_cons_zero, ldV_some, pp, slcV_slice, q1, q2, ldL_some, intV_int]
    refine C97 ?_
    simp only [ptrN_some, hc1, hc2, Nat.zero_add, List.getElem?_cons_zero, ldV_some, pp, slcV_slice, q1, q2, ldL_some, intV_int]
    intro b hb
    exact fin _ _ b hb rfl rfl

theorem vb_inj {a b : Bool} (h : vb a = vb b) : a = b := by simpa [vb] using h

theorem C45 (hr : PoolR hp p l low high held m) (hlen : l.length ≤ 4) (hh : held.length ≤ 65535)
    (h : ∀ (s2 : Option Addr) (c2 : Nat) (hp' : HP) (ts : List (Q × Int)), HSub hp hp' → ts.Perm (held.map (·.1)) → ts.Pairwise (fun x y => ltC (cmpT l) y x = false) → Row hp' s2 held.length c2 75 5 (ts.flatMap t4) → (∀ b, s2 = some ⟨b, 0, none⟩ → hp b = .none) → K (.slice s2 held.length c2) hp') :
    CF Try.prog 45 [ptr p 0] hp K := by
  refine F45_ok _ hp K ?_
  unfold F45
  intro r hrn
  have s1 := HSub.set_fresh hp (.cells 69 [ptr p 0] 0) hrn
  have hr1 := hr.sub s1
  have hbx : (hp.set r (.cells 69 [ptr p 0] 0)) r = .cells 69 [ptr p 0] 0 := HP.set_eq ..
  generalize hhp1 : hp.set r (.cells 69 [ptr p 0] 0) = hp1 at *
  have hc1 : ∀ o, hp1.cell r o = [ptr p 0][o]? := fun o => HP.cell_of hbx
  have hcM := hr1.cellM
  have pp : ∀ c : Option Addr → Prop, ptrV (ptr p 0) c = c (some ⟨p, 0, none⟩) := fun _ => rfl
  simp only [ptrN_some, hc1, List.getElem?_cons_zero, ldV_some, pp, Option.isNone_some, ite2_false]
  rw [hcM, ldV_some, mapV_map]
  refine opS_range u158 hr1.mapM fun it e hit hI0 => ?_
  unfold F45_j2
  refine LoopP.by (J := fun k (s : Option Addr × Nat × Nat) hp' => ∃ done : List ((Q × Int) × Bool), HSub hp1 hp' ∧ IterR hp' it m t4k vb held done ∧ Row hp' s.1 s.2.1 s.2.2 75 5 ((done.map (·.1)).flatMap t4) ∧ s.2.1 = done.length ∧ (∀ b, s.1 = some ⟨b, 0, none⟩ → hp1 b = .none) ∧ k = held.length - done.length) ?_
    (n := held.length - 0) ⟨[], (HSub.refl hp1).up hit e, hI0, .inl ⟨rfl, rfl, rfl, rfl⟩, rfl, (fun b e => by cases e), rfl⟩
  rintro I k ⟨s, n, c⟩ hp2 ⟨done, hs, hI, hrow, hn, hfr, rfl⟩ hgo
  simp only at hrow hn hfr
  subst hn
  unfold F45_l3
  refine opS_next hI ?_ ?_
  · intro hperm
    simp only [tupI]
    show ldV (some (Value.bool false)) _
    rw [ldV_some, boolV_bool, ite2_false]
    unfold F45_j1
    have hpm : (done.map (·.1)).Perm (held.map (·.1)) := by
      refine List.Perm.map _ ?_
      refine perm_of_map (f := fun q : (Q × Int) × Bool => (t4k q.1, vb q.2)) (fun a b e => ?_) hperm
      simp only [Prod.mk.injEq] at e
      exact Prod.ext (enc75.inj _ _ e.1) (vb_inj e.2)
    have hdl : done.length = held.length := by simpa using hpm.length_eq
    refine S94 (swo_cmpT l) hrow (by simp) (by omega) ?_ ?_
    · intro b hb hp3 h3 d x y K' hsz hk
      have hb1 := hfr b hb
      have s3 : HSub hp1 (HA hp3 b 75 ((c - done.length) * 5) t4 d) := (hs.trans h3).up hb1 _
      exact C95 (hr1.sub s3) (s3.cells hbx) hlen hk
    · intro ts' hp' hp1' hpw hrow' hh'
      rw [← hdl] at h
      refine h s c hp' ts' ?_ (hp1'.trans hpm) hpw hrow' (fun b hb => s1.none (hfr b hb))
      rcases hh' with rfl | ⟨b, e', hb, rfl⟩
      · exact s1.trans hs
      · exact (s1.trans hs).up (s1.none (hfr b hb)) _
  · intro kv hkv e2 hI2
    have hlen2 := hI2.step_len
    simp only [tupI]
    show ldV (some (Value.bool true)) _
    rw [ldV_some, boolV_bool, ite2_true]
    refine rdS_entry hI2 ?_
    show ldV (some (t4k kv.1)) _
    rw [ldV_some]
    unfold t4k
    rw [aggV_agg]
    have hz5 : [Value.int .u8 0, .int .u8 0, .int .u8 0, .int .u8 0, .int .i64 0] = t4 (q0, 0) := rfl
    have hsp : splice (t4 (q0, 0)) 0 (t4 kv.1) = t4 kv.1 := splice_all rfl
    simp only [t4_len, t4_one, if_true, hz5, hsp, cellsN_all (t4_len _), ldL_some]
    refine ifI (by omega) ?_
    intro b3 hb3
    obtain ⟨⟨oi, hoi⟩, ⟨om, hom⟩⟩ := hI2.obj
    have hiti : ∃ o, hp2 it = .obj o := hI.obj.1
    have s2' : HSub hp1 (hp2.set it e2) := hs.up hit e2
    have hne3 : ∀ {x o}, (hp2.set it e2) x = .obj o → x ≠ b3 := fun hx e => by rw [e, hb3] at hx; cases hx
    have s3 := HSub.set_fresh (hp2.set it e2) (.cells 75 (t4 kv.1) 0) hb3
    have hI3 : IterR ((hp2.set it e2).set b3 (.cells 75 (t4 kv.1) 0)) it m t4k vb held (done ++ [kv]) := hI2.keep (HP.set_ne _ _ (hne3 hoi)) (HP.set_ne _ _ (hne3 hom))
    have hrow2 : Row (hp2.set it e2) s done.length c 75 5 ((done.map (·.1)).flatMap t4) := by
      rcases hrow with hrow | ⟨b, r1, r2, r3, r4⟩
      · exact .inl hrow
      · refine .inr ⟨b, r1, r2, r3, ?_⟩
        obtain ⟨o, ho⟩ := hiti
        rw [HP.set_ne _ _ (fun e => by rw [e, ho] at r4; cases r4)]; exact r4
    have hrow3 := hrow2.sub s3
    have sh : Shows ((hp2.set it e2).set b3 (.cells 75 (t4 kv.1) 0)) (some ⟨b3, 0, none⟩) 1 5 (t4 kv.1) := .inr ⟨b3, 0, rfl, by rw [HP.cellN_of (HP.set_eq ..)]; exact cellsN_all rfl⟩
    have s13 : HSub hp1 ((hp2.set it e2).set b3 (.cells 75 (t4 kv.1) 0)) := s2'.trans s3
    refine opS_app (e := 75) (size := 5) (bytes := 16) (by kernel_rfl) hrow3 sh (t4_one _) (by omega) (by omega) ?_
    intro s4 c4 hp4 hrow4 hup
    rw [slcV_slice]
    have hfl : (done.map (·.1)).flatMap t4 ++ t4 kv.1 = ((done ++ [kv]).map (·.1)).flatMap t4 := by simp
    rw [hfl] at hrow4
    have key : HSub hp1 hp4 ∧ IterR hp4 it m t4k vb held (done ++ [kv]) ∧ ∀ b, s4 = some ⟨b, 0, none⟩ → hp1 b = .none := by
      rcases hup with ⟨rfl, rfl⟩ | ⟨b, e', rfl, hb, rfl⟩
      · exact ⟨s13, hI3, hfr⟩
      · have hb1 : hp1 b = .none := by
          rcases hb with hb | hb
          · exact s13.none hb
          · exact hfr b hb
        obtain ⟨⟨oi3, hoi3⟩, ⟨om3, hom3⟩⟩ := hI3.obj
        have hbo : ∀ o, ((hp2.set it e2).set b3 (.cells 75 (t4 kv.1) 0)) b ≠ .obj o := by
          intro o ho
          rcases hb with hb | hb
          · rw [hb] at ho; cases ho
          · rcases hrow3 with ⟨r1, _⟩ | ⟨b', r1, r2, r3, r4⟩
            · rw [r1] at hb; cases hb
            · rw [r1] at hb; cases hb; rw [r4] at ho; cases ho
        refine ⟨s13.up hb1 e', hI3.keep (HP.set_ne _ _ (fun e => hbo oi3 (by rw [← e]; exact hoi3))) (HP.set_ne _ _ (fun e => hbo om3 (by rw [← e]; exact hom3))), fun b' eb => ?_⟩
        cases eb; exact hb1
    have hdl : done.length + 1 = (done ++ [kv]).length := by simp
    rw [hdl] at hrow4 ⊢
    exact hgo (held.length - (done ++ [kv]).length) _ _ (by simp; omega) ⟨done ++ [kv], key.1, key.2.1, hrow4, rfl, key.2.2, rfl⟩

theorem C54 (hr : PoolR hp p l low high held m) (hlen : l.length ≤ 4) (hh : held.length ≤ 65535) (hb : 0 ≤ low ∧ low ≤ 65535 ∧ 0 ≤ high ∧ high ≤ 65535) (h : K (.int .i64 (freeQ l low high held)) hp) : CF Try.prog 54 [ptr p 0] hp K := by
  refine CF.drop (F54_ok _ hp _ ?_)
  unfold F54
  have hr0 := hr
  obtain ⟨a, c, h1, h2, h3⟩ := hr
  have hc2 : ∀ o, hp.cell p o = [Value.slice a l.length c, .int .i64 low, .int .i64 high, .map (some m)][o]? := fun o => HP.cell_of h1
  simp only [Option.isNone_some, ite2_false, ptrN_some, hc2, Nat.zero_add, List.getElem?_cons_succ, List.getElem?_cons_zero, ldV_some, mapV_map]
  unfold F54_j1
  simp only [ite2_false, ptrN_some, hc2, Nat.zero_add, List.getElem?_cons_succ, List.getElem?_cons_zero, ldV_some, mapV_map, slcV_slice, intV_int]
  refine opS_range u158 h3 fun it e hit hI0 => ?_
  have w1 : IntKind.wrap .i64 (high - low) = high - low := w64 (by omega) (by omega)
  have w2 : IntKind.wrap .i64 (high - low + 1) = high - low + 1 := w64 (by omega) (by omega)
  have hmul : ((l.length : Nat) : Int) * (high - low + 1) ≤ 4 * 65536 ∧ -(4 * 65536) ≤ ((l.length : Nat) : Int) * (high - low + 1) := by
    have hl0 : l.length = 0 ∨ l.length = 1 ∨ l.length = 2 ∨ l.length = 3 ∨ l.length = 4 := by omega
    rcases hl0 with e | e | e | e | e <;> rw [e] <;> constructor <;> omega
  have w3 : IntKind.wrap .i64 (((l.length : Nat) : Int) * (high - low + 1)) = ((l.length : Nat) : Int) * (high - low + 1) := w64 (by omega) (by omega)
  rw [w1, w2, w3]
  unfold F54_j3
  unfold freeQ at h
  generalize ((l.length : Nat) : Int) * (high - low + 1) = N at *
  refine LoopP.by (J := fun k (x : Int) hp' => ∃ done : List ((Q × Int) × Bool), HSub hp hp' ∧ IterR hp' it m t4k vb held done ∧ x = N - (done.filter (fun kv => decide (low ≤ kv.1.2) && decide (kv.1.2 ≤ high))).length ∧ k = held.length - done.length) ?_
    (n := held.length - 0) ⟨[], (HSub.refl hp).up hit e, hI0, by simp, rfl⟩
  rintro I k x hp2 ⟨done, hs, hI, rfl, rfl⟩ hgo
  unfold F54_l4
  have hfl := List.length_filter_le (fun kv : (Q × Int) × Bool => decide (low ≤ kv.1.2) && decide (kv.1.2 ≤ high)) done
  have hil := hI.len
  refine opS_next hI ?_ ?_
  · intro hperm
    simp only [tupI]
    show ldV (some (Value.bool false)) _
    rw [ldV_some, boolV_bool, ite2_false]
    unfold F54_j2
    have hpm : done.Perm held := by
      refine perm_of_map (f := fun q : (Q × Int) × Bool => (t4k q.1, vb q.2)) (fun a b e => ?_) hperm
      simp only [Prod.mk.injEq] at e
      exact Prod.ext (enc75.inj _ _ e.1) (vb_inj e.2)
    rw [(hpm.filter _).length_eq]
    exact ⟨hp, hs, h⟩
  · intro kv hkv e2 hI2
    have hlen2 := hI2.step_len
    simp only [tupI]
    show ldV (some (Value.bool true)) _
    rw [ldV_some, boolV_bool, ite2_true]
    refine rdS_entry hI2 ?_
    show ldV (some (t4k kv.1)) _
    rw [ldV_some]
    unfold t4k
    rw [aggV_agg]
    have hz5 : [Value.int .u8 0, .int .u8 0, .int .u8 0, .int .u8 0, .int .i64 0] = t4 (q0, 0) := rfl
    have s2' : HSub hp (hp2.set it e2) := hs.up hit e2
    have hc3 : ∀ o, (hp2.set it e2).cell p o = [Value.slice a l.length c, .int .i64 low, .int .i64 high, .map (some m)][o]? := fun o => HP.cell_of (s2'.cells h1)
    have q2 : (t4 kv.1)[4]? = some (.int .i64 kv.1.2) := rfl
    have hsp : splice (t4 (q0, 0)) 0 (t4 kv.1) = t4 kv.1 := splice_all rfl
    simp only [t4_len, t4_one, if_true, hz5, hsp, q2, ldV_some, intV_int, ptrN_some, hc3, Nat.zero_add, List.getElem?_cons_succ, List.getElem?_cons_zero]
    refine ifI (by omega) ?_
    have fin : ∀ q : Bool, q = (decide (low ≤ kv.1.2) && decide (kv.1.2 ≤ high)) → F54_j5 (some ⟨p, 0, none⟩) (N - (done.filter (fun kv => decide (low ≤ kv.1.2) && decide (kv.1.2 ≤ high))).length) (ptr it 0) q (hp2.set it e2) I (fun v hp' => ∃ hp'', HSub hp'' hp' ∧ K v hp'') := by
      intro q hq
      unfold F54_j5
      have hf : (done ++ [kv]).filter (fun kv => decide (low ≤ kv.1.2) && decide (kv.1.2 ≤ high)) = done.filter (fun kv => decide (low ≤ kv.1.2) && decide (kv.1.2 ≤ high)) ++ if q then [kv] else [] := by
        rw [List.filter_append, hq, List.filter_cons]
        rfl
      have hgo' := hgo (held.length - (done ++ [kv]).length) (N - ((done ++ [kv]).filter (fun kv => decide (low ≤ kv.1.2) && decide (kv.1.2 ≤ high))).length) _ (by simp; omega) ⟨done ++ [kv], s2', hI2, rfl, rfl⟩
      rw [hf] at hgo'
      cases q
      · rw [ite2_false]
        simpa using hgo'
      · rw [ite2_true, w64 (by omega) (by omega)]
        simp only [if_true, List.length_append, List.length_cons, List.length_nil] at hgo'
        have e : N - ((List.filter (fun kv : (Q × Int) × Bool => decide (low ≤ kv.1.2) && decide (kv.1.2 ≤ high)) done).length : Int) - 1 = N - (((List.filter (fun kv : (Q × Int) × Bool => decide (low ≤ kv.1.2) && decide (kv.1.2 ≤ high)) done).length + (0 + 1) : Nat) : Int) := by omega
        rw [e]; exact hgo'
    by_cases hlo : kv.1.2 ≥ low
    · rw [decide_eq_true hlo, ite2_true]
      exact fin _ (by rw [decide_eq_true (by omega : low ≤ kv.1.2), Bool.true_and])
    · rw [decide_eq_false hlo, ite2_false]
      exact fin _ (by rw [decide_eq_false (by omega : ¬ low ≤ kv.1.2), Bool.false_and])
end
end Go.Proofs

set_option linter.unusedVariables false
namespace Go.Proofs
open Go Go.HL

theorem freeAt_some {held : List ((Q × Int) × Bool)} {x : Int} {plain : Bool} {a : Q} {n : Int} {t : Q × Int} (h : freeAt held x plain a n = some t) : t = (a, n) ∧ getL (a, n) held = none ∧ (plain || cls x n) = true := by
  unfold freeAt at h
  split at h
  · rename_i hc
    rw [Bool.and_eq_true] at hc
    cases h
    exact ⟨rfl, by simpa using hc.1, hc.2⟩
  · cases h
theorem freeAt_none {held : List ((Q × Int) × Bool)} {x : Int} {plain : Bool} {a : Q} {n : Int} (h : freeAt held x plain a n = none) (hc : (plain || cls x n) = true) : (getL (a, n) held).isSome = true := by
  unfold freeAt at h
  split at h
  · cases h
  · rename_i hn
    rw [hc, Bool.and_true] at hn
    cases hg : getL (a, n) held with
    | none => rw [hg] at hn; exact absurd rfl hn
    | some v => rfl

theorem find_ports {held : List ((Q × Int) × Bool)} {x : Int} {plain : Bool} {a : Q} {t : Q × Int} : ∀ (k : Nat) (n : Int), (ports k n).findSome? (freeAt held x plain a) = some t →
    t.1 = a ∧ n ≤ t.2 ∧ t.2 < n + k ∧ freeAt held x plain a t.2 = some t ∧ ∀ m, n ≤ m → m < t.2 → freeAt held x plain a m = none
  | 0, n, h => by simp [ports] at h
  | k + 1, n, h => by
    rw [ports, List.findSome?_cons] at h
    cases hf : freeAt held x plain a n with
    | some u =>
      rw [hf] at h
      simp only [Option.some.injEq] at h
      subst h
      have := (freeAt_some hf).1
      subst this
      exact ⟨rfl, by simp, by simp; omega, hf, fun m h1 h2 => by simp at h2; omega⟩
    | none =>
      rw [hf] at h
      obtain ⟨h1, h2, h3, h4, h5⟩ := find_ports k (n + 1) h
      refine ⟨h1, by omega, by omega, h4, fun m hm hm' => ?_⟩
      by_cases e : m = n
      · rw [e]; exact hf
      · exact h5 m (by omega) hm'
theorem none_ports {held : List ((Q × Int) × Bool)} {x : Int} {plain : Bool} {a : Q} : ∀ (k : Nat) (n : Int), (ports k n).findSome? (freeAt held x plain a) = none → ∀ m, n ≤ m → m < n + k → freeAt held x plain a m = none
  | 0, n, h, m, h1, h2 => by omega
  | k + 1, n, h, m, h1, h2 => by
    rw [ports, List.findSome?_cons] at h
    cases hf : freeAt held x plain a n with
    | some u => rw [hf] at h; cases h
    | none =>
      rw [hf] at h
      by_cases e : m = n
      · rw [e]; exact hf
      · exact none_ports k (n + 1) h m (by omega) (by omega)

theorem orderQ_mem {first a : Q} {l : List Q} (h : a ∈ orderQ first l) : a ∈ l := by
  unfold orderQ at h
  split at h
  · rename_i hi
    have hm : first ∈ l := by
      refine Classical.byContradiction fun hn => ?_
      unfold idx at hi; rw [if_neg hn] at hi; omega
    rcases List.mem_cons.1 h with e | h
    · rw [e]; exact hm
    · exact List.mem_of_mem_erase h
  · exact h
theorem orderQ_head {first : Q} {l : List Q} (hm : first ∈ l) : ∃ r, orderQ first l = first :: r := by
  unfold orderQ
  split
  · exact ⟨_, rfl⟩
  · rename_i hi
    unfold idx at hi
    rw [if_pos hm] at hi
    cases l with
    | nil => cases hm
    | cons y l =>
      refine ⟨l, ?_⟩
      have : (y :: l).idxOf first = 0 := by omega
      rw [List.idxOf_cons] at this
      by_cases e : y = first
      · rw [e]
      · have hb : (y == first) = false := by rw [beq_eq_false_iff_ne]; exact e
        rw [hb] at this
        simp at this

theorem takeQ_some {l : List Q} {low high : Int} {held : List ((Q × Int) × Bool)} {first : Q} {x : Int} {plain : Bool} {t : Q × Int} (h : takeQ l low high held first x plain = some t) :
    t.1 ∈ l ∧ low ≤ t.2 ∧ t.2 ≤ high ∧ getL t held = none ∧ (plain || cls x t.2) = true ∧
    (∀ n, low ≤ n → n < t.2 → (plain || cls x n) = true → (getL (t.1, n) held).isSome = true) ∧
    (first ∈ l → t.1 ≠ first → ∀ n, low ≤ n → n ≤ high → (plain || cls x n) = true → (getL (first, n) held).isSome = true) := by
  unfold takeQ at h
  obtain ⟨l1, a, l2, hl, ha, hbefore⟩ := List.findSome?_eq_some_iff.1 h
  have hmem : a ∈ orderQ first l := by rw [hl]; simp
  unfold firstIn at ha
  obtain ⟨h1, h2, h3, h4, h5⟩ := find_ports _ _ ha
  have hf := freeAt_some h4
  have e : (a, t.2) = t := hf.1.symm
  refine ⟨by rw [h1]; exact orderQ_mem hmem, h2, by omega, by rw [← e]; exact hf.2.1, hf.2.2, fun n hn hn' hc => ?_, fun hm hne n hn hn' hc => ?_⟩
  · rw [h1]; exact freeAt_none (h5 n hn hn') hc
  · obtain ⟨r, hr⟩ := orderQ_head hm
    rw [hr] at hl
    cases l1 with
    | nil =>
      simp only [List.nil_append, List.cons.injEq] at hl
      exact absurd (h1.trans hl.1.symm) hne
    | cons y l1 =>
      simp only [List.cons_append, List.cons.injEq] at hl
      have := hbefore y (by simp)
      rw [← hl.1] at this
      unfold firstIn at this
      exact freeAt_none (none_ports _ _ this n hn (by omega)) hc
end Go.Proofs

