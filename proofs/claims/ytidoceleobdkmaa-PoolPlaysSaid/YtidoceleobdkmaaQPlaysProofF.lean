/- Parts of the proof of PlaysProof: the logic of what is known of memory, functions' contracts. -/
import Derived.Test.YtidoceleobdkmaaQPlaysProofE
import Derived.Test.YtidoceleobdkmaaHlAbb
import Derived.Test.YtidoceleobdkmaaProg
import Derived.Test.YtidoceleobdkmaaHlApp
set_option linter.unusedVariables false
set_option maxRecDepth 20000
namespace Go.Proofs
open Go Go.HL
-- 102 (*interpreter/interpreterref18.Pool).Give
section
variable (e : Env) (x0 : Option Addr) (x1 : List Value) (x5 : Int) (k3 : List Value) (hp : HP) (K : Env → PV → HP → Prop)
abbrev R102 (p : List Nat) (n : Nat) := RW Try.prog 26 [3] (opsAt Try.f102 p) (List.range n)
theorem F102_r0 : R102 [0] 2 (upd e 1 (sA x1)) V0 hp K =
    (K (upd (upd (upd e 1 (sA x1)) 3 (sR 3 0)) 4 (sI 0)) (upd V0 3 (75, x1)) hp) := by kernel_rfl
theorem F102_r1 : R102 [1, 0, 0] 4 (upd (upd e 3 (sR 3 0)) 0 (sP x0)) (upd V0 3 (75, k3)) hp K =
    (ldL (cellsN k3 0 5) fun l1 => (CF Try.prog 135 [(.pointer x0), (.agg ⟨l1⟩)] hp fun u2 h3 => (boolV u2 fun q4 => (K (upd (upd (upd (upd (upd (upd e 3 (sR 3 0)) 0 (sP x0)) 6 (sP x0)) 7 (sA l1)) 8 (sB q4)) 9 (sB ((!q4)))) (upd V0 3 (75, k3)) h3)))) := by kernel_rfl
theorem F102_r2 : R102 [1, 0, 1, 0, 0] 1 e V0 hp K =
    (K (upd e 4 (sI 1)) V0 hp) := by kernel_rfl
theorem F102_r3 : R102 [1, 1, 0] 4 (upd (upd e 3 (sR 3 0)) 0 (sP x0)) (upd V0 3 (75, k3)) hp K =
    (ldL (cellsN k3 0 5) fun l1 => (CF Try.prog 134 [(.pointer x0), (.agg ⟨l1⟩)] hp fun u2 h3 => (intV u2 .i64 fun i4 => (K (upd (upd (upd (upd (upd (upd e 3 (sR 3 0)) 0 (sP x0)) 10 (sP x0)) 11 (sA l1)) 12 (sI i4)) 5 (sI i4)) (upd V0 3 (75, k3)) h3)))) := by kernel_rfl
theorem F102_r4 : R102 [1, 1, 1, 0, 0] 2 (upd e 5 (sI x5)) V0 hp K =
    (K (upd (upd (upd e 5 (sI x5)) 13 (sI x5)) 14 (sB (decide (x5 < 0)))) V0 hp) := by kernel_rfl
theorem F102_r5 : R102 [1, 1, 1, 0, 1, 0, 0] 1 e V0 hp K =
    (K (upd e 4 (sI 4)) V0 hp) := by kernel_rfl
theorem F102_r6 : R102 [1, 1, 1, 1, 0, 0] 8 (upd (upd e 5 (sI x5)) 0 (sP x0)) V0 hp K =
    (ptrN x0 fun b1 o2 => (ldV (HP.cell hp b1 (o2 + 3)) fun v3 => (slcV v3 fun a4 n5 c6 => ((0 ≤ x5) ∧ (x5 < n5) ∧ (ptrN a4 fun b7 o8 => (ldV (HP.cell hp b7 ((o8 + Int.toNat x5 * 6) + 5)) fun v9 => (boolV v9 fun q10 => (K (upd (upd (upd (upd (upd (upd (upd (upd (upd (upd e 5 (sI x5)) 0 (sP x0)) 15 (sP x0)) 16 (sQ b1 o2)) 17 (sQ b1 (o2 + 3))) 18 (sS a4 n5 c6)) 19 (sI x5)) 20 (sQ b7 (o8 + Int.toNat x5 * 6))) 21 (sQ b7 ((o8 + Int.toNat x5 * 6) + 5))) 22 (sB q10)) V0 hp)))))))) := by kernel_rfl
theorem F102_r7 : R102 [1, 1, 1, 1, 0, 1, 0, 0] 1 e V0 hp K =
    (K (upd e 4 (sI 11)) V0 hp) := by kernel_rfl
theorem F102_r8 : R102 [1, 1, 1, 1, 1, 0] 3 (upd (upd e 5 (sI x5)) 0 (sP x0)) V0 hp K =
    (CF Try.prog 136 [(.pointer x0), (.int .i64 x5)] hp fun u1 h2 => (K (upd (upd (upd (upd (upd e 5 (sI x5)) 0 (sP x0)) 23 (sP x0)) 24 (sI x5)) 25 (sV u1)) V0 h2)) := by kernel_rfl
theorem F102_r9 : R102 [1, 1, 1, 1, 1, 1, 0] 1 e V0 hp K =
    (K (upd e 4 (sI 0)) V0 hp) := by kernel_rfl
def F102 (x0 : Option Addr) (x1 : List Value) (hp : HP) (K : Value → HP → Prop) : Prop :=
  (ldL (cellsN x1 0 5) fun l_1 => (CF Try.prog 135 [(.pointer x0), (.agg ⟨l_1⟩)] hp fun u_2 h_3 => (boolV u_2 fun q_4 => (ite2 (!q_4) (K (.int .i64 1) h_3) (ldL (cellsN x1 0 5) fun l_5 => (CF Try.prog 134 [(.pointer x0), (.agg ⟨l_5⟩)] h_3 fun u_6 h_7 => (intV u_6 .i64 fun i_8 => (ite2 (decide (i_8 < 0)) (K (.int .i64 4) h_7) (ptrN x0 fun b_9 o_10 => (ldV (HP.cell h_7 b_9 (o_10 + 3)) fun v_11 => (slcV v_11 fun a_12 n_13 c_14 => ((0 ≤ i_8) ∧ (i_8 < n_13) ∧ (ptrN a_12 fun b_15 o_16 => (ldV (HP.cell h_7 b_15 ((o_16 + Int.toNat i_8 * 6) + 5)) fun v_17 => (boolV v_17 fun q_18 => (ite2 q_18 (K (.int .i64 11) h_7) (CF Try.prog 136 [(.pointer x0), (.int .i64 i_8)] h_7 fun u_19 h_20 => (K (.int .i64 0) h_20))))))))))))))))))
noncomputable def F102_code : Code := (.seq (.region 0 (opsAt Try.f102 [0]) false) (.seq (.seq (.region 1 (opsAt Try.f102 [1, 0, 0]) false) (.cond (.tmp 9) (.seq (.region 2 (opsAt Try.f102 [1, 0, 1, 0, 0]) false) .ret) .skip)) (.seq (.region 3 (opsAt Try.f102 [1, 1, 0]) false) (.seq (.seq (.region 4 (opsAt Try.f102 [1, 1, 1, 0, 0]) false) (.cond (.tmp 14) (.seq (.region 5 (opsAt Try.f102 [1, 1, 1, 0, 1, 0, 0]) false) .ret) .skip)) (.seq (.seq (.region 6 (opsAt Try.f102 [1, 1, 1, 1, 0, 0]) false) (.cond (.tmp 22) (.seq (.region 7 (opsAt Try.f102 [1, 1, 1, 1, 0, 1, 0, 0]) false) .ret) .skip)) (.seq (.region 8 (opsAt Try.f102 [1, 1, 1, 1, 1, 0]) false) (.seq (.region 9 (opsAt Try.f102 [1, 1, 1, 1, 1, 1, 0]) false) .ret)))))))
theorem F102_body : Try.f102.body = some F102_code := by kernel_rfl
theorem F102_ok (x0 : Option Addr) (x1 : List Value) (hp : HP) (K : Value → HP → Prop) (h : F102 x0 x1 hp K) : CF Try.prog 102 [(.pointer x0), (.agg ⟨x1⟩)] hp K := by
 refine .inl ⟨by kernel_rfl, AC.intro (N := 26) Try.func102 F102_body rfl (Nat.le_of_ble_eq_true rfl) ?_⟩
 unfold F102 at h
 unfold F102_code
 refine AWP.seq' ?_
 refine AWP.rgn (F102_r0 (upd E0 0 (sP x0)) x1 hp _) ?_ (Ru 1 (Ru 0 Rn)) (Sc rfl (Sc rfl Sn)) Sn
 refine AWP.seq' ?_
 refine AWP.seq' ?_
 refine AWP.rgn (F102_r1 E0 x0 x1 hp _) ?_ (Ru 0 (RefOk.p 3 3 0 Rn (fun e => by cases e))) (Sc rfl (Sc rfl Sn)) (Sc rfl Sn)
 refine mL h fun l_1 h => mC h fun u_2 h_3 h => mB h fun q_4 h => ?_
 refine AWP.cond (t := (!q_4)) rfl (fun e => ?_) (fun e => ?_)
 ·replace h := ite2_t h e
  refine AWP.seq' ?_
  refine AWP.rgn (F102_r2 E0  h_3 _) ?_ Rn Sn Sn
  refine AWP.ret ?_
  exact h
 ·replace h := ite2_f h e
  refine AWP.skip ?_
  refine AWP.seq' ?_
  refine AWP.rgn (F102_r3 E0 x0 x1 h_3 _) ?_ (Ru 0 (RefOk.p 3 3 0 Rn (fun e => by cases e))) (Sc rfl (Sc rfl Sn)) (Sc rfl Sn)
  refine mL h fun l_5 h => mC h fun u_6 h_7 h => mI h fun i_8 h => ?_
  refine AWP.seq' ?_
  refine AWP.seq' ?_
  refine AWP.rgn (F102_r4 (upd E0 0 (sP x0)) i_8 h_7 _) ?_ (Ru 5 (Ru 0 Rn)) (Sc rfl (Sc rfl Sn)) Sn
  refine AWP.cond (t := (decide (i_8 < 0))) rfl (fun e => ?_) (fun e => ?_)
  ·replace h := ite2_t h e
   refine AWP.seq' ?_
   refine AWP.rgn (F102_r5 E0  h_7 _) ?_ Rn Sn Sn
   refine AWP.ret ?_
   exact h
  ·replace h := ite2_f h e
   refine AWP.skip ?_
   refine AWP.seq' ?_
   refine AWP.seq' ?_
   refine AWP.rgn (F102_r6 E0 x0 i_8 h_7 _) ?_ (Ru 0 (Ru 5 Rn)) (Sc rfl (Sc rfl Sn)) Sn
   refine mN h (fun b_9 o_10 h => mV h (fun v_11 h => mS h (fun a_12 n_13 c_14 h => ⟨h.1, h.2.1, mN h.2.2 fun b_15 o_16 h => mV h fun v_17 h => mB h fun q_18 h => ?_⟩)))
   refine AWP.cond (t := q_18) rfl (fun e => ?_) (fun e => ?_)
   ·replace h := ite2_t h e
    refine AWP.seq' ?_
    refine AWP.rgn (F102_r7 E0  h_7 _) ?_ Rn Sn Sn
    refine AWP.ret ?_
    exact h
   ·replace h := ite2_f h e
    refine AWP.skip ?_
    refine AWP.seq' ?_
    refine AWP.rgn (F102_r8 E0 x0 i_8 h_7 _) ?_ (Ru 0 (Ru 5 Rn)) (Sc rfl (Sc rfl Sn)) Sn
    refine mC h fun u_19 h_20 h => ?_
    refine AWP.seq' ?_
    refine AWP.rgn (F102_r9 E0  h_20 _) ?_ Rn Sn Sn
    refine AWP.ret ?_
    exact h
end
-- 103 (*interpreter/interpreterref18.Pool).Reserve
section
variable (e : Env) (x0 : Option Addr) (x1 k3 : List Value) (hp : HP) (K : Env → PV → HP → Prop)
abbrev R103 (p : List Nat) (n : Nat) := RW Try.prog 26 [3] (opsAt Try.f103 p) (List.range n)
theorem F103_r0 : R103 [0] 2 (upd e 1 (sA x1)) V0 hp K =
    (K (upd (upd (upd e 1 (sA x1)) 3 (sR 3 0)) 4 (sI 0)) (upd V0 3 (75, x1)) hp) := by kernel_rfl
theorem F103_r1 : R103 [1, 0, 0] 4 (upd (upd e 3 (sR 3 0)) 0 (sP x0)) (upd V0 3 (75, k3)) hp K =
    (ldL (cellsN k3 0 5) fun l1 => (CF Try.prog 135 [(.pointer x0), (.agg ⟨l1⟩)] hp fun u2 h3 => (boolV u2 fun q4 => (K (upd (upd (upd (upd (upd (upd e 3 (sR 3 0)) 0 (sP x0)) 5 (sP x0)) 6 (sA l1)) 7 (sB q4)) 8 (sB ((!q4)))) (upd V0 3 (75, k3)) h3)))) := by kernel_rfl
theorem F103_r2 : R103 [1, 0, 1, 0, 0] 1 e V0 hp K =
    (K (upd e 4 (sI 1)) V0 hp) := by kernel_rfl
theorem F103_r3 : R103 [1, 1, 0, 0] 4 (upd (upd e 3 (sR 3 0)) 0 (sP x0)) (upd V0 3 (75, k3)) hp K =
    (ldL (cellsN k3 0 5) fun l1 => (CF Try.prog 134 [(.pointer x0), (.agg ⟨l1⟩)] hp fun u2 h3 => (intV u2 .i64 fun i4 => (K (upd (upd (upd (upd (upd (upd e 3 (sR 3 0)) 0 (sP x0)) 9 (sP x0)) 10 (sA l1)) 11 (sI i4)) 12 (sB (decide (i4 ≥ 0)))) (upd V0 3 (75, k3)) h3)))) := by kernel_rfl
theorem F103_r4 : R103 [1, 1, 0, 1, 0, 0] 1 e V0 hp K =
    (K (upd e 4 (sI 5)) V0 hp) := by kernel_rfl
theorem F103_r5 (e : Env) (x0 : Option Addr) (k3 : List Value) (hp : HP) (K : Env → PV → HP → Prop) : RW Try.prog 26 [3] (opsAt Try.f103 [1, 1, 1, 0]) [0, 1, 2, 3, 4, 5, 6, 7, 8, 9, 10, 11, 12, 13] (upd (upd e 3 (sR 3 0)) 0 (sP x0)) (upd V0 3 (75, k3)) hp K =
    (∀ b1 : Nat, hp b1 = .none → (ptrN x0 fun b2 o3 => (ldV (HP.cell (HP.set hp b1 (.cells 167 [] 0)) b2 (o3 + 3)) fun v4 => (slcV v4 fun a5 n6 c7 => (opS Try.prog (Builtin.append_ #[91, 91] 91 ⟨[(.slice (some ⟨b1, 0, none⟩) 0 0), (.slice a5 n6 c7)]⟩) (HP.set hp b1 (.cells 167 [] 0)) fun u8 h9 => (slcV u8 fun a10 n11 c12 => (ldL (cellsN k3 0 5) fun l13 => (if List.length l13 = 5 then (if List.length (List.set (splice [.int .u8 0, .int .u8 0, .int .u8 0, .int .u8 0, .int .i64 0, .bool false] 0 l13) 5 (.bool true)) = 6 then (∀ b14 : Nat, h9 b14 = .none → (opS Try.prog (Builtin.append_ #[91, 91] 91 ⟨[(.slice a10 n11 c12), (.slice (some ⟨b14, 0, none⟩) 1 1)]⟩) (HP.set h9 b14 (.cells 167 (splice [.int .u8 0, .int .u8 0, .int .u8 0, .int .u8 0, .int .i64 0, .bool false] 0 (List.set (splice [.int .u8 0, .int .u8 0, .int .u8 0, .int .u8 0, .int .i64 0, .bool false] 0 l13) 5 (.bool true))) 0)) fun u15 h16 => (slcV u15 fun a17 n18 c19 => (ptrN x0 fun b20 o21 => (HP.st h16 b20 (o21 + 3) (.slice a17 n18 c19) fun h22 => (K (upd (upd (upd (upd (upd (upd (upd (upd (upd (upd (upd (upd (upd (upd (upd e 3 (sR 3 0)) 0 (sP x0)) 13 (sP x0)) 14 (sV (.slice (some ⟨b1, 0, none⟩) 0 0))) 15 (sP x0)) 16 (sQ b2 o3)) 17 (sQ b2 (o3 + 3))) 18 (sS a5 n6 c7)) 19 (sS a10 n11 c12)) 20 (sA l13)) 21 (sV (.agg ⟨(List.set (splice [.int .u8 0, .int .u8 0, .int .u8 0, .int .u8 0, .int .i64 0, .bool false] 0 l13) 5 (.bool true))⟩))) 22 (sV (.slice (some ⟨b14, 0, none⟩) 1 1))) 23 (sS a17 n18 c19)) 24 (sQ b20 o21)) 25 (sQ b20 (o21 + 3))) (upd V0 3 (75, k3)) h22)))))) else False) else False)))))))) := by kernel_rfl
theorem F103_r6 (e : Env) (x0 : Option Addr) (k3 : List Value) (hp : HP) (K : Env → PV → HP → Prop) : RW Try.prog 26 [3] (opsAt Try.f103 [1, 1, 1, 0]) [0, 1, 2, 3, 4, 5, 7, 8, 9, 6, 10, 11, 12, 13] (upd (upd e 3 (sR 3 0)) 0 (sP x0)) (upd V0 3 (75, k3)) hp K =
    (∀ b1 : Nat, hp b1 = .none → (ptrN x0 fun b2 o3 => (ldV (HP.cell (HP.set hp b1 (.cells 167 [] 0)) b2 (o3 + 3)) fun v4 => (slcV v4 fun a5 n6 c7 => (ldL (cellsN k3 0 5) fun l8 => (if List.length l8 = 5 then (if List.length (List.set (splice [.int .u8 0, .int .u8 0, .int .u8 0, .int .u8 0, .int .i64 0, .bool false] 0 l8) 5 (.bool true)) = 6 then (∀ b9 : Nat, (HP.set hp b1 (.cells 167 [] 0)) b9 = .none → (opS Try.prog (Builtin.append_ #[91, 91] 91 ⟨[(.slice (some ⟨b1, 0, none⟩) 0 0), (.slice a5 n6 c7)]⟩) (HP.set (HP.set hp b1 (.cells 167 [] 0)) b9 (.cells 167 (splice [.int .u8 0, .int .u8 0, .int .u8 0, .int .u8 0, .int .i64 0, .bool false] 0 (List.set (splice [.int .u8 0, .int .u8 0, .int .u8 0, .int .u8 0, .int .i64 0, .bool false] 0 l8) 5 (.bool true))) 0)) fun u10 h11 => (slcV u10 fun a12 n13 c14 => (opS Try.prog (Builtin.append_ #[91, 91] 91 ⟨[(.slice a12 n13 c14), (.slice (some ⟨b9, 0, none⟩) 1 1)]⟩) h11 fun u15 h16 => (slcV u15 fun a17 n18 c19 => (ptrN x0 fun b20 o21 => (HP.st h16 b20 (o21 + 3) (.slice a17 n18 c19) fun h22 => (K (upd (upd (upd (upd (upd (upd (upd (upd (upd (upd (upd (upd (upd (upd (upd e 3 (sR 3 0)) 0 (sP x0)) 13 (sP x0)) 14 (sV (.slice (some ⟨b1, 0, none⟩) 0 0))) 15 (sP x0)) 16 (sQ b2 o3)) 17 (sQ b2 (o3 + 3))) 18 (sS a5 n6 c7)) 20 (sA l8)) 21 (sV (.agg ⟨(List.set (splice [.int .u8 0, .int .u8 0, .int .u8 0, .int .u8 0, .int .i64 0, .bool false] 0 l8) 5 (.bool true))⟩))) 22 (sV (.slice (some ⟨b9, 0, none⟩) 1 1))) 19 (sS a12 n13 c14)) 23 (sS a17 n18 c19)) 24 (sQ b20 o21)) 25 (sQ b20 (o21 + 3))) (upd V0 3 (75, k3)) h22)))))))) else False) else False)))))) := by kernel_rfl
theorem F103_r7 (e : Env) (x0 : Option Addr) (k3 : List Value) (hp : HP) (K : Env → PV → HP → Prop) : RW Try.prog 26 [3] (opsAt Try.f103 [1, 1, 1, 0]) [0, 1, 2, 3, 4, 7, 8, 9, 5, 6, 10, 11, 12, 13] (upd (upd e 3 (sR 3 0)) 0 (sP x0)) (upd V0 3 (75, k3)) hp K =
    (∀ b1 : Nat, hp b1 = .none → (ptrN x0 fun b2 o3 => (ldL (cellsN k3 0 5) fun l4 => (if List.length l4 = 5 then (if List.length (List.set (splice [.int .u8 0, .int .u8 0, .int .u8 0, .int .u8 0, .int .i64 0, .bool false] 0 l4) 5 (.bool true)) = 6 then (∀ b5 : Nat, (HP.set hp b1 (.cells 167 [] 0)) b5 = .none → (ldV (HP.cell (HP.set (HP.set hp b1 (.cells 167 [] 0)) b5 (.cells 167 (splice [.int .u8 0, .int .u8 0, .int .u8 0, .int .u8 0, .int .i64 0, .bool false] 0 (List.set (splice [.int .u8 0, .int .u8 0, .int .u8 0, .int .u8 0, .int .i64 0, .bool false] 0 l4) 5 (.bool true))) 0)) b2 (o3 + 3)) fun v6 => (slcV v6 fun a7 n8 c9 => (opS Try.prog (Builtin.append_ #[91, 91] 91 ⟨[(.slice (some ⟨b1, 0, none⟩) 0 0), (.slice a7 n8 c9)]⟩) (HP.set (HP.set hp b1 (.cells 167 [] 0)) b5 (.cells 167 (splice [.int .u8 0, .int .u8 0, .int .u8 0, .int .u8 0, .int .i64 0, .bool false] 0 (List.set (splice [.int .u8 0, .int .u8 0, .int .u8 0, .int .u8 0, .int .i64 0, .bool false] 0 l4) 5 (.bool true))) 0)) fun u10 h11 => (slcV u10 fun a12 n13 c14 => (opS Try.prog (Builtin.append_ #[91, 91] 91 ⟨[(.slice a12 n13 c14), (.slice (some ⟨b5, 0, none⟩) 1 1)]⟩) h11 fun u15 h16 => (slcV u15 fun a17 n18 c19 => (ptrN x0 fun b20 o21 => (HP.st h16 b20 (o21 + 3) (.slice a17 n18 c19) fun h22 => (K (upd (upd (upd (upd (upd (upd (upd (upd (upd (upd (upd (upd (upd (upd (upd e 3 (sR 3 0)) 0 (sP x0)) 13 (sP x0)) 14 (sV (.slice (some ⟨b1, 0, none⟩) 0 0))) 15 (sP x0)) 16 (sQ b2 o3)) 17 (sQ b2 (o3 + 3))) 20 (sA l4)) 21 (sV (.agg ⟨(List.set (splice [.int .u8 0, .int .u8 0, .int .u8 0, .int .u8 0, .int .i64 0, .bool false] 0 l4) 5 (.bool true))⟩))) 22 (sV (.slice (some ⟨b5, 0, none⟩) 1 1))) 18 (sS a7 n8 c9)) 19 (sS a12 n13 c14)) 23 (sS a17 n18 c19)) 24 (sQ b20 o21)) 25 (sQ b20 (o21 + 3))) (upd V0 3 (75, k3)) h22)))))))))) else False) else False)))) := by kernel_rfl
theorem F103_r8 (e : Env) (x0 : Option Addr) (k3 : List Value) (hp : HP) (K : Env → PV → HP → Prop) : RW Try.prog 26 [3] (opsAt Try.f103 [1, 1, 1, 0]) [0, 2, 3, 4, 7, 8, 9, 1, 5, 6, 10, 11, 12, 13] (upd (upd e 3 (sR 3 0)) 0 (sP x0)) (upd V0 3 (75, k3)) hp K =
    (ptrN x0 fun b1 o2 => (ldL (cellsN k3 0 5) fun l3 => (if List.length l3 = 5 then (if List.length (List.set (splice [.int .u8 0, .int .u8 0, .int .u8 0, .int .u8 0, .int .i64 0, .bool false] 0 l3) 5 (.bool true)) = 6 then (∀ b4 : Nat, hp b4 = .none → (∀ b5 : Nat, (HP.set hp b4 (.cells 167 (splice [.int .u8 0, .int .u8 0, .int .u8 0, .int .u8 0, .int .i64 0, .bool false] 0 (List.set (splice [.int .u8 0, .int .u8 0, .int .u8 0, .int .u8 0, .int .i64 0, .bool false] 0 l3) 5 (.bool true))) 0)) b5 = .none → (ldV (HP.cell (HP.set (HP.set hp b4 (.cells 167 (splice [.int .u8 0, .int .u8 0, .int .u8 0, .int .u8 0, .int .i64 0, .bool false] 0 (List.set (splice [.int .u8 0, .int .u8 0, .int .u8 0, .int .u8 0, .int .i64 0, .bool false] 0 l3) 5 (.bool true))) 0)) b5 (.cells 167 [] 0)) b1 (o2 + 3)) fun v6 => (slcV v6 fun a7 n8 c9 => (opS Try.prog (Builtin.append_ #[91, 91] 91 ⟨[(.slice (some ⟨b5, 0, none⟩) 0 0), (.slice a7 n8 c9)]⟩) (HP.set (HP.set hp b4 (.cells 167 (splice [.int .u8 0, .int .u8 0, .int .u8 0, .int .u8 0, .int .i64 0, .bool false] 0 (List.set (splice [.int .u8 0, .int .u8 0, .int .u8 0, .int .u8 0, .int .i64 0, .bool false] 0 l3) 5 (.bool true))) 0)) b5 (.cells 167 [] 0)) fun u10 h11 => (slcV u10 fun a12 n13 c14 => (opS Try.prog (Builtin.append_ #[91, 91] 91 ⟨[(.slice a12 n13 c14), (.slice (some ⟨b4, 0, none⟩) 1 1)]⟩) h11 fun u15 h16 => (slcV u15 fun a17 n18 c19 => (ptrN x0 fun b20 o21 => (HP.st h16 b20 (o21 + 3) (.slice a17 n18 c19) fun h22 => (K (upd (upd (upd (upd (upd (upd (upd (upd (upd (upd (upd (upd (upd (upd (upd e 3 (sR 3 0)) 0 (sP x0)) 13 (sP x0)) 15 (sP x0)) 16 (sQ b1 o2)) 17 (sQ b1 (o2 + 3))) 20 (sA l3)) 21 (sV (.agg ⟨(List.set (splice [.int .u8 0, .int .u8 0, .int .u8 0, .int .u8 0, .int .i64 0, .bool false] 0 l3) 5 (.bool true))⟩))) 22 (sV (.slice (some ⟨b4, 0, none⟩) 1 1))) 14 (sV (.slice (some ⟨b5, 0, none⟩) 0 0))) 18 (sS a7 n8 c9)) 19 (sS a12 n13 c14)) 23 (sS a17 n18 c19)) 24 (sQ b20 o21)) 25 (sQ b20 (o21 + 3))) (upd V0 3 (75, k3)) h22))))))))))) else False) else False))) := by kernel_rfl
theorem F103_r9 (e : Env) (x0 : Option Addr) (k3 : List Value) (hp : HP) (K : Env → PV → HP → Prop) : RW Try.prog 26 [3] (opsAt Try.f103 [1, 1, 1, 0]) [0, 2, 3, 4, 5, 1, 6, 7, 8, 9, 10, 11, 12, 13] (upd (upd e 3 (sR 3 0)) 0 (sP x0)) (upd V0 3 (75, k3)) hp K =
    (ptrN x0 fun b1 o2 => (ldV (HP.cell hp b1 (o2 + 3)) fun v3 => (slcV v3 fun a4 n5 c6 => (∀ b7 : Nat, hp b7 = .none → (opS Try.prog (Builtin.append_ #[91, 91] 91 ⟨[(.slice (some ⟨b7, 0, none⟩) 0 0), (.slice a4 n5 c6)]⟩) (HP.set hp b7 (.cells 167 [] 0)) fun u8 h9 => (slcV u8 fun a10 n11 c12 => (ldL (cellsN k3 0 5) fun l13 => (if List.length l13 = 5 then (if List.length (List.set (splice [.int .u8 0, .int .u8 0, .int .u8 0, .int .u8 0, .int .i64 0, .bool false] 0 l13) 5 (.bool true)) = 6 then (∀ b14 : Nat, h9 b14 = .none → (opS Try.prog (Builtin.append_ #[91, 91] 91 ⟨[(.slice a10 n11 c12), (.slice (some ⟨b14, 0, none⟩) 1 1)]⟩) (HP.set h9 b14 (.cells 167 (splice [.int .u8 0, .int .u8 0, .int .u8 0, .int .u8 0, .int .i64 0, .bool false] 0 (List.set (splice [.int .u8 0, .int .u8 0, .int .u8 0, .int .u8 0, .int .i64 0, .bool false] 0 l13) 5 (.bool true))) 0)) fun u15 h16 => (slcV u15 fun a17 n18 c19 => (ptrN x0 fun b20 o21 => (HP.st h16 b20 (o21 + 3) (.slice a17 n18 c19) fun h22 => (K (upd (upd (upd (upd (upd (upd (upd (upd (upd (upd (upd (upd (upd (upd (upd e 3 (sR 3 0)) 0 (sP x0)) 13 (sP x0)) 15 (sP x0)) 16 (sQ b1 o2)) 17 (sQ b1 (o2 + 3))) 18 (sS a4 n5 c6)) 14 (sV (.slice (some ⟨b7, 0, none⟩) 0 0))) 19 (sS a10 n11 c12)) 20 (sA l13)) 21 (sV (.agg ⟨(List.set (splice [.int .u8 0, .int .u8 0, .int .u8 0, .int .u8 0, .int .i64 0, .bool false] 0 l13) 5 (.bool true))⟩))) 22 (sV (.slice (some ⟨b14, 0, none⟩) 1 1))) 23 (sS a17 n18 c19)) 24 (sQ b20 o21)) 25 (sQ b20 (o21 + 3))) (upd V0 3 (75, k3)) h22)))))) else False) else False)))))))) := by kernel_rfl
theorem F103_r10 (e : Env) (x0 : Option Addr) (k3 : List Value) (hp : HP) (K : Env → PV → HP → Prop) : RW Try.prog 26 [3] (opsAt Try.f103 [1, 1, 1, 0]) [0, 2, 3, 4, 5, 1, 7, 8, 9, 6, 10, 11, 12, 13] (upd (upd e 3 (sR 3 0)) 0 (sP x0)) (upd V0 3 (75, k3)) hp K =
    (ptrN x0 fun b1 o2 => (ldV (HP.cell hp b1 (o2 + 3)) fun v3 => (slcV v3 fun a4 n5 c6 => (∀ b7 : Nat, hp b7 = .none → (ldL (cellsN k3 0 5) fun l8 => (if List.length l8 = 5 then (if List.length (List.set (splice [.int .u8 0, .int .u8 0, .int .u8 0, .int .u8 0, .int .i64 0, .bool false] 0 l8) 5 (.bool true)) = 6 then (∀ b9 : Nat, (HP.set hp b7 (.cells 167 [] 0)) b9 = .none → (opS Try.prog (Builtin.append_ #[91, 91] 91 ⟨[(.slice (some ⟨b7, 0, none⟩) 0 0), (.slice a4 n5 c6)]⟩) (HP.set (HP.set hp b7 (.cells 167 [] 0)) b9 (.cells 167 (splice [.int .u8 0, .int .u8 0, .int .u8 0, .int .u8 0, .int .i64 0, .bool false] 0 (List.set (splice [.int .u8 0, .int .u8 0, .int .u8 0, .int .u8 0, .int .i64 0, .bool false] 0 l8) 5 (.bool true))) 0)) fun u10 h11 => (slcV u10 fun a12 n13 c14 => (opS Try.prog (Builtin.append_ #[91, 91] 91 ⟨[(.slice a12 n13 c14), (.slice (some ⟨b9, 0, none⟩) 1 1)]⟩) h11 fun u15 h16 => (slcV u15 fun a17 n18 c19 => (ptrN x0 fun b20 o21 => (HP.st h16 b20 (o21 + 3) (.slice a17 n18 c19) fun h22 => (K (upd (upd (upd (upd (upd (upd (upd (upd (upd (upd (upd (upd (upd (upd (upd e 3 (sR 3 0)) 0 (sP x0)) 13 (sP x0)) 15 (sP x0)) 16 (sQ b1 o2)) 17 (sQ b1 (o2 + 3))) 18 (sS a4 n5 c6)) 14 (sV (.slice (some ⟨b7, 0, none⟩) 0 0))) 20 (sA l8)) 21 (sV (.agg ⟨(List.set (splice [.int .u8 0, .int .u8 0, .int .u8 0, .int .u8 0, .int .i64 0, .bool false] 0 l8) 5 (.bool true))⟩))) 22 (sV (.slice (some ⟨b9, 0, none⟩) 1 1))) 19 (sS a12 n13 c14)) 23 (sS a17 n18 c19)) 24 (sQ b20 o21)) 25 (sQ b20 (o21 + 3))) (upd V0 3 (75, k3)) h22)))))))) else False) else False)))))) := by kernel_rfl
theorem F103_r11 (e : Env) (x0 : Option Addr) (k3 : List Value) (hp : HP) (K : Env → PV → HP → Prop) : RW Try.prog 26 [3] (opsAt Try.f103 [1, 1, 1, 0]) [0, 2, 3, 4, 5, 7, 8, 9, 1, 6, 10, 11, 12, 13] (upd (upd e 3 (sR 3 0)) 0 (sP x0)) (upd V0 3 (75, k3)) hp K =
    (ptrN x0 fun b1 o2 => (ldV (HP.cell hp b1 (o2 + 3)) fun v3 => (slcV v3 fun a4 n5 c6 => (ldL (cellsN k3 0 5) fun l7 => (if List.length l7 = 5 then (if List.length (List.set (splice [.int .u8 0, .int .u8 0, .int .u8 0, .int .u8 0, .int .i64 0, .bool false] 0 l7) 5 (.bool true)) = 6 then (∀ b8 : Nat, hp b8 = .none → (∀ b9 : Nat, (HP.set hp b8 (.cells 167 (splice [.int .u8 0, .int .u8 0, .int .u8 0, .int .u8 0, .int .i64 0, .bool false] 0 (List.set (splice [.int .u8 0, .int .u8 0, .int .u8 0, .int .u8 0, .int .i64 0, .bool false] 0 l7) 5 (.bool true))) 0)) b9 = .none → (opS Try.prog (Builtin.append_ #[91, 91] 91 ⟨[(.slice (some ⟨b9, 0, none⟩) 0 0), (.slice a4 n5 c6)]⟩) (HP.set (HP.set hp b8 (.cells 167 (splice [.int .u8 0, .int .u8 0, .int .u8 0, .int .u8 0, .int .i64 0, .bool false] 0 (List.set (splice [.int .u8 0, .int .u8 0, .int .u8 0, .int .u8 0, .int .i64 0, .bool false] 0 l7) 5 (.bool true))) 0)) b9 (.cells 167 [] 0)) fun u10 h11 => (slcV u10 fun a12 n13 c14 => (opS Try.prog (Builtin.append_ #[91, 91] 91 ⟨[(.slice a12 n13 c14), (.slice (some ⟨b8, 0, none⟩) 1 1)]⟩) h11 fun u15 h16 => (slcV u15 fun a17 n18 c19 => (ptrN x0 fun b20 o21 => (HP.st h16 b20 (o21 + 3) (.slice a17 n18 c19) fun h22 => (K (upd (upd (upd (upd (upd (upd (upd (upd (upd (upd (upd (upd (upd (upd (upd e 3 (sR 3 0)) 0 (sP x0)) 13 (sP x0)) 15 (sP x0)) 16 (sQ b1 o2)) 17 (sQ b1 (o2 + 3))) 18 (sS a4 n5 c6)) 20 (sA l7)) 21 (sV (.agg ⟨(List.set (splice [.int .u8 0, .int .u8 0, .int .u8 0, .int .u8 0, .int .i64 0, .bool false] 0 l7) 5 (.bool true))⟩))) 22 (sV (.slice (some ⟨b8, 0, none⟩) 1 1))) 14 (sV (.slice (some ⟨b9, 0, none⟩) 0 0))) 19 (sS a12 n13 c14)) 23 (sS a17 n18 c19)) 24 (sQ b20 o21)) 25 (sQ b20 (o21 + 3))) (upd V0 3 (75, k3)) h22))))))))) else False) else False))))) := by kernel_rfl
theorem F103_r12 (e : Env) (x0 : Option Addr) (k3 : List Value) (hp : HP) (K : Env → PV → HP → Prop) : RW Try.prog 26 [3] (opsAt Try.f103 [1, 1, 1, 0]) [0, 2, 3, 4, 7, 8, 9, 5, 1, 6, 10, 11, 12, 13] (upd (upd e 3 (sR 3 0)) 0 (sP x0)) (upd V0 3 (75, k3)) hp K =
    (ptrN x0 fun b1 o2 => (ldL (cellsN k3 0 5) fun l3 => (if List.length l3 = 5 then (if List.length (List.set (splice [.int .u8 0, .int .u8 0, .int .u8 0, .int .u8 0, .int .i64 0, .bool false] 0 l3) 5 (.bool true)) = 6 then (∀ b4 : Nat, hp b4 = .none → (ldV (HP.cell (HP.set hp b4 (.cells 167 (splice [.int .u8 0, .int .u8 0, .int .u8 0, .int .u8 0, .int .i64 0, .bool false] 0 (List.set (splice [.int .u8 0, .int .u8 0, .int .u8 0, .int .u8 0, .int .i64 0, .bool false] 0 l3) 5 (.bool true))) 0)) b1 (o2 + 3)) fun v5 => (slcV v5 fun a6 n7 c8 => (∀ b9 : Nat, (HP.set hp b4 (.cells 167 (splice [.int .u8 0, .int .u8 0, .int .u8 0, .int .u8 0, .int .i64 0, .bool false] 0 (List.set (splice [.int .u8 0, .int .u8 0, .int .u8 0, .int .u8 0, .int .i64 0, .bool false] 0 l3) 5 (.bool true))) 0)) b9 = .none → (opS Try.prog (Builtin.append_ #[91, 91] 91 ⟨[(.slice (some ⟨b9, 0, none⟩) 0 0), (.slice a6 n7 c8)]⟩) (HP.set (HP.set hp b4 (.cells 167 (splice [.int .u8 0, .int .u8 0, .int .u8 0, .int .u8 0, .int .i64 0, .bool false] 0 (List.set (splice [.int .u8 0, .int .u8 0, .int .u8 0, .int .u8 0, .int .i64 0, .bool false] 0 l3) 5 (.bool true))) 0)) b9 (.cells 167 [] 0)) fun u10 h11 => (slcV u10 fun a12 n13 c14 => (opS Try.prog (Builtin.append_ #[91, 91] 91 ⟨[(.slice a12 n13 c14), (.slice (some ⟨b4, 0, none⟩) 1 1)]⟩) h11 fun u15 h16 => (slcV u15 fun a17 n18 c19 => (ptrN x0 fun b20 o21 => (HP.st h16 b20 (o21 + 3) (.slice a17 n18 c19) fun h22 => (K (upd (upd (upd (upd (upd (upd (upd (upd (upd (upd (upd (upd (upd (upd (upd e 3 (sR 3 0)) 0 (sP x0)) 13 (sP x0)) 15 (sP x0)) 16 (sQ b1 o2)) 17 (sQ b1 (o2 + 3))) 20 (sA l3)) 21 (sV (.agg ⟨(List.set (splice [.int .u8 0, .int .u8 0, .int .u8 0, .int .u8 0, .int .i64 0, .bool false] 0 l3) 5 (.bool true))⟩))) 22 (sV (.slice (some ⟨b4, 0, none⟩) 1 1))) 18 (sS a6 n7 c8)) 14 (sV (.slice (some ⟨b9, 0, none⟩) 0 0))) 19 (sS a12 n13 c14)) 23 (sS a17 n18 c19)) 24 (sQ b20 o21)) 25 (sQ b20 (o21 + 3))) (upd V0 3 (75, k3)) h22))))))))))) else False) else False))) := by kernel_rfl
theorem F103_r13 : R103 [1, 1, 1, 1, 0] 1 e V0 hp K =
    (K (upd e 4 (sI 0)) V0 hp) := by kernel_rfl
def F103 (x0 : Option Addr) (x1 : List Value) (hp : HP) (K : Value → HP → Prop) : Prop :=
  (ldL (cellsN x1 0 5) fun l_1 => (CF Try.prog 135 [(.pointer x0), (.agg ⟨l_1⟩)] hp fun u_2 h_3 => (boolV u_2 fun q_4 => (ite2 (!q_4) (K (.int .i64 1) h_3) (ldL (cellsN x1 0 5) fun l_5 => (CF Try.prog 134 [(.pointer x0), (.agg ⟨l_5⟩)] h_3 fun u_6 h_7 => (intV u_6 .i64 fun i_8 => (ite2 (decide (i_8 ≥ 0)) (K (.int .i64 5) h_7) ((∀ b_9 : Nat, h_7 b_9 = .none → (ptrN x0 fun b_10 o_11 => (ldV (HP.cell (HP.set h_7 b_9 (.cells 167 [] 0)) b_10 (o_11 + 3)) fun v_12 => (slcV v_12 fun a_13 n_14 c_15 => (opS Try.prog (Builtin.append_ #[91, 91] 91 ⟨[(.slice (some ⟨b_9, 0, none⟩) 0 0), (.slice a_13 n_14 c_15)]⟩) (HP.set h_7 b_9 (.cells 167 [] 0)) fun u_16 h_17 => (slcV u_16 fun a_18 n_19 c_20 => (ldL (cellsN x1 0 5) fun l_21 => (if List.length l_21 = 5 then (if List.length (List.set (splice [.int .u8 0, .int .u8 0, .int .u8 0, .int .u8 0, .int .i64 0, .bool false] 0 l_21) 5 (.bool true)) = 6 then (∀ b_22 : Nat, h_17 b_22 = .none → (opS Try.prog (Builtin.append_ #[91, 91] 91 ⟨[(.slice a_18 n_19 c_20), (.slice (some ⟨b_22, 0, none⟩) 1 1)]⟩) (HP.set h_17 b_22 (.cells 167 (splice [.int .u8 0, .int .u8 0, .int .u8 0, .int .u8 0, .int .i64 0, .bool false] 0 (List.set (splice [.int .u8 0, .int .u8 0, .int .u8 0, .int .u8 0, .int .i64 0, .bool false] 0 l_21) 5 (.bool true))) 0)) fun u_23 h_24 => (slcV u_23 fun a_25 n_26 c_27 => (ptrN x0 fun b_28 o_29 => (HP.st h_24 b_28 (o_29 + 3) (.slice a_25 n_26 c_27) fun h_30 => (K (.int .i64 0) h_30)))))) else False) else False)))))))) ∧ (∀ b_31 : Nat, h_7 b_31 = .none → (ptrN x0 fun b_32 o_33 => (ldV (HP.cell (HP.set h_7 b_31 (.cells 167 [] 0)) b_32 (o_33 + 3)) fun v_34 => (slcV v_34 fun a_35 n_36 c_37 => (ldL (cellsN x1 0 5) fun l_38 => (if List.length l_38 = 5 then (if List.length (List.set (splice [.int .u8 0, .int .u8 0, .int .u8 0, .int .u8 0, .int .i64 0, .bool false] 0 l_38) 5 (.bool true)) = 6 then (∀ b_39 : Nat, (HP.set h_7 b_31 (.cells 167 [] 0)) b_39 = .none → (opS Try.prog (Builtin.append_ #[91, 91] 91 ⟨[(.slice (some ⟨b_31, 0, none⟩) 0 0), (.slice a_35 n_36 c_37)]⟩) (HP.set (HP.set h_7 b_31 (.cells 167 [] 0)) b_39 (.cells 167 (splice [.int .u8 0, .int .u8 0, .int .u8 0, .int .u8 0, .int .i64 0, .bool false] 0 (List.set (splice [.int .u8 0, .int .u8 0, .int .u8 0, .int .u8 0, .int .i64 0, .bool false] 0 l_38) 5 (.bool true))) 0)) fun u_40 h_41 => (slcV u_40 fun a_42 n_43 c_44 => (opS Try.prog (Builtin.append_ #[91, 91] 91 ⟨[(.slice a_42 n_43 c_44), (.slice (some ⟨b_39, 0, none⟩) 1 1)]⟩) h_41 fun u_45 h_46 => (slcV u_45 fun a_47 n_48 c_49 => (ptrN x0 fun b_50 o_51 => (HP.st h_46 b_50 (o_51 + 3) (.slice a_47 n_48 c_49) fun h_52 => (K (.int .i64 0) h_52)))))))) else False) else False)))))) ∧ (∀ b_53 : Nat, h_7 b_53 = .none → (ptrN x0 fun b_54 o_55 => (ldL (cellsN x1 0 5) fun l_56 => (if List.length l_56 = 5 then (if List.length (List.set (splice [.int .u8 0, .int .u8 0, .int .u8 0, .int .u8 0, .int .i64 0, .bool false] 0 l_56) 5 (.bool true)) = 6 then (∀ b_57 : Nat, (HP.set h_7 b_53 (.cells 167 [] 0)) b_57 = .none → (ldV (HP.cell (HP.set (HP.set h_7 b_53 (.cells 167 [] 0)) b_57 (.cells 167 (splice [.int .u8 0, .int .u8 0, .int .u8 0, .int .u8 0, .int .i64 0, .bool false] 0 (List.set (splice [.int .u8 0, .int .u8 0, .int .u8 0, .int .u8 0, .int .i64 0, .bool false] 0 l_56) 5 (.bool true))) 0)) b_54 (o_55 + 3)) fun v_58 => (slcV v_58 fun a_59 n_60 c_61 => (opS Try.prog (Builtin.append_ #[91, 91] 91 ⟨[(.slice (some ⟨b_53, 0, none⟩) 0 0), (.slice a_59 n_60 c_61)]⟩) (HP.set (HP.set h_7 b_53 (.cells 167 [] 0)) b_57 (.cells 167 (splice [.int .u8 0, .int .u8 0, .int .u8 0, .int .u8 0, .int .i64 0, .bool false] 0 (List.set (splice [.int .u8 0, .int .u8 0, .int .u8 0, .int .u8 0, .int .i64 0, .bool false] 0 l_56) 5 (.bool true))) 0)) fun u_62 h_63 => (slcV u_62 fun a_64 n_65 c_66 => (opS Try.prog (Builtin.append_ #[91, 91] 91 ⟨[(.slice a_64 n_65 c_66), (.slice (some ⟨b_57, 0, none⟩) 1 1)]⟩) h_63 fun u_67 h_68 => (slcV u_67 fun a_69 n_70 c_71 => (ptrN x0 fun b_72 o_73 => (HP.st h_68 b_72 (o_73 + 3) (.slice a_69 n_70 c_71) fun h_74 => (K (.int .i64 0) h_74)))))))))) else False) else False)))) ∧ (ptrN x0 fun b_75 o_76 => (ldL (cellsN x1 0 5) fun l_77 => (if List.length l_77 = 5 then (if List.length (List.set (splice [.int .u8 0, .int .u8 0, .int .u8 0, .int .u8 0, .int .i64 0, .bool false] 0 l_77) 5 (.bool true)) = 6 then (∀ b_78 : Nat, h_7 b_78 = .none → (∀ b_79 : Nat, (HP.set h_7 b_78 (.cells 167 (splice [.int .u8 0, .int .u8 0, .int .u8 0, .int .u8 0, .int .i64 0, .bool false] 0 (List.set (splice [.int .u8 0, .int .u8 0, .int .u8 0, .int .u8 0, .int .i64 0, .bool false] 0 l_77) 5 (.bool true))) 0)) b_79 = .none → (ldV (HP.cell (HP.set (HP.set h_7 b_78 (.cells 167 (splice [.int .u8 0, .int .u8 0, .int .u8 0, .int .u8 0, .int .i64 0, .bool false] 0 (List.set (splice [.int .u8 0, .int .u8 0, .int .u8 0, .int .u8 0, .int .i64 0, .bool false] 0 l_77) 5 (.bool true))) 0)) b_79 (.cells 167 [] 0)) b_75 (o_76 + 3)) fun v_80 => (slcV v_80 fun a_81 n_82 c_83 => (opS Try.prog (Builtin.append_ #[91, 91] 91 ⟨[(.slice (some ⟨b_79, 0, none⟩) 0 0), (.slice a_81 n_82 c_83)]⟩) (HP.set (HP.set h_7 b_78 (.cells 167 (splice [.int .u8 0, .int .u8 0, .int .u8 0, .int .u8 0, .int .i64 0, .bool false] 0 (List.set (splice [.int .u8 0, .int .u8 0, .int .u8 0, .int .u8 0, .int .i64 0, .bool false] 0 l_77) 5 (.bool true))) 0)) b_79 (.cells 167 [] 0)) fun u_84 h_85 => (slcV u_84 fun a_86 n_87 c_88 => (opS Try.prog (Builtin.append_ #[91, 91] 91 ⟨[(.slice a_86 n_87 c_88), (.slice (some ⟨b_78, 0, none⟩) 1 1)]⟩) h_85 fun u_89 h_90 => (slcV u_89 fun a_91 n_92 c_93 => (ptrN x0 fun b_94 o_95 => (HP.st h_90 b_94 (o_95 + 3) (.slice a_91 n_92 c_93) fun h_96 => (K (.int .i64 0) h_96))))))))))) else False) else False))) ∧ (ptrN x0 fun b_97 o_98 => (ldV (HP.cell h_7 b_97 (o_98 + 3)) fun v_99 => (slcV v_99 fun a_100 n_101 c_102 => (∀ b_103 : Nat, h_7 b_103 = .none → (opS Try.prog (Builtin.append_ #[91, 91] 91 ⟨[(.slice (some ⟨b_103, 0, none⟩) 0 0), (.slice a_100 n_101 c_102)]⟩) (HP.set h_7 b_103 (.cells 167 [] 0)) fun u_104 h_105 => (slcV u_104 fun a_106 n_107 c_108 => (ldL (cellsN x1 0 5) fun l_109 => (if List.length l_109 = 5 then (if List.length (List.set (splice [.int .u8 0, .int .u8 0, .int .u8 0, .int .u8 0, .int .i64 0, .bool false] 0 l_109) 5 (.bool true)) = 6 then (∀ b_110 : Nat, h_105 b_110 = .none → (opS Try.prog (Builtin.append_ #[91, 91] 91 ⟨[(.slice a_106 n_107 c_108), (.slice (some ⟨b_110, 0, none⟩) 1 1)]⟩) (HP.set h_105 b_110 (.cells 167 (splice [.int .u8 0, .int .u8 0, .int .u8 0, .int .u8 0, .int .i64 0, .bool false] 0 (List.set (splice [.int .u8 0, .int .u8 0, .int .u8 0, .int .u8 0, .int .i64 0, .bool false] 0 l_109) 5 (.bool true))) 0)) fun u_111 h_112 => (slcV u_111 fun a_113 n_114 c_115 => (ptrN x0 fun b_116 o_117 => (HP.st h_112 b_116 (o_117 + 3) (.slice a_113 n_114 c_115) fun h_118 => (K (.int .i64 0) h_118)))))) else False) else False)))))))) ∧ (ptrN x0 fun b_119 o_120 => (ldV (HP.cell h_7 b_119 (o_120 + 3)) fun v_121 => (slcV v_121 fun a_122 n_123 c_124 => (∀ b_125 : Nat, h_7 b_125 = .none → (ldL (cellsN x1 0 5) fun l_126 => (if List.length l_126 = 5 then (if List.length (List.set (splice [.int .u8 0, .int .u8 0, .int .u8 0, .int .u8 0, .int .i64 0, .bool false] 0 l_126) 5 (.bool true)) = 6 then (∀ b_127 : Nat, (HP.set h_7 b_125 (.cells 167 [] 0)) b_127 = .none → (opS Try.prog (Builtin.append_ #[91, 91] 91 ⟨[(.slice (some ⟨b_125, 0, none⟩) 0 0), (.slice a_122 n_123 c_124)]⟩) (HP.set (HP.set h_7 b_125 (.cells 167 [] 0)) b_127 (.cells 167 (splice [.int .u8 0, .int .u8 0, .int .u8 0, .int .u8 0, .int .i64 0, .bool false] 0 (List.set (splice [.int .u8 0, .int .u8 0, .int .u8 0, .int .u8 0, .int .i64 0, .bool false] 0 l_126) 5 (.bool true))) 0)) fun u_128 h_129 => (slcV u_128 fun a_130 n_131 c_132 => (opS Try.prog (Builtin.append_ #[91, 91] 91 ⟨[(.slice a_130 n_131 c_132), (.slice (some ⟨b_127, 0, none⟩) 1 1)]⟩) h_129 fun u_133 h_134 => (slcV u_133 fun a_135 n_136 c_137 => (ptrN x0 fun b_138 o_139 => (HP.st h_134 b_138 (o_139 + 3) (.slice a_135 n_136 c_137) fun h_140 => (K (.int .i64 0) h_140)))))))) else False) else False)))))) ∧ (ptrN x0 fun b_141 o_142 => (ldV (HP.cell h_7 b_141 (o_142 + 3)) fun v_143 => (slcV v_143 fun a_144 n_145 c_146 => (ldL (cellsN x1 0 5) fun l_147 => (if List.length l_147 = 5 then (if List.length (List.set (splice [.int .u8 0, .int .u8 0, .int .u8 0, .int .u8 0, .int .i64 0, .bool false] 0 l_147) 5 (.bool true)) = 6 then (∀ b_148 : Nat, h_7 b_148 = .none → (∀ b_149 : Nat, (HP.set h_7 b_148 (.cells 167 (splice [.int .u8 0, .int .u8 0, .int .u8 0, .int .u8 0, .int .i64 0, .bool false] 0 (List.set (splice [.int .u8 0, .int .u8 0, .int .u8 0, .int .u8 0, .int .i64 0, .bool false] 0 l_147) 5 (.bool true))) 0)) b_149 = .none → (opS Try.prog (Builtin.append_ #[91, 91] 91 ⟨[(.slice (some ⟨b_149, 0, none⟩) 0 0), (.slice a_144 n_145 c_146)]⟩) (HP.set (HP.set h_7 b_148 (.cells 167 (splice [.int .u8 0, .int .u8 0, .int .u8 0, .int .u8 0, .int .i64 0, .bool false] 0 (List.set (splice [.int .u8 0, .int .u8 0, .int .u8 0, .int .u8 0, .int .i64 0, .bool false] 0 l_147) 5 (.bool true))) 0)) b_149 (.cells 167 [] 0)) fun u_150 h_151 => (slcV u_150 fun a_152 n_153 c_154 => (opS Try.prog (Builtin.append_ #[91, 91] 91 ⟨[(.slice a_152 n_153 c_154), (.slice (some ⟨b_148, 0, none⟩) 1 1)]⟩) h_151 fun u_155 h_156 => (slcV u_155 fun a_157 n_158 c_159 => (ptrN x0 fun b_160 o_161 => (HP.st h_156 b_160 (o_161 + 3) (.slice a_157 n_158 c_159) fun h_162 => (K (.int .i64 0) h_162))))))))) else False) else False))))) ∧ (ptrN x0 fun b_163 o_164 => (ldL (cellsN x1 0 5) fun l_165 => (if List.length l_165 = 5 then (if List.length (List.set (splice [.int .u8 0, .int .u8 0, .int .u8 0, .int .u8 0, .int .i64 0, .bool false] 0 l_165) 5 (.bool true)) = 6 then (∀ b_166 : Nat, h_7 b_166 = .none → (ldV (HP.cell (HP.set h_7 b_166 (.cells 167 (splice [.int .u8 0, .int .u8 0, .int .u8 0, .int .u8 0, .int .i64 0, .bool false] 0 (List.set (splice [.int .u8 0, .int .u8 0, .int .u8 0, .int .u8 0, .int .i64 0, .bool false] 0 l_165) 5 (.bool true))) 0)) b_163 (o_164 + 3)) fun v_167 => (slcV v_167 fun a_168 n_169 c_170 => (∀ b_171 : Nat, (HP.set h_7 b_166 (.cells 167 (splice [.int .u8 0, .int .u8 0, .int .u8 0, .int .u8 0, .int .i64 0, .bool false] 0 (List.set (splice [.int .u8 0, .int .u8 0, .int .u8 0, .int .u8 0, .int .i64 0, .bool false] 0 l_165) 5 (.bool true))) 0)) b_171 = .none → (opS Try.prog (Builtin.append_ #[91, 91] 91 ⟨[(.slice (some ⟨b_171, 0, none⟩) 0 0), (.slice a_168 n_169 c_170)]⟩) (HP.set (HP.set h_7 b_166 (.cells 167 (splice [.int .u8 0, .int .u8 0, .int .u8 0, .int .u8 0, .int .i64 0, .bool false] 0 (List.set (splice [.int .u8 0, .int .u8 0, .int .u8 0, .int .u8 0, .int .i64 0, .bool false] 0 l_165) 5 (.bool true))) 0)) b_171 (.cells 167 [] 0)) fun u_172 h_173 => (slcV u_172 fun a_174 n_175 c_176 => (opS Try.prog (Builtin.append_ #[91, 91] 91 ⟨[(.slice a_174 n_175 c_176), (.slice (some ⟨b_166, 0, none⟩) 1 1)]⟩) h_173 fun u_177 h_178 => (slcV u_177 fun a_179 n_180 c_181 => (ptrN x0 fun b_182 o_183 => (HP.st h_178 b_182 (o_183 + 3) (.slice a_179 n_180 c_181) fun h_184 => (K (.int .i64 0) h_184))))))))))) else False) else False))))))))))))
noncomputable def F103_code : Code := (.seq (.region 0 (opsAt Try.f103 [0]) false) (.seq (.seq (.region 1 (opsAt Try.f103 [1, 0, 0]) false) (.cond (.tmp 8) (.seq (.region 2 (opsAt Try.f103 [1, 0, 1, 0, 0]) false) .ret) .skip)) (.seq (.seq (.region 3 (opsAt Try.f103 [1, 1, 0, 0]) false) (.cond (.tmp 12) (.seq (.region 4 (opsAt Try.f103 [1, 1, 0, 1, 0, 0]) false) .ret) .skip)) (.seq (.region 5 (opsAt Try.f103 [1, 1, 1, 0]) true) (.seq (.region 6 (opsAt Try.f103 [1, 1, 1, 1, 0]) false) .ret)))))
theorem F103_body : Try.f103.body = some F103_code := by kernel_rfl
theorem F103_ok (x0 : Option Addr) (x1 : List Value) (hp : HP) (K : Value → HP → Prop) (h : F103 x0 x1 hp K) : CF Try.prog 103 [(.pointer x0), (.agg ⟨x1⟩)] hp K := by
 refine .inl ⟨by kernel_rfl, AC.intro (N := 26) Try.func103 F103_body rfl (Nat.le_of_ble_eq_true rfl) ?_⟩
 unfold F103 at h
 unfold F103_code
 refine AWP.seq' ?_
 refine AWP.rgn (F103_r0 (upd E0 0 (sP x0)) x1 hp _) ?_ (Ru 1 (Ru 0 Rn)) (Sc rfl (Sc rfl Sn)) Sn
 refine AWP.seq' ?_
 refine AWP.seq' ?_
 refine AWP.rgn (F103_r1 E0 x0 x1 hp _) ?_ (Ru 0 (RefOk.p 3 3 0 Rn (fun e => by cases e))) (Sc rfl (Sc rfl Sn)) (Sc rfl Sn)
 refine mL h fun l_1 h => mC h fun u_2 h_3 h => mB h fun q_4 h => ?_
 refine AWP.cond (t := (!q_4)) rfl (fun e => ?_) (fun e => ?_)
 ·replace h := ite2_t h e
  refine AWP.seq' ?_
  refine AWP.rgn (F103_r2 E0  h_3 _) ?_ Rn Sn Sn
  refine AWP.ret ?_
  exact h
 ·replace h := ite2_f h e
  refine AWP.skip ?_
  refine AWP.seq' ?_
  refine AWP.seq' ?_
  refine AWP.rgn (F103_r3 E0 x0 x1 h_3 _) ?_ (Ru 0 (RefOk.p 3 3 0 Rn (fun e => by cases e))) (Sc rfl (Sc rfl Sn)) (Sc rfl Sn)
  refine mL h fun l_5 h => mC h fun u_6 h_7 h => mI h fun i_8 h => ?_
  refine AWP.cond (t := (decide (i_8 ≥ 0))) rfl (fun e => ?_) (fun e => ?_)
  ·replace h := ite2_t h e
   refine AWP.seq' ?_
   refine AWP.rgn (F103_r4 E0  h_7 _) ?_ Rn Sn Sn
   refine AWP.ret ?_
   exact h
  ·replace h := ite2_f h e
   refine AWP.skip ?_
   refine AWP.seq' ?_
   refine AWP.rgnC (cf := [(1, 5), (1, 9), (5, 9), (6, 9)]) (c := [([true, true, true, true], true, [0, 1, 2, 3, 4, 5, 6, 7, 8, 9, 10, 11, 12, 13]), ([true, true, true, false], true, [0, 1, 2, 3, 4, 5, 7, 8, 9, 6, 10, 11, 12, 13]), ([true, true, false, true], false, [5, 6, 9, 5]), ([true, true, false, false], true, [0, 1, 2, 3, 4, 7, 8, 9, 5, 6, 10, 11, 12, 13]), ([true, false, true, true], false, [1, 5, 9, 1]), ([true, false, true, false], false, [1, 5, 9, 1]), ([true, false, false, true], false, [1, 6, 9, 1]), ([true, false, false, false], true, [0, 2, 3, 4, 7, 8, 9, 1, 5, 6, 10, 11, 12, 13]), ([false, true, true, true], true, [0, 2, 3, 4, 5, 1, 6, 7, 8, 9, 10, 11, 12, 13]), ([false, true, true, false], true, [0, 2, 3, 4, 5, 1, 7, 8, 9, 6, 10, 11, 12, 13]), ([false, true, false, true], false, [1, 9, 5, 1]), ([false, true, false, false], false, [1, 9, 5, 1]), ([false, false, true, true], false, [1, 6, 9, 1]), ([false, false, true, false], true, [0, 2, 3, 4, 5, 7, 8, 9, 1, 6, 10, 11, 12, 13]), ([false, false, false, true], false, [1, 6, 9, 5, 1]), ([false, false, false, false], true, [0, 2, 3, 4, 7, 8, 9, 5, 1, 6, 10, 11, 12, 13])]) (by kernel_rfl) (by kernel_rfl) (by kernel_rfl) (by kernel_rfl) (allO_t (Eq.mpr (F103_r5 E0 x0 x1 h_7 _) ?_) (allO_t (Eq.mpr (F103_r6 E0 x0 x1 h_7 _) ?_) (allO_f (allO_t (Eq.mpr (F103_r7 E0 x0 x1 h_7 _) ?_) (allO_f (allO_f (allO_f (allO_t (Eq.mpr (F103_r8 E0 x0 x1 h_7 _) ?_) (allO_t (Eq.mpr (F103_r9 E0 x0 x1 h_7 _) ?_) (allO_t (Eq.mpr (F103_r10 E0 x0 x1 h_7 _) ?_) (allO_f (allO_f (allO_f (allO_t (Eq.mpr (F103_r11 E0 x0 x1 h_7 _) ?_) (allO_f (allO_t (Eq.mpr (F103_r12 E0 x0 x1 h_7 _) ?_) trivial)))))))))))))))) (Ru 0 (RefOk.p 3 3 0 Rn (fun e => by cases e))) (Sc rfl (Sc rfl Sn)) (Sc rfl Sn)
   ·replace h := h.1
    refine fun b_9 hb_b_9 => ?_
    replace h := h b_9 hb_b_9
    refine mN h fun b_10 o_11 h => mV h fun v_12 h => mS h fun a_13 n_14 c_15 h => mO h fun u_16 h_17 h => mS h fun a_18 n_19 c_20 h => mL h fun l_21 h => mf h fun h => mf h fun h => ?_
    refine fun b_22 hb_b_22 => ?_
    replace h := h b_22 hb_b_22
    refine mO h fun u_23 h_24 h => mS h fun a_25 n_26 c_27 h => mN h fun b_28 o_29 h => mw h fun h_30 h => ?_
    refine AWP.seq' ?_
    refine AWP.rgn (F103_r13 E0  h_30 _) ?_ Rn Sn Sn
    refine AWP.ret ?_
    exact h
   ·replace h := h.2.1
    refine fun b_31 hb_b_31 => ?_
    replace h := h b_31 hb_b_31
    refine mN h fun b_32 o_33 h => mV h fun v_34 h => mS h fun a_35 n_36 c_37 h => mL h fun l_38 h => mf h fun h => mf h fun h => ?_
    refine fun b_39 hb_b_39 => ?_
    replace h := h b_39 hb_b_39
    refine mO h fun u_40 h_41 h => mS h fun a_42 n_43 c_44 h => mO h fun u_45 h_46 h => mS h fun a_47 n_48 c_49 h => mN h fun b_50 o_51 h => mw h fun h_52 h => ?_
    refine AWP.seq' ?_
    refine AWP.rgn (F103_r13 E0  h_52 _) ?_ Rn Sn Sn
    refine AWP.ret ?_
    exact h
   ·replace h := h.2.2.1
    refine fun b_53 hb_b_53 => ?_
    replace h := h b_53 hb_b_53
    refine mN h fun b_54 o_55 h => mL h fun l_56 h => mf h fun h => mf h fun h => ?_
    refine fun b_57 hb_b_57 => ?_
    replace h := h b_57 hb_b_57
    refine mV h fun v_58 h => mS h fun a_59 n_60 c_61 h => mO h fun u_62 h_63 h => mS h fun a_64 n_65 c_66 h => mO h fun u_67 h_68 h => mS h fun a_69 n_70 c_71 h => mN h fun b_72 o_73 h => mw h fun h_74 h => ?_
    refine AWP.seq' ?_
    refine AWP.rgn (F103_r13 E0  h_74 _) ?_ Rn Sn Sn
    refine AWP.ret ?_
    exact h
   ·replace h := h.2.2.2.1
    refine mN h fun b_75 o_76 h => mL h fun l_77 h => mf h fun h => mf h fun h => ?_
    refine fun b_78 hb_b_78 => ?_
    replace h := h b_78 hb_b_78
    refine fun b_79 hb_b_79 => ?_
    replace h := h b_79 hb_b_79
    refine mV h fun v_80 h => mS h fun a_81 n_82 c_83 h => mO h fun u_84 h_85 h => mS h fun a_86 n_87 c_88 h => mO h fun u_89 h_90 h => mS h fun a_91 n_92 c_93 h => mN h fun b_94 o_95 h => mw h fun h_96 h => ?_
    refine AWP.seq' ?_
    refine AWP.rgn (F103_r13 E0  h_96 _) ?_ Rn Sn Sn
    refine AWP.ret ?_
    exact h
   ·replace h := h.2.2.2.2.1
    refine mN h fun b_97 o_98 h => mV h fun v_99 h => mS h fun a_100 n_101 c_102 h => ?_
    refine fun b_103 hb_b_103 => ?_
    replace h := h b_103 hb_b_103
    refine mO h fun u_104 h_105 h => mS h fun a_106 n_107 c_108 h => mL h fun l_109 h => mf h fun h => mf h fun h => ?_
    refine fun b_110 hb_b_110 => ?_
    replace h := h b_110 hb_b_110
    refine mO h fun u_111 h_112 h => mS h fun a_113 n_114 c_115 h => mN h fun b_116 o_117 h => mw h fun h_118 h => ?_
    refine AWP.seq' ?_
    refine AWP.rgn (F103_r13 E0  h_118 _) ?_ Rn Sn Sn
    refine AWP.ret ?_
    exact h
   ·replace h := h.2.2.2.2.2.1
    refine mN h fun b_119 o_120 h => mV h fun v_121 h => mS h fun a_122 n_123 c_124 h => ?_
    refine fun b_125 hb_b_125 => ?_
    replace h := h b_125 hb_b_125
    refine mL h fun l_126 h => mf h fun h => mf h fun h => ?_
    refine fun b_127 hb_b_127 => ?_
    replace h := h b_127 hb_b_127
    refine mO h fun u_128 h_129 h => mS h fun a_130 n_131 c_132 h => mO h fun u_133 h_134 h => mS h fun a_135 n_136 c_137 h => mN h fun b_138 o_139 h => mw h fun h_140 h => ?_
    refine AWP.seq' ?_
    refine AWP.rgn (F103_r13 E0  h_140 _) ?_ Rn Sn Sn
    refine AWP.ret ?_
    exact h
   ·replace h := h.2.2.2.2.2.2.1
    refine mN h fun b_141 o_142 h => mV h fun v_143 h => mS h fun a_144 n_145 c_146 h => mL h fun l_147 h => mf h fun h => mf h fun h => ?_
    refine fun b_148 hb_b_148 => ?_
    replace h := h b_148 hb_b_148
    refine fun b_149 hb_b_149 => ?_
    replace h := h b_149 hb_b_149
    refine mO h fun u_150 h_151 h => mS h fun a_152 n_153 c_154 h => mO h fun u_155 h_156 h => mS h fun a_157 n_158 c_159 h => mN h fun b_160 o_161 h => mw h fun h_162 h => ?_
    refine AWP.seq' ?_
    refine AWP.rgn (F103_r13 E0  h_162 _) ?_ Rn Sn Sn
    refine AWP.ret ?_
    exact h
   ·replace h := h.2.2.2.2.2.2.2
    refine mN h fun b_163 o_164 h => mL h fun l_165 h => mf h fun h => mf h fun h => ?_
    refine fun b_166 hb_b_166 => ?_
    replace h := h b_166 hb_b_166
    refine mV h fun v_167 h => mS h fun a_168 n_169 c_170 h => ?_
    refine fun b_171 hb_b_171 => ?_
    replace h := h b_171 hb_b_171
    refine mO h fun u_172 h_173 h => mS h fun a_174 n_175 c_176 h => mO h fun u_177 h_178 h => mS h fun a_179 n_180 c_181 h => mN h fun b_182 o_183 h => mw h fun h_184 h => ?_
    refine AWP.seq' ?_
    refine AWP.rgn (F103_r13 E0  h_184 _) ?_ Rn Sn Sn
    refine AWP.ret ?_
    exact h
end
-- 104 (*interpreter/interpreterref18.Pool).Release
section
variable (e : Env) (x0 : Option Addr) (x1 : List Value) (x5 : Int) (k3 : List Value) (hp : HP) (K : Env → PV → HP → Prop)
abbrev R104 (p : List Nat) (n : Nat) := RW Try.prog 29 [3] (opsAt Try.f104 p) (List.range n)
theorem F104_r0 : R104 [0] 2 (upd e 1 (sA x1)) V0 hp K =
    (K (upd (upd (upd e 1 (sA x1)) 3 (sR 3 0)) 4 (sI 0)) (upd V0 3 (75, x1)) hp) := by kernel_rfl
theorem F104_r1 : R104 [1, 0, 0] 4 (upd (upd e 3 (sR 3 0)) 0 (sP x0)) (upd V0 3 (75, k3)) hp K =
    (ldL (cellsN k3 0 5) fun l1 => (CF Try.prog 135 [(.pointer x0), (.agg ⟨l1⟩)] hp fun u2 h3 => (boolV u2 fun q4 => (K (upd (upd (upd (upd (upd (upd e 3 (sR 3 0)) 0 (sP x0)) 6 (sP x0)) 7 (sA l1)) 8 (sB q4)) 9 (sB ((!q4)))) (upd V0 3 (75, k3)) h3)))) := by kernel_rfl
theorem F104_r2 : R104 [1, 0, 1, 0, 0] 1 e V0 hp K =
    (K (upd e 4 (sI 1)) V0 hp) := by kernel_rfl
theorem F104_r3 : R104 [1, 1, 0] 4 (upd (upd e 3 (sR 3 0)) 0 (sP x0)) (upd V0 3 (75, k3)) hp K =
    (ldL (cellsN k3 0 5) fun l1 => (CF Try.prog 134 [(.pointer x0), (.agg ⟨l1⟩)] hp fun u2 h3 => (intV u2 .i64 fun i4 => (K (upd (upd (upd (upd (upd (upd e 3 (sR 3 0)) 0 (sP x0)) 10 (sP x0)) 11 (sA l1)) 12 (sI i4)) 5 (sI i4)) (upd V0 3 (75, k3)) h3)))) := by kernel_rfl
theorem F104_r4 : R104 [1, 1, 1, 0, 1, 0, 0] 1 e V0 hp K =
    (K (upd e 4 (sI 4)) V0 hp) := by kernel_rfl
theorem F104_r5 : R104 [1, 1, 1, 1, 0] 3 (upd (upd e 5 (sI x5)) 0 (sP x0)) V0 hp K =
    (CF Try.prog 136 [(.pointer x0), (.int .i64 x5)] hp fun u1 h2 => (K (upd (upd (upd (upd (upd e 5 (sI x5)) 0 (sP x0)) 26 (sP x0)) 27 (sI x5)) 28 (sV u1)) V0 h2)) := by kernel_rfl
theorem F104_r6 : R104 [1, 1, 1, 1, 1, 0] 1 e V0 hp K =
    (K (upd e 4 (sI 0)) V0 hp) := by kernel_rfl
def F104_j1 (x0 : Option Addr) (x5 : Int) (x25 : Bool) (hp : HP) (K : Value → HP → Prop) : Prop :=
  (ite2 x25 (K (.int .i64 4) hp) (CF Try.prog 136 [(.pointer x0), (.int .i64 x5)] hp fun u_9 h_10 => (K (.int .i64 0) h_10)))
theorem F104_r7 : R104 [1, 1, 1, 0, 0] 13 (upd (upd e 5 (sI x5)) 0 (sP x0)) V0 hp K =
    (ite2 (decide (x5 < 0)) (K (upd (upd (upd (upd (upd (upd (upd (upd (upd (upd (upd (upd (upd (upd (upd e 5 (sI x5)) 0 (sP x0)) 13 (sI x5)) 14 (sB (decide (x5 < 0)))) 15 (sB true)) 16 sU) 17 sU) 18 sU) 19 sU) 20 sU) 21 sU) 22 sU) 23 sU) 24 sU) 25 (sB true)) V0 hp) (ptrN x0 fun b1 o2 => (ldV (HP.cell hp b1 (o2 + 3)) fun v3 => (slcV v3 fun a4 n5 c6 => ((0 ≤ x5) ∧ (x5 < n5) ∧ (ptrN a4 fun b7 o8 => (ldV (HP.cell hp b7 ((o8 + Int.toNat x5 * 6) + 5)) fun v9 => (boolV v9 fun q10 => (K (upd (upd (upd (upd (upd (upd (upd (upd (upd (upd (upd (upd (upd (upd (upd e 5 (sI x5)) 0 (sP x0)) 13 (sI x5)) 14 (sB (decide (x5 < 0)))) 15 (sB false)) 16 (sP x0)) 17 (sQ b1 o2)) 18 (sQ b1 (o2 + 3))) 19 (sS a4 n5 c6)) 20 (sI x5)) 21 (sQ b7 (o8 + Int.toNat x5 * 6))) 22 (sQ b7 ((o8 + Int.toNat x5 * 6) + 5))) 23 (sB q10)) 24 (sB ((!q10)))) 25 (sB ((!q10)))) V0 hp))))))))) := by kernel_rfl
def F104 (x0 : Option Addr) (x1 : List Value) (hp : HP) (K : Value → HP → Prop) : Prop :=
  (ldL (cellsN x1 0 5) fun l_1 => (CF Try.prog 135 [(.pointer x0), (.agg ⟨l_1⟩)] hp fun u_2 h_3 => (boolV u_2 fun q_4 => (ite2 (!q_4) (K (.int .i64 1) h_3) (ldL (cellsN x1 0 5) fun l_5 => (CF Try.prog 134 [(.pointer x0), (.agg ⟨l_5⟩)] h_3 fun u_6 h_7 => (intV u_6 .i64 fun i_8 => (ite2 (decide (i_8 < 0)) (F104_j1 x0 i_8 true h_7  K) (ptrN x0 fun b_11 o_12 => (ldV (HP.cell h_7 b_11 (o_12 + 3)) fun v_13 => (slcV v_13 fun a_14 n_15 c_16 => ((0 ≤ i_8) ∧ (i_8 < n_15) ∧ (ptrN a_14 fun b_17 o_18 => (ldV (HP.cell h_7 b_17 ((o_18 + Int.toNat i_8 * 6) + 5)) fun v_19 => (boolV v_19 fun q_20 => (F104_j1 x0 i_8 (!q_20) h_7  K))))))))))))))))
noncomputable def F104_code : Code := (.seq (.region 0 (opsAt Try.f104 [0]) false) (.seq (.seq (.region 1 (opsAt Try.f104 [1, 0, 0]) false) (.cond (.tmp 9) (.seq (.region 2 (opsAt Try.f104 [1, 0, 1, 0, 0]) false) .ret) .skip)) (.seq (.region 3 (opsAt Try.f104 [1, 1, 0]) false) (.seq (.seq (.region 4 (opsAt Try.f104 [1, 1, 1, 0, 0]) false) (.cond (.tmp 25) (.seq (.region 5 (opsAt Try.f104 [1, 1, 1, 0, 1, 0, 0]) false) .ret) .skip)) (.seq (.region 6 (opsAt Try.f104 [1, 1, 1, 1, 0]) false) (.seq (.region 7 (opsAt Try.f104 [1, 1, 1, 1, 1, 0]) false) .ret))))))
theorem F104_body : Try.f104.body = some F104_code := by kernel_rfl
theorem F104_ok (x0 : Option Addr) (x1 : List Value) (hp : HP) (K : Value → HP → Prop) (h : F104 x0 x1 hp K) : CF Try.prog 104 [(.pointer x0), (.agg ⟨x1⟩)] hp K := by
 refine .inl ⟨by kernel_rfl, AC.intro (N := 29) Try.func104 F104_body rfl (Nat.le_of_ble_eq_true rfl) ?_⟩
 unfold F104 at h
 unfold F104_code
 refine AWP.seq' ?_
 refine AWP.rgn (F104_r0 (upd E0 0 (sP x0)) x1 hp _) ?_ (Ru 1 (Ru 0 Rn)) (Sc rfl (Sc rfl Sn)) Sn
 refine AWP.seq' ?_
 refine AWP.seq' ?_
 refine AWP.rgn (F104_r1 E0 x0 x1 hp _) ?_ (Ru 0 (RefOk.p 3 3 0 Rn (fun e => by cases e))) (Sc rfl (Sc rfl Sn)) (Sc rfl Sn)
 refine mL h fun l_1 h => mC h fun u_2 h_3 h => mB h fun q_4 h => ?_
 refine AWP.cond (t := (!q_4)) rfl (fun e => ?_) (fun e => ?_)
 ·replace h := ite2_t h e
  refine AWP.seq' ?_
  refine AWP.rgn (F104_r2 E0  h_3 _) ?_ Rn Sn Sn
  refine AWP.ret ?_
  exact h
 ·replace h := ite2_f h e
  refine AWP.skip ?_
  refine AWP.seq' ?_
  refine AWP.rgn (F104_r3 E0 x0 x1 h_3 _) ?_ (Ru 0 (RefOk.p 3 3 0 Rn (fun e => by cases e))) (Sc rfl (Sc rfl Sn)) (Sc rfl Sn)
  refine mL h fun l_5 h => mC h fun u_6 h_7 h => mI h fun i_8 h => ?_
  refine AWP.seq' ?_
  refine AWP.seq (fun env pv hp => ∃ (x0 : Option Addr) (x5 : Int) (x25 : Bool), Sub (upd (upd (upd E0 25 (sB x25)) 5 (sI x5)) 0 (sP x0)) env ∧ Sub V0 pv ∧ (F104_j1 x0 x5 x25 hp  K)) ?_ ?_
  ·refine AWP.rgn (F104_r7 E0 x0 i_8 h_7 _) ?_ (Ru 0 (Ru 5 Rn)) (Sc rfl (Sc rfl Sn)) Sn
   refine mt h (fun h => ?_) (fun h => ?_)
   ·exact ⟨x0, i_8, true, (Sc rfl (Sc rfl (Sc rfl Sn))), Sn, h⟩
   ·refine mN h (fun b_11 o_12 h => mV h (fun v_13 h => mS h (fun a_14 n_15 c_16 h => ⟨h.1, h.2.1, mN h.2.2 fun b_17 o_18 h => mV h fun v_19 h => mB h fun q_20 h => ?_⟩)))
    exact ⟨x0, i_8, (!q_20), (Sc rfl (Sc rfl (Sc rfl Sn))), Sn, h⟩
  ·rintro env pv hp ⟨x0, x5, x25, he, hv, h⟩
   refine AWP.sub (env' := (upd (upd (upd E0 25 (sB x25)) 5 (sI x5)) 0 (sP x0))) (pv' := V0) ?_ (Ru 0 (Ru 5 (Ru 25 Rn))) he hv (HSub.refl _)
   clear he hv
   unfold F104_j1 at h
   refine AWP.cond (t := x25) rfl (fun e => ?_) (fun e => ?_)
   ·replace h := ite2_t h e
    refine AWP.seq' ?_
    refine AWP.rgn (F104_r4 E0  hp _) ?_ Rn Sn Sn
    refine AWP.ret ?_
    exact h
   ·replace h := ite2_f h e
    refine AWP.skip ?_
    refine AWP.seq' ?_
    refine AWP.rgn (F104_r5 E0 x0 x5 hp _) ?_ (Ru 0 (Ru 5 Rn)) (Sc rfl (Sc rfl Sn)) Sn
    refine mC h fun u_9 h_10 h => ?_
    refine AWP.seq' ?_
    refine AWP.rgn (F104_r6 E0  h_10 _) ?_ Rn Sn Sn
    refine AWP.ret ?_
    exact h
end
-- 105 (*interpreter/interpreterref18.Pool).Is
section
variable (e : Env) (x0 : Option Addr) (x1 : List Value) (x6 : Int) (k3 : List Value) (hp : HP) (K : Env → PV → HP → Prop)
abbrev R105 (p : List Nat) (n : Nat) := RW Try.prog 29 [3] (opsAt Try.f105 p) (List.range n)
theorem F105_r0 : R105 [0] 3 (upd e 1 (sA x1)) V0 hp K =
    (K (upd (upd (upd (upd e 1 (sA x1)) 3 (sR 3 0)) 4 (sB false)) 5 (sB false)) (upd V0 3 (75, x1)) hp) := by kernel_rfl
theorem F105_r1 : R105 [1, 0] 4 (upd (upd e 3 (sR 3 0)) 0 (sP x0)) (upd V0 3 (75, k3)) hp K =
    (ldL (cellsN k3 0 5) fun l1 => (CF Try.prog 134 [(.pointer x0), (.agg ⟨l1⟩)] hp fun u2 h3 => (intV u2 .i64 fun i4 => (K (upd (upd (upd (upd (upd (upd e 3 (sR 3 0)) 0 (sP x0)) 7 (sP x0)) 8 (sA l1)) 9 (sI i4)) 6 (sI i4)) (upd V0 3 (75, k3)) h3)))) := by kernel_rfl
theorem F105_r2 : R105 [1, 1, 0, 0] 2 (upd e 6 (sI x6)) V0 hp K =
    (K (upd (upd (upd e 6 (sI x6)) 10 (sI x6)) 11 (sB (decide (x6 < 0)))) V0 hp) := by kernel_rfl
theorem F105_r3 : R105 [1, 1, 0, 1, 0, 0] 2 e V0 hp K =
    (K (upd (upd e 4 (sB false)) 5 (sB false)) V0 hp) := by kernel_rfl
theorem F105_r4 : R105 [1, 1, 1, 0] 19 (upd (upd e 6 (sI x6)) 0 (sP x0)) V0 hp K =
    (ptrN x0 fun b1 o2 => (ldV (HP.cell hp b1 (o2 + 3)) fun v3 => (slcV v3 fun a4 n5 c6 => ((0 ≤ x6) ∧ (x6 < n5) ∧ (ptrN a4 fun b7 o8 => (ldV (HP.cell hp b7 ((o8 + Int.toNat x6 * 6) + 5)) fun v9 => (boolV v9 fun q10 => (ptrN x0 fun b11 o12 => (ldV (HP.cell hp b11 (o12 + 3)) fun v13 => (slcV v13 fun a14 n15 c16 => ((0 ≤ x6) ∧ (x6 < n15) ∧ (ptrN a14 fun b17 o18 => (ldV (HP.cell hp b17 ((o18 + Int.toNat x6 * 6) + 5)) fun v19 => (boolV v19 fun q20 => (K (upd (upd (upd (upd (upd (upd (upd (upd (upd (upd (upd (upd (upd (upd (upd (upd (upd (upd (upd (upd (upd e 6 (sI x6)) 0 (sP x0)) 12 (sP x0)) 13 (sQ b1 o2)) 14 (sQ b1 (o2 + 3))) 15 (sS a4 n5 c6)) 16 (sI x6)) 17 (sQ b7 (o8 + Int.toNat x6 * 6))) 18 (sQ b7 ((o8 + Int.toNat x6 * 6) + 5))) 19 (sB q10)) 20 (sB ((!q10)))) 21 (sP x0)) 22 (sQ b11 o12)) 23 (sQ b11 (o12 + 3))) 24 (sS a14 n15 c16)) 25 (sI x6)) 26 (sQ b17 (o18 + Int.toNat x6 * 6))) 27 (sQ b17 ((o18 + Int.toNat x6 * 6) + 5))) 28 (sB q20)) 4 (sB ((!q10)))) 5 (sB q20)) V0 hp))))))))))))))) := by kernel_rfl
def F105 (x0 : Option Addr) (x1 : List Value) (hp : HP) (K : Value → HP → Prop) : Prop :=
  (ldL (cellsN x1 0 5) fun l_1 => (CF Try.prog 134 [(.pointer x0), (.agg ⟨l_1⟩)] hp fun u_2 h_3 => (intV u_2 .i64 fun i_4 => (ite2 (decide (i_4 < 0)) (K (.tuple ⟨[.bool false, .bool false]⟩) h_3) (ptrN x0 fun b_5 o_6 => (ldV (HP.cell h_3 b_5 (o_6 + 3)) fun v_7 => (slcV v_7 fun a_8 n_9 c_10 => ((0 ≤ i_4) ∧ (i_4 < n_9) ∧ (ptrN a_8 fun b_11 o_12 => (ldV (HP.cell h_3 b_11 ((o_12 + Int.toNat i_4 * 6) + 5)) fun v_13 => (boolV v_13 fun q_14 => (ptrN x0 fun b_15 o_16 => (ldV (HP.cell h_3 b_15 (o_16 + 3)) fun v_17 => (slcV v_17 fun a_18 n_19 c_20 => ((0 ≤ i_4) ∧ (i_4 < n_19) ∧ (ptrN a_18 fun b_21 o_22 => (ldV (HP.cell h_3 b_21 ((o_22 + Int.toNat i_4 * 6) + 5)) fun v_23 => (boolV v_23 fun q_24 => (K (.tuple ⟨[(.bool (!q_14)), (.bool q_24)]⟩) h_3)))))))))))))))))))
noncomputable def F105_code : Code := (.seq (.region 0 (opsAt Try.f105 [0]) false) (.seq (.region 1 (opsAt Try.f105 [1, 0]) false) (.seq (.seq (.region 2 (opsAt Try.f105 [1, 1, 0, 0]) false) (.cond (.tmp 11) (.seq (.region 3 (opsAt Try.f105 [1, 1, 0, 1, 0, 0]) false) .ret) .skip)) (.seq (.region 4 (opsAt Try.f105 [1, 1, 1, 0]) true) .ret))))
theorem F105_body : Try.f105.body = some F105_code := by kernel_rfl
theorem F105_ok (x0 : Option Addr) (x1 : List Value) (hp : HP) (K : Value → HP → Prop) (h : F105 x0 x1 hp K) : CF Try.prog 105 [(.pointer x0), (.agg ⟨x1⟩)] hp K := by
 refine .inl ⟨by kernel_rfl, AC.intro (N := 29) Try.func105 F105_body rfl (Nat.le_of_ble_eq_true rfl) ?_⟩
 unfold F105 at h
 unfold F105_code
 refine AWP.seq' ?_
 refine AWP.rgn (F105_r0 (upd E0 0 (sP x0)) x1 hp _) ?_ (Ru 1 (Ru 0 Rn)) (Sc rfl (Sc rfl Sn)) Sn
 refine AWP.seq' ?_
 refine AWP.rgn (F105_r1 E0 x0 x1 hp _) ?_ (Ru 0 (RefOk.p 3 3 0 Rn (fun e => by cases e))) (Sc rfl (Sc rfl Sn)) (Sc rfl Sn)
 refine mL h fun l_1 h => mC h fun u_2 h_3 h => mI h fun i_4 h => ?_
 refine AWP.seq' ?_
 refine AWP.seq' ?_
 refine AWP.rgn (F105_r2 (upd E0 0 (sP x0)) i_4 h_3 _) ?_ (Ru 6 (Ru 0 Rn)) (Sc rfl (Sc rfl Sn)) Sn
 refine AWP.cond (t := (decide (i_4 < 0))) rfl (fun e => ?_) (fun e => ?_)
 ·replace h := ite2_t h e
  refine AWP.seq' ?_
  refine AWP.rgn (F105_r3 E0  h_3 _) ?_ Rn Sn Sn
  refine AWP.ret ?_
  exact h
 ·replace h := ite2_f h e
  refine AWP.skip ?_
  refine AWP.seq' ?_
  refine AWP.rgnD (by kernel_rfl) (by kernel_rfl) (F105_r4 E0 x0 i_4 h_3 _) ?_ (Ru 0 (Ru 6 Rn)) (Sc rfl (Sc rfl Sn)) Sn
  refine mN h (fun b_5 o_6 h => mV h (fun v_7 h => mS h (fun a_8 n_9 c_10 h => ⟨h.1, h.2.1, mN h.2.2 (fun b_11 o_12 h => mV h (fun v_13 h => mB h (fun q_14 h => mN h (fun b_15 o_16 h => mV h (fun v_17 h => mS h (fun a_18 n_19 c_20 h => ⟨h.1, h.2.1, mN h.2.2 fun b_21 o_22 h => mV h fun v_23 h => mB h fun q_24 h => ?_⟩))))))⟩)))
  refine AWP.ret ?_
  exact h
end
-- 106 (*interpreter/interpreterref18.Pool).Has
section
variable (e : Env) (x0 : Option Addr) (x1 : List Value) (x5 : Int) (k3 : List Value) (hp : HP) (K : Env → PV → HP → Prop)
abbrev R106 (p : List Nat) (n : Nat) := RW Try.prog 24 [3] (opsAt Try.f106 p) (List.range n)
theorem F106_r0 : R106 [0] 2 (upd e 1 (sA x1)) V0 hp K =
    (K (upd (upd (upd e 1 (sA x1)) 3 (sR 3 0)) 4 (sB false)) (upd V0 3 (73, x1)) hp) := by kernel_rfl
theorem F106_r1 : R106 [1, 0, 1, 0, 0, 0, 0] 7 (upd (upd e 5 (sI x5)) 0 (sP x0)) (upd V0 3 (73, k3)) hp K =
    (ptrN x0 fun b1 o2 => (ldV (HP.cell hp b1 (o2 + 0)) fun v3 => (slcV v3 fun a4 n5 c6 => (K (upd (upd (upd (upd (upd (upd (upd (upd (upd e 5 (sI x5)) 0 (sP x0)) 6 (sI x5)) 7 (sP x0)) 8 (sQ b1 o2)) 9 (sQ b1 (o2 + 0))) 10 (sS a4 n5 c6)) 11 (sI ((n5 : Nat)))) 12 (sB ((decide (x5 < n5))))) (upd V0 3 (73, k3)) hp)))) := by kernel_rfl
theorem F106_r2 : R106 [1, 0, 1, 0, 0, 1, 0, 0, 0] 9 (upd (upd (upd e 5 (sI x5)) 3 (sR 3 0)) 0 (sP x0)) (upd V0 3 (73, k3)) hp K =
    (ptrN x0 fun b1 o2 => (ldV (HP.cell hp b1 (o2 + 0)) fun v3 => (slcV v3 fun a4 n5 c6 => ((0 ≤ x5) ∧ (x5 < n5) ∧ (ptrN a4 fun b7 o8 => (ldL (HP.cellN hp b7 (o8 + Int.toNat x5 * 4) 4) fun l9 => (ldL (cellsN k3 0 4) fun l10 => (eqAgg Try.prog 73 l9 l10 fun q11 => (K (upd (upd (upd (upd (upd (upd (upd (upd (upd (upd (upd (upd e 5 (sI x5)) 3 (sR 3 0)) 0 (sP x0)) 15 (sP x0)) 16 (sQ b1 o2)) 17 (sQ b1 (o2 + 0))) 18 (sS a4 n5 c6)) 19 (sI x5)) 20 (sQ b7 (o8 + Int.toNat x5 * 4))) 21 (sA l9)) 22 (sA l10)) 23 (sB q11)) (upd V0 3 (73, k3)) hp))))))))) := by kernel_rfl
theorem F106_r3 : R106 [1, 0, 1, 0, 0, 1, 0, 0, 1, 0, 0] 1 e V0 hp K =
    (K (upd e 4 (sB true)) V0 hp) := by kernel_rfl
theorem F106_r4 : R106 [1, 0, 1, 0, 0, 1, 1] 3 (upd e 5 (sI x5)) (upd V0 3 (73, k3)) hp K =
    (K (upd (upd (upd (upd e 5 (sI x5)) 13 (sI x5)) 14 (sI ((wr (x5 + 1))))) 5 (sI ((wr (x5 + 1))))) (upd V0 3 (73, k3)) hp) := by kernel_rfl
theorem F106_r5 : R106 [1, 1, 0] 1 e V0 hp K =
    (K (upd e 4 (sB false)) V0 hp) := by kernel_rfl
def F106_l2 (x0 : Option Addr) (k3 : List Value) (K : Value → HP → Prop) (I2 : (Int) → HP → Prop) (x5 : Int) (hp : HP) : Prop :=
  (ptrN x0 fun b_1 o_2 => (ldV (HP.cell hp b_1 (o_2 + 0)) fun v_3 => (slcV v_3 fun a_4 n_5 c_6 => (ite2 (decide (x5 < n_5)) (ptrN x0 fun b_7 o_8 => (ldV (HP.cell hp b_7 (o_8 + 0)) fun v_9 => (slcV v_9 fun a_10 n_11 c_12 => ((0 ≤ x5) ∧ (x5 < n_11) ∧ (ptrN a_10 fun b_13 o_14 => (ldL (HP.cellN hp b_13 (o_14 + Int.toNat x5 * 4) 4) fun l_15 => (ldL (cellsN k3 0 4) fun l_16 => (eqAgg Try.prog 73 l_15 l_16 fun q_17 => (ite2 q_17 (K (.bool true) hp) (I2 (IntKind.wrap .i64 (x5 + 1)) hp)))))))))) (K (.bool false) hp)))))
def F106_j1 (x0 : Option Addr) (x5 : Int) (k3 : List Value) (hp : HP) (K : Value → HP → Prop) : Prop :=
  (LoopP (σ := Int) (fun I s hp => F106_l2 x0 k3  K I s hp) x5 hp)
theorem F106_r6 : R106 [1, 0, 0] 1 e (upd V0 3 (73, k3)) hp K =
    (K (upd e 5 (sI 0)) (upd V0 3 (73, k3)) hp) := by kernel_rfl
def F106 (x0 : Option Addr) (x1 : List Value) (hp : HP) (K : Value → HP → Prop) : Prop :=
  (F106_j1 x0 0 x1 hp  K)
noncomputable def F106_code : Code := (.seq (.region 0 (opsAt Try.f106 [0]) false) (.seq (.seq (.region 1 (opsAt Try.f106 [1, 0, 0]) false) (.block 0 (.loop (.seq (.seq (.region 2 (opsAt Try.f106 [1, 0, 1, 0, 0, 0, 0]) false) (.cond (.tmp 12) .skip (.exit 0))) (.seq (.block 1 (.seq (.region 4 (opsAt Try.f106 [1, 0, 1, 0, 0, 1, 0, 0, 0]) true) (.cond (.tmp 23) (.seq (.region 5 (opsAt Try.f106 [1, 0, 1, 0, 0, 1, 0, 0, 1, 0, 0]) false) .ret) .skip))) (.region 3 (opsAt Try.f106 [1, 0, 1, 0, 0, 1, 1]) false)))))) (.seq (.region 6 (opsAt Try.f106 [1, 1, 0]) false) .ret)))
theorem F106_body : Try.f106.body = some F106_code := by kernel_rfl
theorem F106_ok (x0 : Option Addr) (x1 : List Value) (hp : HP) (K : Value → HP → Prop) (h : F106 x0 x1 hp K) : CF Try.prog 106 [(.pointer x0), (.agg ⟨x1⟩)] hp K := by
 refine .inl ⟨by kernel_rfl, AC.intro (N := 24) Try.func106 F106_body rfl (Nat.le_of_ble_eq_true rfl) ?_⟩
 unfold F106 at h
 unfold F106_code
 refine AWP.seq' ?_
 refine AWP.rgn (F106_r0 (upd E0 0 (sP x0)) x1 hp _) ?_ (Ru 1 (Ru 0 Rn)) (Sc rfl (Sc rfl Sn)) Sn
 refine AWP.seq' ?_
 refine AWP.seq (fun env pv hp => ∃ (x0 : Option Addr) (x5 : Int) (k3 : List Value), Sub (upd (upd (upd E0 5 (sI x5)) 3 (sR 3 0)) 0 (sP x0)) env ∧ Sub (upd V0 3 (73, k3)) pv ∧ (F106_j1 x0 x5 k3 hp  K)) ?_ ?_
 ·refine AWP.rgn (F106_r6 (upd (upd E0 3 (sR 3 0)) 0 (sP x0)) x1 hp _) ?_ (Ru 0 (RefOk.p 3 3 0 Rn (fun e => by cases e))) (Sc rfl (Sc rfl Sn)) (Sc rfl Sn)
  exact ⟨x0, 0, x1, (Sc rfl (Sc rfl (Sc rfl Sn))), (Sc rfl Sn), h⟩
 ·rintro env pv hp ⟨x0, x5, k3, he, hv, h⟩
  refine AWP.sub (env' := (upd (upd (upd E0 5 (sI x5)) 3 (sR 3 0)) 0 (sP x0))) (pv' := (upd V0 3 (73, k3))) ?_ (Ru 0 (RefOk.p 3 3 0 (Ru 5 Rn) (fun e => by cases e))) he hv (HSub.refl _)
  clear he hv
  unfold F106_j1 at h
  refine AWP.block ?_
  refine AWP.loop (σ := Int) (fun I s hp => F106_l2 x0 k3  K I s hp) (fun s => (upd (upd (upd E0 5 (sI s)) 3 (sR 3 0)) 0 (sP x0))) (fun s => (upd V0 3 (73, k3))) x5 h (fun s => (Ru 0 (RefOk.p 3 3 0 (Ru 5 Rn) (fun e => by cases e)))) (Sc rfl (Sc rfl (Sc rfl Sn))) (Sc rfl Sn) ?_
  intro I2 s hp h
  obtain ⟨x5, hs⟩ : ∃ x, x = s := ⟨s, rfl⟩
  subst hs
  replace h : F106_l2 x0 k3  K I2 x5 hp := h
  unfold F106_l2 at h
  refine AWP.seq' ?_
  refine AWP.seq' ?_
  refine AWP.rgn (F106_r1 (upd E0 3 (sR 3 0)) x0 x5 k3 hp _) ?_ (Ru 0 (Ru 5 (RefOk.p 3 3 0 Rn (fun e => by cases e)))) (Sc rfl (Sc rfl (Sc rfl Sn))) (Sc rfl Sn)
  refine mN h fun b_1 o_2 h => mV h fun v_3 h => mS h fun a_4 n_5 c_6 h => ?_
  refine AWP.cond (t := (decide (x5 < n_5))) rfl (fun e => ?_) (fun e => ?_)
  ·replace h := ite2_t h e
   refine AWP.skip ?_
   refine AWP.seq' ?_
   refine AWP.block ?_
   refine AWP.seq' ?_
   refine AWP.rgnD (by kernel_rfl) (by kernel_rfl) (F106_r2 E0 x0 x5 k3 hp _) ?_ (Ru 0 (RefOk.p 3 3 0 (Ru 5 Rn) (fun e => by cases e))) (Sc rfl (Sc rfl (Sc rfl Sn))) (Sc rfl Sn)
   refine mN h (fun b_7 o_8 h => mV h (fun v_9 h => mS h (fun a_10 n_11 c_12 h => ⟨h.1, h.2.1, mN h.2.2 fun b_13 o_14 h => mL h fun l_15 h => mL h fun l_16 h => mE h fun q_17 h => ?_⟩)))
   refine AWP.cond (t := q_17) rfl (fun e => ?_) (fun e => ?_)
   ·replace h := ite2_t h e
    refine AWP.seq' ?_
    refine AWP.rgn (F106_r3 E0  hp _) ?_ Rn Sn Sn
    refine AWP.ret ?_
    exact h
   ·replace h := ite2_f h e
    refine AWP.skip ?_
    refine AWP.rgn (F106_r4 (upd (upd E0 3 (sR 3 0)) 0 (sP x0)) x5 k3 hp _) ?_ (Ru 5 (Ru 0 (RefOk.p 3 3 0 Rn (fun e => by cases e)))) (Sc rfl (Sc rfl (Sc rfl Sn))) (Sc rfl Sn)
    exact ⟨(wr (x5 + 1)), (Sc rfl (Sc rfl (Sc rfl Sn))), (Sc rfl Sn), h⟩
  ·replace h := ite2_f h e
   refine AWP.exit ?_
   refine AWP.seq' ?_
   refine AWP.rgn (F106_r5 E0  hp _) ?_ Rn Sn Sn
   refine AWP.ret ?_
   exact h
end
-- 134 (*interpreter/interpreterref18.Pool).find
section
variable (e : Env) (x0 : Option Addr) (x1 : List Value) (x5 : Int) (k3 : List Value) (hp : HP) (K : Env → PV → HP → Prop)
abbrev R134 (p : List Nat) (n : Nat) := RW Try.prog 26 [3] (opsAt Try.f134 p) (List.range n)
theorem F134_r0 : R134 [0] 2 (upd e 1 (sA x1)) V0 hp K =
    (K (upd (upd (upd e 1 (sA x1)) 3 (sR 3 0)) 4 (sI 0)) (upd V0 3 (75, x1)) hp) := by kernel_rfl
theorem F134_r1 : R134 [1, 0, 1, 0, 0, 0, 0] 7 (upd (upd e 5 (sI x5)) 0 (sP x0)) (upd V0 3 (75, k3)) hp K =
    (ptrN x0 fun b1 o2 => (ldV (HP.cell hp b1 (o2 + 3)) fun v3 => (slcV v3 fun a4 n5 c6 => (K (upd (upd (upd (upd (upd (upd (upd (upd (upd e 5 (sI x5)) 0 (sP x0)) 6 (sI x5)) 7 (sP x0)) 8 (sQ b1 o2)) 9 (sQ b1 (o2 + 3))) 10 (sS a4 n5 c6)) 11 (sI ((n5 : Nat)))) 12 (sB ((decide (x5 < n5))))) (upd V0 3 (75, k3)) hp)))) := by kernel_rfl
theorem F134_r2 : R134 [1, 0, 1, 0, 0, 1, 0, 0, 0] 10 (upd (upd (upd e 5 (sI x5)) 3 (sR 3 0)) 0 (sP x0)) (upd V0 3 (75, k3)) hp K =
    (ptrN x0 fun b1 o2 => (ldV (HP.cell hp b1 (o2 + 3)) fun v3 => (slcV v3 fun a4 n5 c6 => ((0 ≤ x5) ∧ (x5 < n5) ∧ (ptrN a4 fun b7 o8 => (ldL (HP.cellN hp b7 ((o8 + Int.toNat x5 * 6) + 0) 5) fun l9 => (ldL (cellsN k3 0 5) fun l10 => (eqAgg Try.prog 75 l9 l10 fun q11 => (K (upd (upd (upd (upd (upd (upd (upd (upd (upd (upd (upd (upd (upd e 5 (sI x5)) 3 (sR 3 0)) 0 (sP x0)) 15 (sP x0)) 16 (sQ b1 o2)) 17 (sQ b1 (o2 + 3))) 18 (sS a4 n5 c6)) 19 (sI x5)) 20 (sQ b7 (o8 + Int.toNat x5 * 6))) 21 (sQ b7 ((o8 + Int.toNat x5 * 6) + 0))) 22 (sA l9)) 23 (sA l10)) 24 (sB q11)) (upd V0 3 (75, k3)) hp))))))))) := by kernel_rfl
theorem F134_r3 : R134 [1, 0, 1, 0, 0, 1, 0, 0, 1, 0, 0] 2 (upd e 5 (sI x5)) V0 hp K =
    (K (upd (upd (upd e 5 (sI x5)) 25 (sI x5)) 4 (sI x5)) V0 hp) := by kernel_rfl
theorem F134_r4 : R134 [1, 0, 1, 0, 0, 1, 1] 3 (upd e 5 (sI x5)) (upd V0 3 (75, k3)) hp K =
    (K (upd (upd (upd (upd e 5 (sI x5)) 13 (sI x5)) 14 (sI ((wr (x5 + 1))))) 5 (sI ((wr (x5 + 1))))) (upd V0 3 (75, k3)) hp) := by kernel_rfl
theorem F134_r5 : R134 [1, 1, 0] 1 e V0 hp K =
    (K (upd e 4 (sI ((-1)))) V0 hp) := by kernel_rfl
def F134_l2 (x0 : Option Addr) (k3 : List Value) (K : Value → HP → Prop) (I2 : (Int) → HP → Prop) (x5 : Int) (hp : HP) : Prop :=
  (ptrN x0 fun b_1 o_2 => (ldV (HP.cell hp b_1 (o_2 + 3)) fun v_3 => (slcV v_3 fun a_4 n_5 c_6 => (ite2 (decide (x5 < n_5)) (ptrN x0 fun b_7 o_8 => (ldV (HP.cell hp b_7 (o_8 + 3)) fun v_9 => (slcV v_9 fun a_10 n_11 c_12 => ((0 ≤ x5) ∧ (x5 < n_11) ∧ (ptrN a_10 fun b_13 o_14 => (ldL (HP.cellN hp b_13 ((o_14 + Int.toNat x5 * 6) + 0) 5) fun l_15 => (ldL (cellsN k3 0 5) fun l_16 => (eqAgg Try.prog 75 l_15 l_16 fun q_17 => (ite2 q_17 (K (.int .i64 x5) hp) (I2 (IntKind.wrap .i64 (x5 + 1)) hp)))))))))) (K (.int .i64 (-1)) hp)))))
def F134_j1 (x0 : Option Addr) (x5 : Int) (k3 : List Value) (hp : HP) (K : Value → HP → Prop) : Prop :=
  (LoopP (σ := Int) (fun I s hp => F134_l2 x0 k3  K I s hp) x5 hp)
theorem F134_r6 : R134 [1, 0, 0] 1 e (upd V0 3 (75, k3)) hp K =
    (K (upd e 5 (sI 0)) (upd V0 3 (75, k3)) hp) := by kernel_rfl
def F134 (x0 : Option Addr) (x1 : List Value) (hp : HP) (K : Value → HP → Prop) : Prop :=
  (F134_j1 x0 0 x1 hp  K)
noncomputable def F134_code : Code := (.seq (.region 0 (opsAt Try.f134 [0]) false) (.seq (.seq (.region 1 (opsAt Try.f134 [1, 0, 0]) false) (.block 0 (.loop (.seq (.seq (.region 2 (opsAt Try.f134 [1, 0, 1, 0, 0, 0, 0]) false) (.cond (.tmp 12) .skip (.exit 0))) (.seq (.block 1 (.seq (.region 4 (opsAt Try.f134 [1, 0, 1, 0, 0, 1, 0, 0, 0]) true) (.cond (.tmp 24) (.seq (.region 5 (opsAt Try.f134 [1, 0, 1, 0, 0, 1, 0, 0, 1, 0, 0]) false) .ret) .skip))) (.region 3 (opsAt Try.f134 [1, 0, 1, 0, 0, 1, 1]) false)))))) (.seq (.region 6 (opsAt Try.f134 [1, 1, 0]) false) .ret)))
theorem F134_body : Try.f134.body = some F134_code := by kernel_rfl
theorem F134_ok (x0 : Option Addr) (x1 : List Value) (hp : HP) (K : Value → HP → Prop) (h : F134 x0 x1 hp K) : CF Try.prog 134 [(.pointer x0), (.agg ⟨x1⟩)] hp K := by
 refine .inl ⟨by kernel_rfl, AC.intro (N := 26) Try.func134 F134_body rfl (Nat.le_of_ble_eq_true rfl) ?_⟩
 unfold F134 at h
 unfold F134_code
 refine AWP.seq' ?_
 refine AWP.rgn (F134_r0 (upd E0 0 (sP x0)) x1 hp _) ?_ (Ru 1 (Ru 0 Rn)) (Sc rfl (Sc rfl Sn)) Sn
 refine AWP.seq' ?_
 refine AWP.seq (fun env pv hp => ∃ (x0 : Option Addr) (x5 : Int) (k3 : List Value), Sub (upd (upd (upd E0 5 (sI x5)) 3 (sR 3 0)) 0 (sP x0)) env ∧ Sub (upd V0 3 (75, k3)) pv ∧ (F134_j1 x0 x5 k3 hp  K)) ?_ ?_
 ·refine AWP.rgn (F134_r6 (upd (upd E0 3 (sR 3 0)) 0 (sP x0)) x1 hp _) ?_ (Ru 0 (RefOk.p 3 3 0 Rn (fun e => by cases e))) (Sc rfl (Sc rfl Sn)) (Sc rfl Sn)
  exact ⟨x0, 0, x1, (Sc rfl (Sc rfl (Sc rfl Sn))), (Sc rfl Sn), h⟩
 ·rintro env pv hp ⟨x0, x5, k3, he, hv, h⟩
  refine AWP.sub (env' := (upd (upd (upd E0 5 (sI x5)) 3 (sR 3 0)) 0 (sP x0))) (pv' := (upd V0 3 (75, k3))) ?_ (Ru 0 (RefOk.p 3 3 0 (Ru 5 Rn) (fun e => by cases e))) he hv (HSub.refl _)
  clear he hv
  unfold F134_j1 at h
  refine AWP.block ?_
  refine AWP.loop (σ := Int) (fun I s hp => F134_l2 x0 k3  K I s hp) (fun s => (upd (upd (upd E0 5 (sI s)) 3 (sR 3 0)) 0 (sP x0))) (fun s => (upd V0 3 (75, k3))) x5 h (fun s => (Ru 0 (RefOk.p 3 3 0 (Ru 5 Rn) (fun e => by cases e)))) (Sc rfl (Sc rfl (Sc rfl Sn))) (Sc rfl Sn) ?_
  intro I2 s hp h
  obtain ⟨x5, hs⟩ : ∃ x, x = s := ⟨s, rfl⟩
  subst hs
  replace h : F134_l2 x0 k3  K I2 x5 hp := h
  unfold F134_l2 at h
  refine AWP.seq' ?_
  refine AWP.seq' ?_
  refine AWP.rgn (F134_r1 (upd E0 3 (sR 3 0)) x0 x5 k3 hp _) ?_ (Ru 0 (Ru 5 (RefOk.p 3 3 0 Rn (fun e => by cases e)))) (Sc rfl (Sc rfl (Sc rfl Sn))) (Sc rfl Sn)
  refine mN h fun b_1 o_2 h => mV h fun v_3 h => mS h fun a_4 n_5 c_6 h => ?_
  refine AWP.cond (t := (decide (x5 < n_5))) rfl (fun e => ?_) (fun e => ?_)
  ·replace h := ite2_t h e
   refine AWP.skip ?_
   refine AWP.seq' ?_
   refine AWP.block ?_
   refine AWP.seq' ?_
   refine AWP.rgnD (by kernel_rfl) (by kernel_rfl) (F134_r2 E0 x0 x5 k3 hp _) ?_ (Ru 0 (RefOk.p 3 3 0 (Ru 5 Rn) (fun e => by cases e))) (Sc rfl (Sc rfl (Sc rfl Sn))) (Sc rfl Sn)
   refine mN h (fun b_7 o_8 h => mV h (fun v_9 h => mS h (fun a_10 n_11 c_12 h => ⟨h.1, h.2.1, mN h.2.2 fun b_13 o_14 h => mL h fun l_15 h => mL h fun l_16 h => mE h fun q_17 h => ?_⟩)))
   refine AWP.cond (t := q_17) rfl (fun e => ?_) (fun e => ?_)
   ·replace h := ite2_t h e
    refine AWP.seq' ?_
    refine AWP.rgn (F134_r3 E0 x5 hp _) ?_ (Ru 5 Rn) (Sc rfl Sn) Sn
    refine AWP.ret ?_
    exact h
   ·replace h := ite2_f h e
    refine AWP.skip ?_
    refine AWP.rgn (F134_r4 (upd (upd E0 3 (sR 3 0)) 0 (sP x0)) x5 k3 hp _) ?_ (Ru 5 (Ru 0 (RefOk.p 3 3 0 Rn (fun e => by cases e)))) (Sc rfl (Sc rfl (Sc rfl Sn))) (Sc rfl Sn)
    exact ⟨(wr (x5 + 1)), (Sc rfl (Sc rfl (Sc rfl Sn))), (Sc rfl Sn), h⟩
  ·replace h := ite2_f h e
   refine AWP.exit ?_
   refine AWP.seq' ?_
   refine AWP.rgn (F134_r5 E0  hp _) ?_ Rn Sn Sn
   refine AWP.ret ?_
   exact h
end
-- 135 (*interpreter/interpreterref18.Pool).own
section
variable (e : Env) (x0 : Option Addr) (x1 k3 : List Value) (hp : HP) (K : Env → PV → HP → Prop)
abbrev R135 (p : List Nat) (n : Nat) := RW Try.prog 19 [3, 5, 9, 15] (opsAt Try.f135 p) (List.range n)
theorem F135_r0 : R135 [0] 2 (upd e 1 (sA x1)) V0 hp K =
    (K (upd (upd (upd e 1 (sA x1)) 3 (sR 3 0)) 4 (sB false)) (upd V0 3 (75, x1)) hp) := by kernel_rfl
theorem F135_r1 : R135 [1, 0] 15 (upd (upd e 3 (sR 3 0)) 0 (sP x0)) (upd V0 3 (75, k3)) hp K =
    (ldV (k3)[4]? fun v1 => (intV v1 .i64 fun i2 => (ite2 (decide (i2 ≥ 0)) (ldV (k3)[4]? fun v3 => (intV v3 .i64 fun i4 => (ite2 (decide (i4 ≤ 65535)) (ldL (cellsN k3 0 4) fun l5 => (CF Try.prog 106 [(.pointer x0), (.agg ⟨l5⟩)] hp fun u6 h7 => (boolV u6 fun q8 => (K (upd (upd (upd (upd (upd (upd (upd (upd (upd (upd (upd (upd (upd (upd (upd (upd (upd e 3 (sR 3 0)) 0 (sP x0)) 5 (sR 3 4)) 6 (sI i2)) 7 (sB (decide (i2 ≥ 0)))) 8 (sB true)) 9 (sR 3 4)) 10 (sI i4)) 11 (sB (decide (i4 ≤ 65535)))) 12 (sB (decide (i4 ≤ 65535)))) 13 (sB true)) 14 (sP x0)) 15 (sR 3 0)) 16 (sA l5)) 17 (sB q8)) 18 (sB q8)) 4 (sB q8)) (upd V0 3 (75, k3)) h7)))) (K (upd (upd (upd (upd (upd (upd (upd (upd (upd (upd (upd (upd (upd (upd (upd (upd (upd e 3 (sR 3 0)) 0 (sP x0)) 5 (sR 3 4)) 6 (sI i2)) 7 (sB (decide (i2 ≥ 0)))) 8 (sB true)) 9 (sR 3 4)) 10 (sI i4)) 11 (sB (decide (i4 ≤ 65535)))) 12 (sB (decide (i4 ≤ 65535)))) 13 (sB false)) 14 sU) 15 sU) 16 sU) 17 sU) 18 (sB false)) 4 (sB false)) (upd V0 3 (75, k3)) hp)))) (K (upd (upd (upd (upd (upd (upd (upd (upd (upd (upd (upd (upd (upd (upd (upd (upd (upd e 3 (sR 3 0)) 0 (sP x0)) 5 (sR 3 4)) 6 (sI i2)) 7 (sB (decide (i2 ≥ 0)))) 8 (sB false)) 9 sU) 10 sU) 11 sU) 12 (sB false)) 13 (sB false)) 14 sU) 15 sU) 16 sU) 17 sU) 18 (sB false)) 4 (sB false)) (upd V0 3 (75, k3)) hp)))) := by kernel_rfl
def F135 (x0 : Option Addr) (x1 : List Value) (hp : HP) (K : Value → HP → Prop) : Prop :=
  (ldV (x1)[4]? fun v_1 => (intV v_1 .i64 fun i_2 => (ite2 (decide (i_2 ≥ 0)) (ldV (x1)[4]? fun v_3 => (intV v_3 .i64 fun i_4 => (ite2 (decide (i_4 ≤ 65535)) (ldL (cellsN x1 0 4) fun l_5 => (CF Try.prog 106 [(.pointer x0), (.agg ⟨l_5⟩)] hp fun u_6 h_7 => (boolV u_6 fun q_8 => (K (.bool q_8) h_7)))) (K (.bool false) hp)))) (K (.bool false) hp))))
noncomputable def F135_code : Code := (.seq (.region 0 (opsAt Try.f135 [0]) false) (.seq (.region 1 (opsAt Try.f135 [1, 0]) false) .ret))
theorem F135_body : Try.f135.body = some F135_code := by kernel_rfl
theorem F135_ok (x0 : Option Addr) (x1 : List Value) (hp : HP) (K : Value → HP → Prop) (h : F135 x0 x1 hp K) : CF Try.prog 135 [(.pointer x0), (.agg ⟨x1⟩)] hp K := by
 refine .inl ⟨by kernel_rfl, AC.intro (N := 19) Try.func135 F135_body rfl (Nat.le_of_ble_eq_true rfl) ?_⟩
 unfold F135 at h
 unfold F135_code
 refine AWP.seq' ?_
 refine AWP.rgn (F135_r0 (upd E0 0 (sP x0)) x1 hp _) ?_ (Ru 1 (Ru 0 Rn)) (Sc rfl (Sc rfl Sn)) Sn
 refine AWP.seq' ?_
 refine AWP.rgn (F135_r1 E0 x0 x1 hp _) ?_ (Ru 0 (RefOk.p 3 3 0 Rn (fun e => by cases e))) (Sc rfl (Sc rfl Sn)) (Sc rfl Sn)
 refine mV h fun v_1 h => mI h fun i_2 h => ?_
 refine mt h (fun h => ?_) (fun h => ?_)
 ·refine mV h fun v_3 h => mI h fun i_4 h => ?_
  refine mt h (fun h => ?_) (fun h => ?_)
  ·refine mL h fun l_5 h => mC h fun u_6 h_7 h => mB h fun q_8 h => ?_
   refine AWP.ret ?_
   exact h
  ·refine AWP.ret ?_
   exact h
 ·refine AWP.ret ?_
  exact h
end
-- 136 (*interpreter/interpreterref18.Pool).drop
theorem F136_r0 (e : Env) (x0 : Option Addr) (x1 : Int) (hp : HP) (K : Env → PV → HP → Prop) : RW Try.prog 23 [] (opsAt Try.f136 []) [0, 1, 2, 3, 4, 5, 6, 7, 8, 9, 10, 11, 12, 13, 14, 15, 16, 17, 18, 19] (upd (upd e 1 (sI x1)) 0 (sP x0)) V0 hp K =
    (∀ b1 : Nat, hp b1 = .none → (ptrN x0 fun b2 o3 => (ldV (HP.cell (HP.set hp b1 (.cells 167 [] 0)) b2 (o3 + 3)) fun v4 => (slcV v4 fun a5 n6 c7 => ((0 ≤ x1) ∧ (x1 ≤ (c7 : Nat)) ∧ (opS Try.prog (Builtin.append_ #[91, 91] 91 ⟨[(.slice (some ⟨b1, 0, none⟩) 0 0), (.slice a5 (Int.toNat x1) c7)]⟩) (HP.set hp b1 (.cells 167 [] 0)) fun u8 h9 => (slcV u8 fun a10 n11 c12 => (ptrN x0 fun b13 o14 => (ldV (HP.cell h9 b13 (o14 + 3)) fun v15 => (slcV v15 fun a16 n17 c18 => ((0 ≤ ((wr (x1 + 1)) : Int)) ∧ (((wr (x1 + 1)) : Int) ≤ n17) ∧ (n17 ≤ c18) ∧ (opS Try.prog (Builtin.append_ #[91, 91] 91 ⟨[(.slice a10 n11 c12), (.slice (sub0 a16 c18 (Int.toNat (wr (x1 + 1))) 6) (n17 - Int.toNat (wr (x1 + 1))) (c18 - Int.toNat (wr (x1 + 1))))]⟩) h9 fun u19 h20 => (slcV u19 fun a21 n22 c23 => (ptrN x0 fun b24 o25 => (HP.st h20 b24 (o25 + 3) (.slice a21 n22 c23) fun h26 => (K (upd (upd (upd (upd (upd (upd (upd (upd (upd (upd (upd (upd (upd (upd (upd (upd (upd (upd (upd (upd (upd e 1 (sI x1)) 0 (sP x0)) 4 (sP x0)) 5 (sV (.slice (some ⟨b1, 0, none⟩) 0 0))) 6 (sP x0)) 7 (sQ b2 o3)) 8 (sQ b2 (o3 + 3))) 9 (sS a5 n6 c7)) 10 (sI x1)) 11 (sV (.slice a5 (Int.toNat x1) c7))) 12 (sS a10 n11 c12)) 13 (sP x0)) 14 (sQ b13 o14)) 15 (sQ b13 (o14 + 3))) 16 (sS a16 n17 c18)) 17 (sI x1)) 18 (sI ((wr (x1 + 1))))) 19 (sV (.slice (sub0 a16 c18 (Int.toNat (wr (x1 + 1))) 6) (n17 - Int.toNat (wr (x1 + 1))) (c18 - Int.toNat (wr (x1 + 1)))))) 20 (sS a21 n22 c23)) 21 (sQ b24 o25)) 22 (sQ b24 (o25 + 3))) V0 h26)))))))))))))))) := by kernel_rfl
theorem F136_r1 (e : Env) (x0 : Option Addr) (x1 : Int) (hp : HP) (K : Env → PV → HP → Prop) : RW Try.prog 23 [] (opsAt Try.f136 []) [0, 1, 2, 3, 4, 5, 6, 7, 9, 10, 11, 12, 8, 13, 14, 15, 16, 17, 18, 19] (upd (upd e 1 (sI x1)) 0 (sP x0)) V0 hp K =
    (∀ b1 : Nat, hp b1 = .none → (ptrN x0 fun b2 o3 => (ldV (HP.cell (HP.set hp b1 (.cells 167 [] 0)) b2 (o3 + 3)) fun v4 => (slcV v4 fun a5 n6 c7 => ((0 ≤ x1) ∧ (x1 ≤ (c7 : Nat)) ∧ (ptrN x0 fun b8 o9 => (ldV (HP.cell (HP.set hp b1 (.cells 167 [] 0)) b8 (o9 + 3)) fun v10 => (slcV v10 fun a11 n12 c13 => (opS Try.prog (Builtin.append_ #[91, 91] 91 ⟨[(.slice (some ⟨b1, 0, none⟩) 0 0), (.slice a5 (Int.toNat x1) c7)]⟩) (HP.set hp b1 (.cells 167 [] 0)) fun u14 h15 => (slcV u14 fun a16 n17 c18 => ((0 ≤ ((wr (x1 + 1)) : Int)) ∧ (((wr (x1 + 1)) : Int) ≤ n12) ∧ (n12 ≤ c13) ∧ (opS Try.prog (Builtin.append_ #[91, 91] 91 ⟨[(.slice a16 n17 c18), (.slice (sub0 a11 c13 (Int.toNat (wr (x1 + 1))) 6) (n12 - Int.toNat (wr (x1 + 1))) (c13 - Int.toNat (wr (x1 + 1))))]⟩) h15 fun u19 h20 => (slcV u19 fun a21 n22 c23 => (ptrN x0 fun b24 o25 => (HP.st h20 b24 (o25 + 3) (.slice a21 n22 c23) fun h26 => (K (upd (upd (upd (upd (upd (upd (upd (upd (upd (upd (upd (upd (upd (upd (upd (upd (upd (upd (upd (upd (upd e 1 (sI x1)) 0 (sP x0)) 4 (sP x0)) 5 (sV (.slice (some ⟨b1, 0, none⟩) 0 0))) 6 (sP x0)) 7 (sQ b2 o3)) 8 (sQ b2 (o3 + 3))) 9 (sS a5 n6 c7)) 10 (sI x1)) 11 (sV (.slice a5 (Int.toNat x1) c7))) 13 (sP x0)) 14 (sQ b8 o9)) 15 (sQ b8 (o9 + 3))) 16 (sS a11 n12 c13)) 12 (sS a16 n17 c18)) 17 (sI x1)) 18 (sI ((wr (x1 + 1))))) 19 (sV (.slice (sub0 a11 c13 (Int.toNat (wr (x1 + 1))) 6) (n12 - Int.toNat (wr (x1 + 1))) (c13 - Int.toNat (wr (x1 + 1)))))) 20 (sS a21 n22 c23)) 21 (sQ b24 o25)) 22 (sQ b24 (o25 + 3))) V0 h26)))))))))))))))) := by kernel_rfl
theorem F136_r2 (e : Env) (x0 : Option Addr) (x1 : Int) (hp : HP) (K : Env → PV → HP → Prop) : RW Try.prog 23 [] (opsAt Try.f136 []) [0, 2, 3, 4, 6, 9, 10, 11, 12, 1, 5, 7, 8, 13, 14, 15, 16, 17, 18, 19] (upd (upd e 1 (sI x1)) 0 (sP x0)) V0 hp K =
    (ptrN x0 fun b1 o2 => (ptrN x0 fun b3 o4 => (ldV (HP.cell hp b3 (o4 + 3)) fun v5 => (slcV v5 fun a6 n7 c8 => (∀ b9 : Nat, hp b9 = .none → (ldV (HP.cell (HP.set hp b9 (.cells 167 [] 0)) b1 (o2 + 3)) fun v10 => (slcV v10 fun a11 n12 c13 => ((0 ≤ x1) ∧ (x1 ≤ (c13 : Nat)) ∧ (opS Try.prog (Builtin.append_ #[91, 91] 91 ⟨[(.slice (some ⟨b9, 0, none⟩) 0 0), (.slice a11 (Int.toNat x1) c13)]⟩) (HP.set hp b9 (.cells 167 [] 0)) fun u14 h15 => (slcV u14 fun a16 n17 c18 => ((0 ≤ ((wr (x1 + 1)) : Int)) ∧ (((wr (x1 + 1)) : Int) ≤ n7) ∧ (n7 ≤ c8) ∧ (opS Try.prog (Builtin.append_ #[91, 91] 91 ⟨[(.slice a16 n17 c18), (.slice (sub0 a6 c8 (Int.toNat (wr (x1 + 1))) 6) (n7 - Int.toNat (wr (x1 + 1))) (c8 - Int.toNat (wr (x1 + 1))))]⟩) h15 fun u19 h20 => (slcV u19 fun a21 n22 c23 => (ptrN x0 fun b24 o25 => (HP.st h20 b24 (o25 + 3) (.slice a21 n22 c23) fun h26 => (K (upd (upd (upd (upd (upd (upd (upd (upd (upd (upd (upd (upd (upd (upd (upd (upd (upd (upd (upd (upd (upd e 1 (sI x1)) 0 (sP x0)) 4 (sP x0)) 6 (sP x0)) 7 (sQ b1 o2)) 8 (sQ b1 (o2 + 3))) 10 (sI x1)) 13 (sP x0)) 14 (sQ b3 o4)) 15 (sQ b3 (o4 + 3))) 16 (sS a6 n7 c8)) 5 (sV (.slice (some ⟨b9, 0, none⟩) 0 0))) 9 (sS a11 n12 c13)) 11 (sV (.slice a11 (Int.toNat x1) c13))) 12 (sS a16 n17 c18)) 17 (sI x1)) 18 (sI ((wr (x1 + 1))))) 19 (sV (.slice (sub0 a6 c8 (Int.toNat (wr (x1 + 1))) 6) (n7 - Int.toNat (wr (x1 + 1))) (c8 - Int.toNat (wr (x1 + 1)))))) 20 (sS a21 n22 c23)) 21 (sQ b24 o25)) 22 (sQ b24 (o25 + 3))) V0 h26)))))))))))))))) := by kernel_rfl
theorem F136_r3 (e : Env) (x0 : Option Addr) (x1 : Int) (hp : HP) (K : Env → PV → HP → Prop) : RW Try.prog 23 [] (opsAt Try.f136 []) [0, 2, 3, 4, 5, 1, 6, 7, 8, 9, 10, 11, 12, 13, 14, 15, 16, 17, 18, 19] (upd (upd e 1 (sI x1)) 0 (sP x0)) V0 hp K =
    (ptrN x0 fun b1 o2 => (ldV (HP.cell hp b1 (o2 + 3)) fun v3 => (slcV v3 fun a4 n5 c6 => (∀ b7 : Nat, hp b7 = .none → ((0 ≤ x1) ∧ (x1 ≤ (c6 : Nat)) ∧ (opS Try.prog (Builtin.append_ #[91, 91] 91 ⟨[(.slice (some ⟨b7, 0, none⟩) 0 0), (.slice a4 (Int.toNat x1) c6)]⟩) (HP.set hp b7 (.cells 167 [] 0)) fun u8 h9 => (slcV u8 fun a10 n11 c12 => (ptrN x0 fun b13 o14 => (ldV (HP.cell h9 b13 (o14 + 3)) fun v15 => (slcV v15 fun a16 n17 c18 => ((0 ≤ ((wr (x1 + 1)) : Int)) ∧ (((wr (x1 + 1)) : Int) ≤ n17) ∧ (n17 ≤ c18) ∧ (opS Try.prog (Builtin.append_ #[91, 91] 91 ⟨[(.slice a10 n11 c12), (.slice (sub0 a16 c18 (Int.toNat (wr (x1 + 1))) 6) (n17 - Int.toNat (wr (x1 + 1))) (c18 - Int.toNat (wr (x1 + 1))))]⟩) h9 fun u19 h20 => (slcV u19 fun a21 n22 c23 => (ptrN x0 fun b24 o25 => (HP.st h20 b24 (o25 + 3) (.slice a21 n22 c23) fun h26 => (K (upd (upd (upd (upd (upd (upd (upd (upd (upd (upd (upd (upd (upd (upd (upd (upd (upd (upd (upd (upd (upd e 1 (sI x1)) 0 (sP x0)) 4 (sP x0)) 6 (sP x0)) 7 (sQ b1 o2)) 8 (sQ b1 (o2 + 3))) 9 (sS a4 n5 c6)) 5 (sV (.slice (some ⟨b7, 0, none⟩) 0 0))) 10 (sI x1)) 11 (sV (.slice a4 (Int.toNat x1) c6))) 12 (sS a10 n11 c12)) 13 (sP x0)) 14 (sQ b13 o14)) 15 (sQ b13 (o14 + 3))) 16 (sS a16 n17 c18)) 17 (sI x1)) 18 (sI ((wr (x1 + 1))))) 19 (sV (.slice (sub0 a16 c18 (Int.toNat (wr (x1 + 1))) 6) (n17 - Int.toNat (wr (x1 + 1))) (c18 - Int.toNat (wr (x1 + 1)))))) 20 (sS a21 n22 c23)) 21 (sQ b24 o25)) 22 (sQ b24 (o25 + 3))) V0 h26)))))))))))))))) := by kernel_rfl
theorem F136_r4 (e : Env) (x0 : Option Addr) (x1 : Int) (hp : HP) (K : Env → PV → HP → Prop) : RW Try.prog 23 [] (opsAt Try.f136 []) [0, 2, 3, 4, 5, 1, 6, 7, 9, 10, 11, 12, 8, 13, 14, 15, 16, 17, 18, 19] (upd (upd e 1 (sI x1)) 0 (sP x0)) V0 hp K =
    (ptrN x0 fun b1 o2 => (ldV (HP.cell hp b1 (o2 + 3)) fun v3 => (slcV v3 fun a4 n5 c6 => (∀ b7 : Nat, hp b7 = .none → ((0 ≤ x1) ∧ (x1 ≤ (c6 : Nat)) ∧ (ptrN x0 fun b8 o9 => (ldV (HP.cell (HP.set hp b7 (.cells 167 [] 0)) b8 (o9 + 3)) fun v10 => (slcV v10 fun a11 n12 c13 => (opS Try.prog (Builtin.append_ #[91, 91] 91 ⟨[(.slice (some ⟨b7, 0, none⟩) 0 0), (.slice a4 (Int.toNat x1) c6)]⟩) (HP.set hp b7 (.cells 167 [] 0)) fun u14 h15 => (slcV u14 fun a16 n17 c18 => ((0 ≤ ((wr (x1 + 1)) : Int)) ∧ (((wr (x1 + 1)) : Int) ≤ n12) ∧ (n12 ≤ c13) ∧ (opS Try.prog (Builtin.append_ #[91, 91] 91 ⟨[(.slice a16 n17 c18), (.slice (sub0 a11 c13 (Int.toNat (wr (x1 + 1))) 6) (n12 - Int.toNat (wr (x1 + 1))) (c13 - Int.toNat (wr (x1 + 1))))]⟩) h15 fun u19 h20 => (slcV u19 fun a21 n22 c23 => (ptrN x0 fun b24 o25 => (HP.st h20 b24 (o25 + 3) (.slice a21 n22 c23) fun h26 => (K (upd (upd (upd (upd (upd (upd (upd (upd (upd (upd (upd (upd (upd (upd (upd (upd (upd (upd (upd (upd (upd e 1 (sI x1)) 0 (sP x0)) 4 (sP x0)) 6 (sP x0)) 7 (sQ b1 o2)) 8 (sQ b1 (o2 + 3))) 9 (sS a4 n5 c6)) 5 (sV (.slice (some ⟨b7, 0, none⟩) 0 0))) 10 (sI x1)) 11 (sV (.slice a4 (Int.toNat x1) c6))) 13 (sP x0)) 14 (sQ b8 o9)) 15 (sQ b8 (o9 + 3))) 16 (sS a11 n12 c13)) 12 (sS a16 n17 c18)) 17 (sI x1)) 18 (sI ((wr (x1 + 1))))) 19 (sV (.slice (sub0 a11 c13 (Int.toNat (wr (x1 + 1))) 6) (n12 - Int.toNat (wr (x1 + 1))) (c13 - Int.toNat (wr (x1 + 1)))))) 20 (sS a21 n22 c23)) 21 (sQ b24 o25)) 22 (sQ b24 (o25 + 3))) V0 h26)))))))))))))))) := by kernel_rfl
theorem F136_r5 (e : Env) (x0 : Option Addr) (x1 : Int) (hp : HP) (K : Env → PV → HP → Prop) : RW Try.prog 23 [] (opsAt Try.f136 []) [0, 2, 3, 4, 5, 6, 7, 9, 10, 11, 12, 1, 8, 13, 14, 15, 16, 17, 18, 19] (upd (upd e 1 (sI x1)) 0 (sP x0)) V0 hp K =
    (ptrN x0 fun b1 o2 => (ldV (HP.cell hp b1 (o2 + 3)) fun v3 => (slcV v3 fun a4 n5 c6 => ((0 ≤ x1) ∧ (x1 ≤ (c6 : Nat)) ∧ (ptrN x0 fun b7 o8 => (ldV (HP.cell hp b7 (o8 + 3)) fun v9 => (slcV v9 fun a10 n11 c12 => (∀ b13 : Nat, hp b13 = .none → (opS Try.prog (Builtin.append_ #[91, 91] 91 ⟨[(.slice (some ⟨b13, 0, none⟩) 0 0), (.slice a4 (Int.toNat x1) c6)]⟩) (HP.set hp b13 (.cells 167 [] 0)) fun u14 h15 => (slcV u14 fun a16 n17 c18 => ((0 ≤ ((wr (x1 + 1)) : Int)) ∧ (((wr (x1 + 1)) : Int) ≤ n11) ∧ (n11 ≤ c12) ∧ (opS Try.prog (Builtin.append_ #[91, 91] 91 ⟨[(.slice a16 n17 c18), (.slice (sub0 a10 c12 (Int.toNat (wr (x1 + 1))) 6) (n11 - Int.toNat (wr (x1 + 1))) (c12 - Int.toNat (wr (x1 + 1))))]⟩) h15 fun u19 h20 => (slcV u19 fun a21 n22 c23 => (ptrN x0 fun b24 o25 => (HP.st h20 b24 (o25 + 3) (.slice a21 n22 c23) fun h26 => (K (upd (upd (upd (upd (upd (upd (upd (upd (upd (upd (upd (upd (upd (upd (upd (upd (upd (upd (upd (upd (upd e 1 (sI x1)) 0 (sP x0)) 4 (sP x0)) 6 (sP x0)) 7 (sQ b1 o2)) 8 (sQ b1 (o2 + 3))) 9 (sS a4 n5 c6)) 10 (sI x1)) 11 (sV (.slice a4 (Int.toNat x1) c6))) 13 (sP x0)) 14 (sQ b7 o8)) 15 (sQ b7 (o8 + 3))) 16 (sS a10 n11 c12)) 5 (sV (.slice (some ⟨b13, 0, none⟩) 0 0))) 12 (sS a16 n17 c18)) 17 (sI x1)) 18 (sI ((wr (x1 + 1))))) 19 (sV (.slice (sub0 a10 c12 (Int.toNat (wr (x1 + 1))) 6) (n11 - Int.toNat (wr (x1 + 1))) (c12 - Int.toNat (wr (x1 + 1)))))) 20 (sS a21 n22 c23)) 21 (sQ b24 o25)) 22 (sQ b24 (o25 + 3))) V0 h26)))))))))))))))) := by kernel_rfl
def F136 (x0 : Option Addr) (x1 : Int) (hp : HP) (K : Value → HP → Prop) : Prop :=
  ((∀ b_1 : Nat, hp b_1 = .none → (ptrN x0 fun b_2 o_3 => (ldV (HP.cell (HP.set hp b_1 (.cells 167 [] 0)) b_2 (o_3 + 3)) fun v_4 => (slcV v_4 fun a_5 n_6 c_7 => ((0 ≤ x1) ∧ (x1 ≤ (c_7 : Nat)) ∧ (opS Try.prog (Builtin.append_ #[91, 91] 91 ⟨[(.slice (some ⟨b_1, 0, none⟩) 0 0), (.slice a_5 (Int.toNat x1) c_7)]⟩) (HP.set hp b_1 (.cells 167 [] 0)) fun u_8 h_9 => (slcV u_8 fun a_10 n_11 c_12 => (ptrN x0 fun b_13 o_14 => (ldV (HP.cell h_9 b_13 (o_14 + 3)) fun v_15 => (slcV v_15 fun a_16 n_17 c_18 => ((0 ≤ ((IntKind.wrap .i64 (x1 + 1)) : Int)) ∧ (((IntKind.wrap .i64 (x1 + 1)) : Int) ≤ n_17) ∧ (n_17 ≤ c_18) ∧ (opS Try.prog (Builtin.append_ #[91, 91] 91 ⟨[(.slice a_10 n_11 c_12), (.slice (sub0 a_16 c_18 (Int.toNat (IntKind.wrap .i64 (x1 + 1))) 6) (n_17 - Int.toNat (IntKind.wrap .i64 (x1 + 1))) (c_18 - Int.toNat (IntKind.wrap .i64 (x1 + 1))))]⟩) h_9 fun u_19 h_20 => (slcV u_19 fun a_21 n_22 c_23 => (ptrN x0 fun b_24 o_25 => (HP.st h_20 b_24 (o_25 + 3) (.slice a_21 n_22 c_23) fun h_26 => (K (.tuple ⟨[]⟩) h_26)))))))))))))))) ∧ (∀ b_27 : Nat, hp b_27 = .none → (ptrN x0 fun b_28 o_29 => (ldV (HP.cell (HP.set hp b_27 (.cells 167 [] 0)) b_28 (o_29 + 3)) fun v_30 => (slcV v_30 fun a_31 n_32 c_33 => ((0 ≤ x1) ∧ (x1 ≤ (c_33 : Nat)) ∧ (ptrN x0 fun b_34 o_35 => (ldV (HP.cell (HP.set hp b_27 (.cells 167 [] 0)) b_34 (o_35 + 3)) fun v_36 => (slcV v_36 fun a_37 n_38 c_39 => (opS Try.prog (Builtin.append_ #[91, 91] 91 ⟨[(.slice (some ⟨b_27, 0, none⟩) 0 0), (.slice a_31 (Int.toNat x1) c_33)]⟩) (HP.set hp b_27 (.cells 167 [] 0)) fun u_40 h_41 => (slcV u_40 fun a_42 n_43 c_44 => ((0 ≤ ((IntKind.wrap .i64 (x1 + 1)) : Int)) ∧ (((IntKind.wrap .i64 (x1 + 1)) : Int) ≤ n_38) ∧ (n_38 ≤ c_39) ∧ (opS Try.prog (Builtin.append_ #[91, 91] 91 ⟨[(.slice a_42 n_43 c_44), (.slice (sub0 a_37 c_39 (Int.toNat (IntKind.wrap .i64 (x1 + 1))) 6) (n_38 - Int.toNat (IntKind.wrap .i64 (x1 + 1))) (c_39 - Int.toNat (IntKind.wrap .i64 (x1 + 1))))]⟩) h_41 fun u_45 h_46 => (slcV u_45 fun a_47 n_48 c_49 => (ptrN x0 fun b_50 o_51 => (HP.st h_46 b_50 (o_51 + 3) (.slice a_47 n_48 c_49) fun h_52 => (K (.tuple ⟨[]⟩) h_52)))))))))))))))) ∧ (ptrN x0 fun b_53 o_54 => (ptrN x0 fun b_55 o_56 => (ldV (HP.cell hp b_55 (o_56 + 3)) fun v_57 => (slcV v_57 fun a_58 n_59 c_60 => (∀ b_61 : Nat, hp b_61 = .none → (ldV (HP.cell (HP.set hp b_61 (.cells 167 [] 0)) b_53 (o_54 + 3)) fun v_62 => (slcV v_62 fun a_63 n_64 c_65 => ((0 ≤ x1) ∧ (x1 ≤ (c_65 : Nat)) ∧ (opS Try.prog (Builtin.append_ #[91, 91] 91 ⟨[(.slice (some ⟨b_61, 0, none⟩) 0 0), (.slice a_63 (Int.toNat x1) c_65)]⟩) (HP.set hp b_61 (.cells 167 [] 0)) fun u_66 h_67 => (slcV u_66 fun a_68 n_69 c_70 => ((0 ≤ ((IntKind.wrap .i64 (x1 + 1)) : Int)) ∧ (((IntKind.wrap .i64 (x1 + 1)) : Int) ≤ n_59) ∧ (n_59 ≤ c_60) ∧ (opS Try.prog (Builtin.append_ #[91, 91] 91 ⟨[(.slice a_68 n_69 c_70), (.slice (sub0 a_58 c_60 (Int.toNat (IntKind.wrap .i64 (x1 + 1))) 6) (n_59 - Int.toNat (IntKind.wrap .i64 (x1 + 1))) (c_60 - Int.toNat (IntKind.wrap .i64 (x1 + 1))))]⟩) h_67 fun u_71 h_72 => (slcV u_71 fun a_73 n_74 c_75 => (ptrN x0 fun b_76 o_77 => (HP.st h_72 b_76 (o_77 + 3) (.slice a_73 n_74 c_75) fun h_78 => (K (.tuple ⟨[]⟩) h_78)))))))))))))))) ∧ (ptrN x0 fun b_79 o_80 => (ldV (HP.cell hp b_79 (o_80 + 3)) fun v_81 => (slcV v_81 fun a_82 n_83 c_84 => (∀ b_85 : Nat, hp b_85 = .none → ((0 ≤ x1) ∧ (x1 ≤ (c_84 : Nat)) ∧ (opS Try.prog (Builtin.append_ #[91, 91] 91 ⟨[(.slice (some ⟨b_85, 0, none⟩) 0 0), (.slice a_82 (Int.toNat x1) c_84)]⟩) (HP.set hp b_85 (.cells 167 [] 0)) fun u_86 h_87 => (slcV u_86 fun a_88 n_89 c_90 => (ptrN x0 fun b_91 o_92 => (ldV (HP.cell h_87 b_91 (o_92 + 3)) fun v_93 => (slcV v_93 fun a_94 n_95 c_96 => ((0 ≤ ((IntKind.wrap .i64 (x1 + 1)) : Int)) ∧ (((IntKind.wrap .i64 (x1 + 1)) : Int) ≤ n_95) ∧ (n_95 ≤ c_96) ∧ (opS Try.prog (Builtin.append_ #[91, 91] 91 ⟨[(.slice a_88 n_89 c_90), (.slice (sub0 a_94 c_96 (Int.toNat (IntKind.wrap .i64 (x1 + 1))) 6) (n_95 - Int.toNat (IntKind.wrap .i64 (x1 + 1))) (c_96 - Int.toNat (IntKind.wrap .i64 (x1 + 1))))]⟩) h_87 fun u_97 h_98 => (slcV u_97 fun a_99 n_100 c_101 => (ptrN x0 fun b_102 o_103 => (HP.st h_98 b_102 (o_103 + 3) (.slice a_99 n_100 c_101) fun h_104 => (K (.tuple ⟨[]⟩) h_104)))))))))))))))) ∧ (ptrN x0 fun b_105 o_106 => (ldV (HP.cell hp b_105 (o_106 + 3)) fun v_107 => (slcV v_107 fun a_108 n_109 c_110 => (∀ b_111 : Nat, hp b_111 = .none → ((0 ≤ x1) ∧ (x1 ≤ (c_110 : Nat)) ∧ (ptrN x0 fun b_112 o_113 => (ldV (HP.cell (HP.set hp b_111 (.cells 167 [] 0)) b_112 (o_113 + 3)) fun v_114 => (slcV v_114 fun a_115 n_116 c_117 => (opS Try.prog (Builtin.append_ #[91, 91] 91 ⟨[(.slice (some ⟨b_111, 0, none⟩) 0 0), (.slice a_108 (Int.toNat x1) c_110)]⟩) (HP.set hp b_111 (.cells 167 [] 0)) fun u_118 h_119 => (slcV u_118 fun a_120 n_121 c_122 => ((0 ≤ ((IntKind.wrap .i64 (x1 + 1)) : Int)) ∧ (((IntKind.wrap .i64 (x1 + 1)) : Int) ≤ n_116) ∧ (n_116 ≤ c_117) ∧ (opS Try.prog (Builtin.append_ #[91, 91] 91 ⟨[(.slice a_120 n_121 c_122), (.slice (sub0 a_115 c_117 (Int.toNat (IntKind.wrap .i64 (x1 + 1))) 6) (n_116 - Int.toNat (IntKind.wrap .i64 (x1 + 1))) (c_117 - Int.toNat (IntKind.wrap .i64 (x1 + 1))))]⟩) h_119 fun u_123 h_124 => (slcV u_123 fun a_125 n_126 c_127 => (ptrN x0 fun b_128 o_129 => (HP.st h_124 b_128 (o_129 + 3) (.slice a_125 n_126 c_127) fun h_130 => (K (.tuple ⟨[]⟩) h_130)))))))))))))))) ∧ (ptrN x0 fun b_131 o_132 => (ldV (HP.cell hp b_131 (o_132 + 3)) fun v_133 => (slcV v_133 fun a_134 n_135 c_136 => ((0 ≤ x1) ∧ (x1 ≤ (c_136 : Nat)) ∧ (ptrN x0 fun b_137 o_138 => (ldV (HP.cell hp b_137 (o_138 + 3)) fun v_139 => (slcV v_139 fun a_140 n_141 c_142 => (∀ b_143 : Nat, hp b_143 = .none → (opS Try.prog (Builtin.append_ #[91, 91] 91 ⟨[(.slice (some ⟨b_143, 0, none⟩) 0 0), (.slice a_134 (Int.toNat x1) c_136)]⟩) (HP.set hp b_143 (.cells 167 [] 0)) fun u_144 h_145 => (slcV u_144 fun a_146 n_147 c_148 => ((0 ≤ ((IntKind.wrap .i64 (x1 + 1)) : Int)) ∧ (((IntKind.wrap .i64 (x1 + 1)) : Int) ≤ n_141) ∧ (n_141 ≤ c_142) ∧ (opS Try.prog (Builtin.append_ #[91, 91] 91 ⟨[(.slice a_146 n_147 c_148), (.slice (sub0 a_140 c_142 (Int.toNat (IntKind.wrap .i64 (x1 + 1))) 6) (n_141 - Int.toNat (IntKind.wrap .i64 (x1 + 1))) (c_142 - Int.toNat (IntKind.wrap .i64 (x1 + 1))))]⟩) h_145 fun u_149 h_150 => (slcV u_149 fun a_151 n_152 c_153 => (ptrN x0 fun b_154 o_155 => (HP.st h_150 b_154 (o_155 + 3) (.slice a_151 n_152 c_153) fun h_156 => (K (.tuple ⟨[]⟩) h_156)))))))))))))))))
noncomputable def F136_code : Code := (.region 0 (opsAt Try.f136 []) true)
theorem F136_body : Try.f136.body = some F136_code := by kernel_rfl
theorem F136_ok (x0 : Option Addr) (x1 : Int) (hp : HP) (K : Value → HP → Prop) (h : F136 x0 x1 hp K) : CF Try.prog 136 [(.pointer x0), (.int .i64 x1)] hp K := by
 refine .inl ⟨by kernel_rfl, AC.intro (N := 23) Try.func136 F136_body rfl (Nat.le_of_ble_eq_true rfl) ?_⟩
 unfold F136 at h
 unfold F136_code
 refine AWP.rgnC (cf := [(1, 5), (1, 12), (8, 12)]) (c := [([true, true, true], true, [0, 1, 2, 3, 4, 5, 6, 7, 8, 9, 10, 11, 12, 13, 14, 15, 16, 17, 18, 19]), ([true, true, false], true, [0, 1, 2, 3, 4, 5, 6, 7, 9, 10, 11, 12, 8, 13, 14, 15, 16, 17, 18, 19]), ([true, false, true], false, [1, 8, 12, 1]), ([true, false, false], true, [0, 2, 3, 4, 6, 9, 10, 11, 12, 1, 5, 7, 8, 13, 14, 15, 16, 17, 18, 19]), ([false, true, true], true, [0, 2, 3, 4, 5, 1, 6, 7, 8, 9, 10, 11, 12, 13, 14, 15, 16, 17, 18, 19]), ([false, true, false], true, [0, 2, 3, 4, 5, 1, 6, 7, 9, 10, 11, 12, 8, 13, 14, 15, 16, 17, 18, 19]), ([false, false, true], false, [1, 8, 12, 1]), ([false, false, false], true, [0, 2, 3, 4, 5, 6, 7, 9, 10, 11, 12, 1, 8, 13, 14, 15, 16, 17, 18, 19])]) (by kernel_rfl) (by kernel_rfl) (by kernel_rfl) (by kernel_rfl) (allO_t (Eq.mpr (F136_r0 E0 x0 x1 hp _) ?_) (allO_t (Eq.mpr (F136_r1 E0 x0 x1 hp _) ?_) (allO_f (allO_t (Eq.mpr (F136_r2 E0 x0 x1 hp _) ?_) (allO_t (Eq.mpr (F136_r3 E0 x0 x1 hp _) ?_) (allO_t (Eq.mpr (F136_r4 E0 x0 x1 hp _) ?_) (allO_f (allO_t (Eq.mpr (F136_r5 E0 x0 x1 hp _) ?_) trivial)))))))) (Ru 0 (Ru 1 Rn)) (Sc rfl (Sc rfl Sn)) Sn
 ·replace h := h.1
  refine fun b_1 hb_b_1 => ?_
  replace h := h b_1 hb_b_1
  refine mN h (fun b_2 o_3 h => mV h (fun v_4 h => mS h (fun a_5 n_6 c_7 h => ⟨h.1, h.2.1, mO h.2.2 (fun u_8 h_9 h => mS h (fun a_10 n_11 c_12 h => mN h (fun b_13 o_14 h => mV h (fun v_15 h => mS h (fun a_16 n_17 c_18 h => ⟨h.1, h.2.1, h.2.2.1, ?_⟩)))))⟩)))
  replace h := h.2.2.2
  refine mO h fun u_19 h_20 h => mS h fun a_21 n_22 c_23 h => mN h fun b_24 o_25 h => mw h fun h_26 h => ?_
  exact h
 ·replace h := h.2.1
  refine fun b_27 hb_b_27 => ?_
  replace h := h b_27 hb_b_27
  refine mN h (fun b_28 o_29 h => mV h (fun v_30 h => mS h (fun a_31 n_32 c_33 h => ⟨h.1, h.2.1, mN h.2.2 (fun b_34 o_35 h => mV h (fun v_36 h => mS h (fun a_37 n_38 c_39 h => mO h (fun u_40 h_41 h => mS h (fun a_42 n_43 c_44 h => ⟨h.1, h.2.1, h.2.2.1, ?_⟩)))))⟩)))
  replace h := h.2.2.2
  refine mO h fun u_45 h_46 h => mS h fun a_47 n_48 c_49 h => mN h fun b_50 o_51 h => mw h fun h_52 h => ?_
  exact h
 ·replace h := h.2.2.1
  refine mN h fun b_53 o_54 h => mN h fun b_55 o_56 h => mV h fun v_57 h => mS h fun a_58 n_59 c_60 h => ?_
  refine fun b_61 hb_b_61 => ?_
  replace h := h b_61 hb_b_61
  refine mV h (fun v_62 h => mS h (fun a_63 n_64 c_65 h => ⟨h.1, h.2.1, mO h.2.2 (fun u_66 h_67 h => mS h (fun a_68 n_69 c_70 h => ⟨h.1, h.2.1, h.2.2.1, ?_⟩))⟩))
  replace h := h.2.2.2
  refine mO h fun u_71 h_72 h => mS h fun a_73 n_74 c_75 h => mN h fun b_76 o_77 h => mw h fun h_78 h => ?_
  exact h
 ·replace h := h.2.2.2.1
  refine mN h fun b_79 o_80 h => mV h fun v_81 h => mS h fun a_82 n_83 c_84 h => ?_
  refine fun b_85 hb_b_85 => ?_
  replace h := h b_85 hb_b_85
  refine ⟨h.1, h.2.1, mO h.2.2 (fun u_86 h_87 h => mS h (fun a_88 n_89 c_90 h => mN h (fun b_91 o_92 h => mV h (fun v_93 h => mS h (fun a_94 n_95 c_96 h => ⟨h.1, h.2.1, h.2.2.1, ?_⟩)))))⟩
  replace h := h.2.2.2
  refine mO h fun u_97 h_98 h => mS h fun a_99 n_100 c_101 h => mN h fun b_102 o_103 h => mw h fun h_104 h => ?_
  exact h
 ·replace h := h.2.2.2.2.1
  refine mN h fun b_105 o_106 h => mV h fun v_107 h => mS h fun a_108 n_109 c_110 h => ?_
  refine fun b_111 hb_b_111 => ?_
  replace h := h b_111 hb_b_111
  refine ⟨h.1, h.2.1, mN h.2.2 (fun b_112 o_113 h => mV h (fun v_114 h => mS h (fun a_115 n_116 c_117 h => mO h (fun u_118 h_119 h => mS h (fun a_120 n_121 c_122 h => ⟨h.1, h.2.1, h.2.2.1, ?_⟩)))))⟩
  replace h := h.2.2.2
  refine mO h fun u_123 h_124 h => mS h fun a_125 n_126 c_127 h => mN h fun b_128 o_129 h => mw h fun h_130 h => ?_
  exact h
 ·replace h := h.2.2.2.2.2
  refine mN h (fun b_131 o_132 h => mV h (fun v_133 h => mS h (fun a_134 n_135 c_136 h => ⟨h.1, h.2.1, mN h.2.2 fun b_137 o_138 h => mV h fun v_139 h => mS h fun a_140 n_141 c_142 h => ?_⟩)))
  refine fun b_143 hb_b_143 => ?_
  replace h := h b_143 hb_b_143
  refine mO h (fun u_144 h_145 h => mS h (fun a_146 n_147 c_148 h => ⟨h.1, h.2.1, h.2.2.1, ?_⟩))
  replace h := h.2.2.2
  refine mO h fun u_149 h_150 h => mS h fun a_151 n_152 c_153 h => mN h fun b_154 o_155 h => mw h fun h_156 h => ?_
  exact h
end Go.Proofs

set_option linter.unusedVariables false
set_option maxRecDepth 20000
namespace Go.Proofs
open Go Go.HL

/-- What is not free, as the document keeps it. -/
def hv (kv : (Q × Int) × Bool) : List Value := [.int .u8 kv.1.1.1, .int .u8 kv.1.1.2.1, .int .u8 kv.1.1.2.2.1, .int .u8 kv.1.1.2.2.2, .int .i64 kv.1.2, .bool kv.2]
theorem hv_len (kv : (Q × Int) × Bool) : (hv kv).length = 6 := rfl
theorem hv_one (kv : (Q × Int) × Bool) : (hv kv).all one = true := rfl

/-- The document's pool. -/
def RefR (hp0 hp : HP) (q : Nat) (a : Option Addr) (n c : Nat) (l : List Q) (low high : Int) (held : List ((Q × Int) × Bool)) (s : Option Addr) (k : Nat) : Prop :=
  HSub hp0 hp ∧ hp0 q = .none ∧ Shows hp0 a n 4 (l.flatMap v4) ∧ l.length = n ∧
    hp q = .cells 93 [.slice a n c, .int .i64 low, .int .i64 high, .slice s held.length k] 0 ∧ Row hp s held.length k 167 6 (held.flatMap hv)

theorem PoolR.kept {hp hp' : HP} {p q m : Nat} {l : List Q} {low high : Int} {held : List ((Q × Int) × Bool)} {cs : List Value} (hr : PoolR hp p l low high held m) (hq : hp q = .cells 93 cs 0) (hk : HSub (hp.set q .none) hp') : PoolR hp' p l low high held m := by
  obtain ⟨a, c, h1, h2, h3⟩ := hr
  refine PoolR.sub ?_ hk
  refine ⟨a, c, ?_, ?_, ?_⟩
  · rw [HP.set_ne _ _ (fun e => by rw [e, hq] at h1; cases h1)]; exact h1
  · rcases h2 with h2 | ⟨b, g1, g2, g3, g4⟩
    · exact .inl h2
    · exact .inr ⟨b, g1, g2, g3, by rw [HP.set_ne _ _ (fun e => by rw [e, hq] at g4; cases g4)]; exact g4⟩
  · obtain ⟨es, clock, he, hrr⟩ := h3
    exact ⟨es, clock, by rw [HP.set_ne _ _ (fun e => by rw [e, hq] at he; cases he)]; exact he, hrr⟩

section
variable {hp0 hp : HP} {q : Nat} {a : Option Addr} {n c : Nat} {l : List Q} {low high : Int} {held : List ((Q × Int) × Bool)} {s : Option Addr} {k : Nat} {t : Q × Int} {K : Value → HP → Prop}

theorem RefR.sub {hp' : HP} (hr : RefR hp0 hp q a n c l low high held s k) (hs : HSub hp hp') : RefR hp0 hp' q a n c l low high held s k :=
  ⟨hr.1.trans hs, hr.2.1, hr.2.2.1, hr.2.2.2.1, hs.cells hr.2.2.2.2.1, hr.2.2.2.2.2.sub hs⟩
theorem RefR.set_obj {m : Nat} {o : Obj} {x : Ent} (hr : RefR hp0 hp q a n c l low high held s k) (h0 : hp0 m = .none) (hm : hp m = .obj o) : RefR hp0 (hp.set m x) q a n c l low high held s k := by
  obtain ⟨h1, h2, h3, h4, h5, h6⟩ := hr
  exact ⟨h1.up h0 x, h2, h3, h4, by rw [HP.set_ne _ _ (fun e => by rw [e, hm] at h5; cases h5)]; exact h5, h6.set_obj hm x⟩
theorem RefR.cell (hr : RefR hp0 hp q a n c l low high held s k) (o : Nat) : hp.cell q o = [Value.slice a n c, .int .i64 low, .int .i64 high, .slice s held.length k][o]? := HP.cell_of hr.2.2.2.2.1
theorem RefR.hk (hr : RefR hp0 hp q a n c l low high held s k) : held.length ≤ k := by
  rcases hr.2.2.2.2.2 with ⟨_, h0, _, _⟩ | ⟨_, _, h1, _, _⟩
  · rw [h0]; exact Nat.zero_le _
  · exact h1
theorem RefR.lst (hr : RefR hp0 hp q a n c l low high held s k) : Shows hp a n 4 (l.flatMap v4) := hr.2.2.1.sub hr.1

theorem C106 {x : Q} (hr : RefR hp0 hp q a n c l low high held s k) (hn : n ≤ 4) (h : K (.bool (decide (x ∈ l))) hp) : CF Try.prog 106 [ptr q 0, .agg ⟨v4 x⟩] hp K := by
  refine F106_ok _ (v4 x) hp K ?_
  unfold F106 F106_j1
  have hl := hr.2.2.2.1
  refine LoopP.by (J := fun m (y : Int) hp' => hp' = hp ∧ ∃ i : Nat, y = i ∧ i + m = n ∧ x ∉ l.take i) ?_ (n := n) ⟨rfl, 0, rfl, by omega, by simp⟩
  rintro I m y hp' ⟨rfl, i, rfl, him, hni⟩ hI
  unfold F106_l2
  simp only [ptrN_some, hr.cell, Nat.zero_add, List.getElem?_cons_zero, ldV_some, slcV_slice]
  by_cases hi : i < n
  · rw [decide_eq_true (by omega : (i : Int) < (n : Int)), ite2_true]
    obtain ⟨b, o, hao, hc⟩ := hr.lst.get v4_len hl hi
    simp only [hao, ptrN_some, Int.toNat_natCast, hc, ldL_some, cellsN_all (v4_len x)]
    refine ⟨by omega, by omega, ?_⟩
    refine eq73 ?_
    have hil : i < l.length := by omega
    by_cases he : l[i]'hil = x
    · rw [decide_eq_true he, ite2_true]
      have : x ∈ l := he ▸ List.getElem_mem hil
      rw [decide_eq_true this] at h
      exact h
    · have w1 : IntKind.wrap .i64 ((i : Int) + 1) = ((i + 1 : Nat) : Int) := wi (by omega) (by omega)
      rw [decide_eq_false he, ite2_false, w1]
      refine hI (m - 1) _ _ (by omega) ⟨rfl, i + 1, rfl, by omega, ?_⟩
      rw [List.take_succ_eq_append_getElem hil, List.mem_append, List.mem_singleton]
      exact fun e => e.elim hni (fun e => he e.symm)
  · rw [decide_eq_false (by omega : ¬ (i : Int) < (n : Int)), ite2_false]
    rw [List.take_of_length_le (by omega)] at hni
    rw [decide_eq_false hni] at h
    exact h

theorem C135 (hr : RefR hp0 hp q a n c l low high held s k) (hn : n ≤ 4) (h : K (.bool (decide (mayQ l t = 0))) hp) : CF Try.prog 135 [ptr q 0, .agg ⟨t4 t⟩] hp K := by
  refine F135_ok _ (t4 t) hp K ?_
  unfold F135
  have q4 : (t4 t)[4]? = some (.int .i64 t.2) := rfl
  have q5 : cellsN (t4 t) 0 4 = some (v4 t.1) := rfl
  simp only [q4, q5, ldV_some, ldL_some, intV_int]
  unfold mayQ isPort at h
  by_cases h1 : t.2 < 0
  · rw [decide_eq_false (by omega : ¬ t.2 ≥ 0), ite2_false]
    rw [decide_eq_false (by omega : ¬ (0 ≤ t.2 ∧ t.2 ≤ 65535))] at h
    simpa using h
  rw [decide_eq_true (by omega : t.2 ≥ 0), ite2_true]
  by_cases h2 : t.2 > 65535
  · rw [decide_eq_false (by omega : ¬ t.2 ≤ 65535), ite2_false]
    rw [decide_eq_false (by omega : ¬ (0 ≤ t.2 ∧ t.2 ≤ 65535))] at h
    simpa using h
  rw [decide_eq_true (by omega : t.2 ≤ 65535), ite2_true]
  rw [decide_eq_true (by omega : (0 ≤ t.2 ∧ t.2 ≤ 65535))] at h
  refine C106 hr hn ?_
  rw [boolV_bool]
  by_cases hm : t.1 ∈ l
  · simpa [hm] using h
  · simpa [hm] using h

theorem del_at : ∀ {w : List ((Q × Int) × Bool)} {j : Nat} (hj : j < w.length), w[j].1 = t → (∀ (i : Nat) (hi : i < w.length), i < j → w[i].1 ≠ t) → getL t w = some w[j].2 ∧ delL t w = w.take j ++ w.drop (j + 1)
  | [], j, hj, _, _ => by simp at hj
  | p :: w, 0, hj, he, _ => by
    simp only [List.getElem_cons_zero] at he
    simp [getL, delL, he]
  | p :: w, j + 1, hj, he, hb => by
    have h0 := hb 0 (by simp) (by omega)
    simp only [List.getElem_cons_zero] at h0
    have h0' : ¬ t = p.1 := fun e => h0 e.symm
    simp only [List.getElem_cons_succ] at he
    obtain ⟨a, b⟩ := del_at (w := w) (j := j) (by simpa using hj) he (fun i hi hij => by
      have := hb (i + 1) (by simpa using hi) (by omega)
      simpa using this)
    simp only [getL, delL, h0', if_false, List.getElem_cons_succ, List.take_succ_cons, List.drop_succ_cons, List.cons_append]
    exact ⟨a, by rw [b]⟩

theorem C134 (hr : RefR hp0 hp q a n c l low high held s k) (hh : held.length ≤ 65535)
    (hK : ∀ v : Int, (v = -1 ∧ getL t held = none) ∨ (∃ (j : Nat) (hj : j < held.length), v = j ∧ getL t held = some held[j].2 ∧ delL t held = held.take j ++ held.drop (j + 1)) → K (.int .i64 v) hp) : CF Try.prog 134 [ptr q 0, .agg ⟨t4 t⟩] hp K := by
  refine F134_ok _ (t4 t) hp K ?_
  unfold F134 F134_j1
  refine LoopP.by (J := fun m (y : Int) hp' => hp' = hp ∧ ∃ i : Nat, y = i ∧ i + m = held.length ∧ ∀ (j : Nat) (hj : j < held.length), j < i → held[j].1 ≠ t) ?_ (n := held.length) ⟨rfl, 0, rfl, by omega, fun j hj h => by omega⟩
  rintro I m y hp' ⟨rfl, i, rfl, him, hni⟩ hI
  unfold F134_l2
  simp only [ptrN_some, hr.cell, Nat.zero_add, List.getElem?_cons_succ, List.getElem?_cons_zero, ldV_some, slcV_slice]
  by_cases hi : i < held.length
  · rw [decide_eq_true (by omega : (i : Int) < (held.length : Int)), ite2_true]
    obtain ⟨b, o, hao, hc⟩ := hr.2.2.2.2.2.shows.get hv_len rfl hi
    have hc5 : hp'.cellN b (o + i * 6 + 0) 5 = some (t4 held[i].1) := by
      rw [cellN_cellN hc (by omega)]; rfl
    simp only [hao, ptrN_some, Int.toNat_natCast, hc5, ldL_some, cellsN_all (t4_len t)]
    refine ⟨by omega, by omega, ?_⟩
    refine eq75 ?_
    by_cases he : held[i].1 = t
    · rw [decide_eq_true he, ite2_true]
      obtain ⟨g1, g2⟩ := del_at hi he hni
      exact hK _ (.inr ⟨i, hi, rfl, g1, g2⟩)
    · have w1 : IntKind.wrap .i64 ((i : Int) + 1) = ((i + 1 : Nat) : Int) := wi (by omega) (by omega)
      rw [decide_eq_false he, ite2_false, w1]
      refine hI (m - 1) _ _ (by omega) ⟨rfl, i + 1, rfl, by omega, fun j hj hji => ?_⟩
      by_cases hje : j = i
      · subst hje; exact he
      · exact hni j hj (by omega)
  · rw [decide_eq_false (by omega : ¬ (i : Int) < (held.length : Int)), ite2_false]
    refine hK _ (.inl ⟨rfl, getL_none.2 fun hm => ?_⟩)
    obtain ⟨kv, hkv, he⟩ := List.mem_map.1 hm
    obtain ⟨j, hj, rfl⟩ := List.getElem_of_mem hkv
    exact hni j hj (by omega) he

/-- What Is tells, of the document's list. -/
def is_ (held : List ((Q × Int) × Bool)) (t : Q × Int) : Bool × Bool := match getL t held with | none => (false, false) | some r => (!r, r)

theorem C105 (hr : RefR hp0 hp q a n c l low high held s k) (hh : held.length ≤ 65535) (h : K (.tuple ⟨[.bool (is_ held t).1, .bool (is_ held t).2]⟩) hp) : CF Try.prog 105 [ptr q 0, .agg ⟨t4 t⟩] hp K := by
  refine F105_ok _ (t4 t) hp K ?_
  unfold F105
  rw [cellsN_all (t4_len t), ldL_some]
  refine C134 hr hh fun v hv' => ?_
  rw [intV_int]
  unfold is_ at h
  rcases hv' with ⟨rfl, hg⟩ | ⟨j, hj, rfl, hg, _⟩
  · rw [hg] at h
    exact h
  · rw [hg] at h
    rw [decide_eq_false (by omega : ¬ (j : Int) < 0), ite2_false]
    obtain ⟨b, o, hao, hc⟩ := hr.2.2.2.2.2.shows.get hv_len rfl hj
    have hc5 : hp.cell b (o + j * 6 + 5) = some (.bool held[j].2) := HP.cell_cellN hc rfl
    simp only [ptrN_some, hr.cell, Nat.zero_add, List.getElem?_cons_succ, List.getElem?_cons_zero, ldV_some, slcV_slice, hao, Int.toNat_natCast, hc5, boolV_bool]
    exact ⟨by omega, by omega, by omega, by omega, h⟩

/-! How the list is made longer, and shorter: always anew. -/
theorem app_first {h : HP} {b1 m cc : Nat} {ss : Option Addr} {xs : List Value} (h1 : HSub hp h) (hb : h b1 = .cells 167 [] 0) (hpb : hp b1 = .none) (hs : Shows hp ss m 6 xs) (ho : xs.all one = true) (hm : m ≤ 65535) {X : Value → HP → Prop}
    (hX : ∀ s2 c2 h', HSub hp h' → (∀ hx, HSub hx h → hx b1 = .none → HSub hx h') → Row h' s2 m c2 167 6 xs → (∀ b, s2 = some ⟨b, 0, none⟩ → hp b = .none) → X (.slice s2 m c2) h') :
    opS Try.prog (Builtin.append_ #[91, 91] 91 ⟨[.slice (some ⟨b1, 0, none⟩) 0 0, .slice ss m cc]⟩) h X := by
  have r0 : Row h (some ⟨b1, 0, none⟩) 0 0 167 6 [] := .inr ⟨b1, rfl, Nat.le_refl _, by simp, by simpa using hb⟩
  refine opS_appF (e := 167) (size := 6) (bytes := 24) (by kernel_rfl) r0 (hs.sub h1) ho (by omega) (by omega) ?_
  intro s2 c2 h' hrow hf
  rw [Nat.zero_add, List.nil_append] at hrow
  rw [Nat.zero_add]
  obtain ⟨k1, k2⟩ := hf hp h1 (fun b e => by cases e; exact hpb)
  exact hX s2 c2 h' k1 (fun hx hs' hn => (hf hx hs' (fun b e => by cases e; exact hn)).1) hrow k2

theorem app_st {h : HP} {s2 sa : Option Addr} {m c2 r ca : Nat} {xs ys A : List Value} (hq : hp q = .cells 93 A 0) (hA : A.length = 4) (h1 : HSub hp h) (hrow : Row h s2 m c2 167 6 xs) (hfr : ∀ b, s2 = some ⟨b, 0, none⟩ → hp b = .none)
    (hsa : Shows h sa r 6 ys) (ho : ys.all one = true) (hm : m + r ≤ 65536) {X : HP → Prop}
    (hX : ∀ h'' s3 c3, HSub (hp.set q .none) h'' → h'' q = .cells 93 (A.set 3 (.slice s3 (m + r) c3)) 0 → Row h'' s3 (m + r) c3 167 6 (xs ++ ys) → X h'') :
    opS Try.prog (Builtin.append_ #[91, 91] 91 ⟨[.slice s2 m c2, .slice sa r ca]⟩) h fun u h' => slcV u fun a n c => HP.st h' q 3 (.slice a n c) X := by
  refine opS_appF (e := 167) (size := 6) (bytes := 24) (by kernel_rfl) hrow hsa ho (by omega) (by omega) ?_
  intro s3 c3 h' hrow' hf
  obtain ⟨k1, k2⟩ := hf hp h1 hfr
  rw [slcV_slice]
  have hq' := k1.cells hq
  refine HP.st_at hq' (by omega) ?_
  refine hX _ s3 c3 ?_ (HP.set_eq ..) ?_
  · intro x
    by_cases hx : x = q
    · subst hx; exact .inl (HP.set_eq ..)
    · rw [HP.set_ne _ _ hx, HP.set_ne _ _ hx]; exact k1 x
  · rcases hrow' with hrow' | ⟨b, g1, g2, g3, g4⟩
    · exact .inl hrow'
    · exact .inr ⟨b, g1, g2, g3, by rw [HP.set_ne _ _ (fun e => by rw [e, hq'] at g4; cases g4)]; exact g4⟩

/-- The heaplet behind a change of the document's list. -/
def Chg (hp0 hp : HP) (q : Nat) (a : Option Addr) (n c : Nat) (l : List Q) (low high : Int) (held : List ((Q × Int) × Bool)) (X : HP → Prop) : Prop :=
  ∀ hp' s' k', HSub (hp.set q .none) hp' → RefR hp0 hp' q a n c l low high held s' k' → X hp'

theorem chg_of (hr : RefR hp0 hp q a n c l low high held s k) {held' : List ((Q × Int) × Bool)} {X : HP → Prop} (hX : Chg hp0 hp q a n c l low high held' X) {xs : List Value} {m : Nat} (hxs : xs = held'.flatMap hv) (hm : m = held'.length) :
    ∀ h'' s3 c3, HSub (hp.set q .none) h'' → h'' q = .cells 93 ([Value.slice a n c, .int .i64 low, .int .i64 high, .slice s held.length k].set 3 (.slice s3 m c3)) 0 → Row h'' s3 m c3 167 6 xs → X h'' := by
  intro h'' s3 c3 g1 g2 g3
  subst hxs hm
  refine hX h'' s3 c3 g1 ⟨HSub.trans ?_ g1, hr.2.1, hr.2.2.1, hr.2.2.2.1, g2, g3⟩
  intro x
  by_cases hx : x = q
  · subst hx; exact .inl hr.2.1
  · rw [HP.set_ne _ _ hx]; exact hr.1 x

/-- One more at the end: three ways to come to it. -/
theorem put1 (hr : RefR hp0 hp q a n c l low high held s k) (hh : held.length ≤ 65535) {kv : (Q × Int) × Bool} {X : HP → Prop} (hX : Chg hp0 hp q a n c l low high (held ++ [kv]) X) :
    ∀ b1, hp b1 = .none → opS Try.prog (Builtin.append_ #[91, 91] 91 ⟨[.slice (some ⟨b1, 0, none⟩) 0 0, .slice s held.length k]⟩) (hp.set b1 (.cells 167 [] 0)) fun u h => slcV u fun a' n' c' =>
      ∀ b2, h b2 = .none → opS Try.prog (Builtin.append_ #[91, 91] 91 ⟨[.slice a' n' c', .slice (some ⟨b2, 0, none⟩) 1 1]⟩) (h.set b2 (.cells 167 (hv kv) 0)) fun u h' => slcV u fun a n c => HP.st h' q 3 (.slice a n c) X := by
  intro b1 hb1
  refine app_first (HSub.set_fresh _ _ hb1) (HP.set_eq ..) hb1 hr.2.2.2.2.2.shows (all_flat hv_one _) hh ?_
  intro s2 c2 h' k1 _ hrow hfr
  rw [slcV_slice]
  intro b2 hb2
  have k2 := HSub.set_fresh h' (.cells 167 (hv kv) 0) hb2
  refine app_st hr.2.2.2.2.1 rfl (k1.trans k2) (hrow.sub k2) hfr (.inr ⟨b2, 0, rfl, by rw [HP.cellN_of (HP.set_eq ..)]; exact cellsN_all rfl⟩) (hv_one kv) (by omega) (chg_of hr hX (by simp) (by simp))

theorem put2 (hr : RefR hp0 hp q a n c l low high held s k) (hh : held.length ≤ 65535) {kv : (Q × Int) × Bool} {X : HP → Prop} (hX : Chg hp0 hp q a n c l low high (held ++ [kv]) X) :
    ∀ b1, hp b1 = .none → ∀ b2, (hp.set b1 (.cells 167 [] 0)) b2 = .none → opS Try.prog (Builtin.append_ #[91, 91] 91 ⟨[.slice (some ⟨b1, 0, none⟩) 0 0, .slice s held.length k]⟩) ((hp.set b1 (.cells 167 [] 0)).set b2 (.cells 167 (hv kv) 0)) fun u h => slcV u fun a' n' c' =>
      opS Try.prog (Builtin.append_ #[91, 91] 91 ⟨[.slice a' n' c', .slice (some ⟨b2, 0, none⟩) 1 1]⟩) h fun u h' => slcV u fun a n c => HP.st h' q 3 (.slice a n c) X := by
  intro b1 hb1 b2 hb2
  have hne : b2 ≠ b1 := fun e => by rw [e, HP.set_eq] at hb2; cases hb2
  have hb2' : hp b2 = .none := by rw [HP.set_ne _ _ hne] at hb2; exact hb2
  refine app_first ((HSub.set_fresh _ _ hb1).trans (HSub.set_fresh _ _ hb2)) (by rw [HP.set_ne _ _ hne.symm]; exact HP.set_eq ..) hb1 hr.2.2.2.2.2.shows (all_flat hv_one _) hh ?_
  intro s2 c2 h' k1 k2 hrow hfr
  rw [slcV_slice]
  have k3 := k2 (HP.onlyF b2 (.cells 167 (hv kv) 0)) (HSub.onlyF (HP.set_eq ..)) (HP.onlyF_ne _ hne.symm)
  have hc : h' b2 = .cells 167 (hv kv) 0 := k3.cells (HP.onlyF_eq ..)
  refine app_st hr.2.2.2.2.1 rfl k1 hrow hfr (.inr ⟨b2, 0, rfl, by rw [HP.cellN_of hc]; exact cellsN_all rfl⟩) (hv_one kv) (by omega) (chg_of hr hX (by simp) (by simp))

theorem put3 (hr : RefR hp0 hp q a n c l low high held s k) (hh : held.length ≤ 65535) {kv : (Q × Int) × Bool} {X : HP → Prop} (hX : Chg hp0 hp q a n c l low high (held ++ [kv]) X) :
    ∀ b2, hp b2 = .none → ∀ b1, (hp.set b2 (.cells 167 (hv kv) 0)) b1 = .none → opS Try.prog (Builtin.append_ #[91, 91] 91 ⟨[.slice (some ⟨b1, 0, none⟩) 0 0, .slice s held.length k]⟩) ((hp.set b2 (.cells 167 (hv kv) 0)).set b1 (.cells 167 [] 0)) fun u h => slcV u fun a' n' c' =>
      opS Try.prog (Builtin.append_ #[91, 91] 91 ⟨[.slice a' n' c', .slice (some ⟨b2, 0, none⟩) 1 1]⟩) h fun u h' => slcV u fun a n c => HP.st h' q 3 (.slice a n c) X := by
  intro b2 hb2 b1 hb1
  have hne : b1 ≠ b2 := fun e => by rw [e, HP.set_eq] at hb1; cases hb1
  have hb1' : hp b1 = .none := by rw [HP.set_ne _ _ hne] at hb1; exact hb1
  refine app_first ((HSub.set_fresh _ _ hb2).trans (HSub.set_fresh _ _ hb1)) (HP.set_eq ..) hb1' hr.2.2.2.2.2.shows (all_flat hv_one _) hh ?_
  intro s2 c2 h' k1 k2 hrow hfr
  rw [slcV_slice]
  have k3 := k2 (HP.onlyF b2 (.cells 167 (hv kv) 0)) (HSub.onlyF (by rw [HP.set_ne _ _ hne.symm]; exact HP.set_eq ..)) (HP.onlyF_ne _ hne)
  have hc : h' b2 = .cells 167 (hv kv) 0 := k3.cells (HP.onlyF_eq ..)
  refine app_st hr.2.2.2.2.1 rfl k1 hrow hfr (.inr ⟨b2, 0, rfl, by rw [HP.cellN_of hc]; exact cellsN_all rfl⟩) (hv_one kv) (by omega) (chg_of hr hX (by simp) (by simp))

theorem RefR.read {b : Nat} {x : Ent} (hr : RefR hp0 hp q a n c l low high held s k) (hb : hp b = .none) (o : Nat) : (hp.set b x).cell q o = [Value.slice a n c, .int .i64 low, .int .i64 high, .slice s held.length k][o]? := (hr.sub (HSub.set_fresh _ _ hb)).cell o
theorem RefR.read2 {b b' : Nat} {x x' : Ent} (hr : RefR hp0 hp q a n c l low high held s k) (hb : hp b = .none) (hb' : (hp.set b x) b' = .none) (o : Nat) : ((hp.set b x).set b' x').cell q o = [Value.slice a n c, .int .i64 low, .int .i64 high, .slice s held.length k][o]? := (hr.sub ((HSub.set_fresh _ _ hb).trans (HSub.set_fresh _ _ hb'))).cell o
theorem h6 (t : Q × Int) (r : Bool) : splice [(Value.int .u8 0), (Value.int .u8 0), (Value.int .u8 0), (Value.int .u8 0), (Value.int .i64 0), (Value.bool false)] 0 (List.set (splice [(Value.int .u8 0), (Value.int .u8 0), (Value.int .u8 0), (Value.int .u8 0), (Value.int .i64 0), (Value.bool false)] 0 (t4 t)) 5 (Value.bool r)) = hv (t, r) := rfl
theorem h6l (t : Q × Int) (r : Bool) : (List.set (splice [(Value.int .u8 0), (Value.int .u8 0), (Value.int .u8 0), (Value.int .u8 0), (Value.int .i64 0), (Value.bool false)] 0 (t4 t)) 5 (Value.bool r)).length = 6 := rfl

/-- What Reserve answers; the list behind it. -/
theorem C103 (hr : RefR hp0 hp q a n c l low high held s k) (hn : n ≤ 4) (hh : held.length ≤ 65535)
    (hno : reserveQ l held t ≠ 0 → K (.int .i64 (reserveQ l held t)) hp)
    (hyes : reserveQ l held t = 0 → Chg hp0 hp q a n c l low high (putL t true held) fun hp' => K (.int .i64 0) hp') : CF Try.prog 103 [ptr q 0, .agg ⟨t4 t⟩] hp K := by
  refine F103_ok _ (t4 t) hp K ?_
  unfold F103
  rw [cellsN_all (t4_len t), ldL_some]
  refine C135 hr hn ?_
  rw [boolV_bool]
  unfold reserveQ at hno hyes
  rcases mayQ_cases l t with hm | hm
  · rw [hm] at hno hyes ⊢
    show ite2 false _ _
    rw [ite2_false, ldL_some]
    refine C134 hr hh fun v hv' => ?_
    rw [intV_int]
    rcases hv' with ⟨rfl, hg⟩ | ⟨j, hj, rfl, hg, _⟩
    · have hX := hyes (by simp [hg])
      rw [put_new hg] at hX
      show ite2 false _ _
      rw [ite2_false]
      have e1 := put1 hr hh hX
      have e2 := put2 hr hh hX
      have e3 := put3 hr hh hX
      simp (contextual := true) only [ptrN_some, hr.cell, hr.read, hr.read2, Nat.zero_add, List.getElem?_cons_succ, List.getElem?_cons_zero, ldV_some, slcV_slice, ldL_some, t4_len, h6, h6l, if_true]
      refine ⟨?_, ?_, ?_, ?_, ?_, ?_, ?_, ?_⟩
      all_goals first | exact e1 | exact e2 | exact e3
    · rw [decide_eq_true (by omega : (j : Int) ≥ 0), ite2_true]
      have := hno (by simp [hg])
      simpa [hg] using this
  · rw [hm] at hno ⊢
    exact hno (by simp)
end
end Go.Proofs

set_option linter.unusedVariables false
set_option maxRecDepth 20000
namespace Go.Proofs
open Go Go.HL

section
variable {hp0 hp : HP} {q : Nat} {a : Option Addr} {n c : Nat} {l : List Q} {low high : Int} {held : List ((Q × Int) × Bool)} {s : Option Addr} {k : Nat} {t : Q × Int} {K : Value → HP → Prop}

theorem drop1 (hr : RefR hp0 hp q a n c l low high held s k) (hh : held.length ≤ 65535) {j : Nat} (hj : j < held.length) {X : HP → Prop} (hX : Chg hp0 hp q a n c l low high (held.take j ++ held.drop (j + 1)) X) :
    ∀ b1, hp b1 = .none → opS Try.prog (Builtin.append_ #[91, 91] 91 ⟨[.slice (some ⟨b1, 0, none⟩) 0 0, .slice s j k]⟩) (hp.set b1 (.cells 167 [] 0)) fun u h => slcV u fun a' n' c' =>
      opS Try.prog (Builtin.append_ #[91, 91] 91 ⟨[.slice a' n' c', .slice (sub0 s k (j + 1) 6) (held.length - (j + 1)) (k - (j + 1))]⟩) h fun u h' => slcV u fun a n c => HP.st h' q 3 (.slice a n c) X := by
  intro b1 hb1
  refine app_first (HSub.set_fresh _ _ hb1) (HP.set_eq ..) hb1 (hr.2.2.2.2.2.shows.take hv_len rfl (by omega)) (all_flat hv_one _) (by omega) ?_
  intro s2 c2 h' k1 _ hrow hfr
  rw [slcV_slice]
  have sh := ((hr.sub k1).2.2.2.2.2.shows).subF (c := k) (i := j + 1) hv_len rfl hr.hk (by omega)
  refine app_st hr.2.2.2.2.1 rfl k1 hrow hfr sh (all_flat hv_one _) (by omega) (chg_of hr hX (by rw [List.flatMap_append]) ?_)
  rw [List.length_append, List.length_take, List.length_drop]; omega

theorem drop2 (hr : RefR hp0 hp q a n c l low high held s k) (hh : held.length ≤ 65535) {j : Nat} (hj : j < held.length) {X : HP → Prop} (hX : Chg hp0 hp q a n c l low high (held.take j ++ held.drop (j + 1)) X) :
    ∀ b1, hp b1 = .none → opS Try.prog (Builtin.append_ #[91, 91] 91 ⟨[.slice (some ⟨b1, 0, none⟩) 0 0, .slice s j k]⟩) (hp.set b1 (.cells 167 [] 0)) fun u h => slcV u fun a' n' c' =>
      ldV (h.cell q 3) fun v => slcV v fun a2 n2 c2 => (((j + 1 : Nat) : Int) ≤ (n2 : Nat)) ∧ (n2 ≤ c2) ∧
      opS Try.prog (Builtin.append_ #[91, 91] 91 ⟨[.slice a' n' c', .slice (sub0 a2 c2 (j + 1) 6) (n2 - (j + 1)) (c2 - (j + 1))]⟩) h fun u h' => slcV u fun a n c => HP.st h' q 3 (.slice a n c) X := by
  intro b1 hb1
  refine app_first (HSub.set_fresh _ _ hb1) (HP.set_eq ..) hb1 (hr.2.2.2.2.2.shows.take hv_len rfl (by omega)) (all_flat hv_one _) (by omega) ?_
  intro s2 c2 h' k1 _ hrow hfr
  rw [slcV_slice, (hr.sub k1).cell]
  simp only [List.getElem?_cons_succ, List.getElem?_cons_zero, ldV_some, slcV_slice]
  refine ⟨by omega, hr.hk, ?_⟩
  have sh := ((hr.sub k1).2.2.2.2.2.shows).subF (c := k) (i := j + 1) hv_len rfl hr.hk (by omega)
  refine app_st hr.2.2.2.2.1 rfl k1 hrow hfr sh (all_flat hv_one _) (by omega) (chg_of hr hX (by rw [List.flatMap_append]) ?_)
  rw [List.length_append, List.length_take, List.length_drop]; omega

theorem C136 (hr : RefR hp0 hp q a n c l low high held s k) (hh : held.length ≤ 65535) {j : Nat} (hj : j < held.length)
    (hX : Chg hp0 hp q a n c l low high (held.take j ++ held.drop (j + 1)) fun hp' => K (.tuple ⟨[]⟩) hp') : CF Try.prog 136 [ptr q 0, .int .i64 j] hp K := by
  refine F136_ok _ (j : Int) hp K ?_
  unfold F136
  have e1 := drop1 hr hh hj hX
  have e2 := drop2 hr hh hj hX
  have w1 : IntKind.wrap .i64 ((j : Int) + 1) = ((j + 1 : Nat) : Int) := wi (by omega) (by omega)
  have hk := hr.hk
  have z0 : (0 ≤ (j : Int)) = True := eq_true (by omega)
  have z1 : ((j : Int) ≤ (k : Nat)) = True := eq_true (by omega)
  have z2 : (0 ≤ ((j + 1 : Nat) : Int)) = True := eq_true (by omega)
  have z3 : (((j + 1 : Nat) : Int) ≤ (held.length : Nat)) = True := eq_true (by omega)
  have z4 : (held.length ≤ k) = True := eq_true (by omega)
  simp (contextual := true) only [ptrN_some, hr.cell, hr.read, Nat.zero_add, List.getElem?_cons_succ, List.getElem?_cons_zero, ldV_some, slcV_slice, w1, Int.toNat_natCast, z0, z1, z2, z3, z4, true_and]
  repeat' apply And.intro
  all_goals first | exact e1 | exact e2

theorem C102 (hr : RefR hp0 hp q a n c l low high held s k) (hn : n ≤ 4) (hh : held.length ≤ 65535)
    (hno : giveQ l held t ≠ 0 → K (.int .i64 (giveQ l held t)) hp)
    (hyes : giveQ l held t = 0 → Chg hp0 hp q a n c l low high (delL t held) fun hp' => K (.int .i64 0) hp') : CF Try.prog 102 [ptr q 0, .agg ⟨t4 t⟩] hp K := by
  refine F102_ok _ (t4 t) hp K ?_
  unfold F102
  rw [cellsN_all (t4_len t), ldL_some]
  refine C135 hr hn ?_
  rw [boolV_bool]
  unfold giveQ at hno hyes
  rcases mayQ_cases l t with hm | hm
  · rw [hm] at hno hyes ⊢
    show ite2 false _ _
    rw [ite2_false, ldL_some]
    refine C134 hr hh fun v hv' => ?_
    rw [intV_int]
    rcases hv' with ⟨rfl, hg⟩ | ⟨j, hj, rfl, hg, hd⟩
    · have := hno (by simp [hg])
      simpa [hg] using this
    · rw [decide_eq_false (by omega : ¬ (j : Int) < 0), ite2_false]
      obtain ⟨b, o, hao, hc⟩ := hr.2.2.2.2.2.shows.get hv_len rfl hj
      have hc5 : hp.cell b (o + j * 6 + 5) = some (.bool held[j].2) := HP.cell_cellN hc rfl
      simp only [ptrN_some, hr.cell, Nat.zero_add, List.getElem?_cons_succ, List.getElem?_cons_zero, ldV_some, slcV_slice, hao, Int.toNat_natCast, hc5, boolV_bool]
      refine ⟨by omega, by omega, ?_⟩
      cases hb : held[j].2
      · rw [hb] at hg
        have hX := hyes (by simp [hg])
        rw [hd] at hX
        rw [ite2_false]
        exact C136 hr hh hj hX
      · rw [hb] at hg
        have := hno (by simp [hg])
        simpa [hg] using this
  · rw [hm] at hno ⊢
    exact hno (by simp)

theorem C104 (hr : RefR hp0 hp q a n c l low high held s k) (hn : n ≤ 4) (hh : held.length ≤ 65535)
    (hno : releaseQ l held t ≠ 0 → K (.int .i64 (releaseQ l held t)) hp)
    (hyes : releaseQ l held t = 0 → Chg hp0 hp q a n c l low high (delL t held) fun hp' => K (.int .i64 0) hp') : CF Try.prog 104 [ptr q 0, .agg ⟨t4 t⟩] hp K := by
  refine F104_ok _ (t4 t) hp K ?_
  unfold F104
  rw [cellsN_all (t4_len t), ldL_some]
  refine C135 hr hn ?_
  rw [boolV_bool]
  unfold releaseQ at hno hyes
  rcases mayQ_cases l t with hm | hm
  · rw [hm] at hno hyes ⊢
    show ite2 false _ _
    rw [ite2_false, ldL_some]
    refine C134 hr hh fun v hv' => ?_
    rw [intV_int]
    rcases hv' with ⟨rfl, hg⟩ | ⟨j, hj, rfl, hg, hd⟩
    · have := hno (by simp [hg])
      simpa [hg, F104_j1] using this
    · rw [decide_eq_false (by omega : ¬ (j : Int) < 0), ite2_false]
      obtain ⟨b, o, hao, hc⟩ := hr.2.2.2.2.2.shows.get hv_len rfl hj
      have hc5 : hp.cell b (o + j * 6 + 5) = some (.bool held[j].2) := HP.cell_cellN hc rfl
      simp only [ptrN_some, hr.cell, Nat.zero_add, List.getElem?_cons_succ, List.getElem?_cons_zero, ldV_some, slcV_slice, hao, Int.toNat_natCast, hc5, boolV_bool]
      refine ⟨by omega, by omega, ?_⟩
      unfold F104_j1
      cases hb : held[j].2
      · rw [hb] at hg
        have := hno (by simp [hg])
        simpa [hg] using this
      · rw [hb] at hg
        have hX := hyes (by simp [hg])
        rw [hd] at hX
        show ite2 false _ _
        rw [ite2_false]
        exact C136 hr hh hj hX
  · rw [hm] at hno ⊢
    exact hno (by simp)

theorem C57 (hr : RefR hp0 hp q a n c l low high held s k) (hn : n ≤ 4) (hh : held.length ≤ 65535) (hb : 0 ≤ low ∧ low ≤ 65535 ∧ 0 ≤ high ∧ high ≤ 65535) (h : K (.int .i64 (freeQ l low high held)) hp) : CF Try.prog 57 [ptr q 0] hp K := by
  refine F57_ok _ hp K ?_
  have hl := hr.2.2.2.1
  unfold F57 F57_j7
  have hmul : ∀ i : Nat, i ≤ 4 → (i : Int) * (high - low + 1) ≤ 4 * 65536 ∧ -(4 * 65536) ≤ (i : Int) * (high - low + 1) := by
    intro i hi
    have hl0 : i = 0 ∨ i = 1 ∨ i = 2 ∨ i = 3 ∨ i = 4 := by omega
    rcases hl0 with e | e | e | e | e <;> rw [e] <;> constructor <;> omega
  have hsucc : ∀ i : Nat, ((i + 1 : Nat) : Int) * (high - low + 1) = (i : Int) * (high - low + 1) + high - low + 1 := by
    intro i
    have : ((i + 1 : Nat) : Int) = (i : Int) + 1 := by omega
    rw [this, Int.add_mul, Int.one_mul]; omega
  have f : (held.filter (fun kv => decide (low ≤ kv.1.2) && decide (kv.1.2 ≤ high))).length ≤ held.length := List.length_filter_le _ _
  refine LoopP.by (J := fun m (y : Int × Int) hp' => hp' = hp ∧ ∃ i : Nat, y.2 = i ∧ i + m = n ∧ y.1 = (i : Int) * (high - low + 1)) ?_ (n := n) ⟨rfl, 0, rfl, by omega, by simp⟩
  rintro I m ⟨y1, y2⟩ hp' ⟨rfl, i, hy2, him, hy1⟩ hI
  simp only at hy1 hy2
  subst hy1 hy2
  unfold F57_l8
  simp only [ptrN_some, hr.cell, Nat.zero_add, List.getElem?_cons_succ, List.getElem?_cons_zero, ldV_some, slcV_slice, intV_int]
  by_cases hi : i < n
  · have w1 : IntKind.wrap .i64 ((i : Int) + 1) = ((i + 1 : Nat) : Int) := wi (by omega) (by omega)
    obtain ⟨g1, g2⟩ := hmul i (by omega)
    have hs := hsucc i
    rw [decide_eq_true (by omega : (i : Int) < (n : Int)), ite2_true, w1]
    generalize (i : Int) * (high - low + 1) = N at *
    rw [w64 (n := N + high) (by omega) (by omega), w64 (n := N + high - low) (by omega) (by omega), w64 (n := N + high - low + 1) (by omega) (by omega)]
    exact hI (m - 1) _ _ (by omega) ⟨rfl, i + 1, rfl, by omega, hs.symm⟩
  · rw [decide_eq_false (by omega : ¬ (i : Int) < (n : Int)), ite2_false]
    unfold F57_j1 F57_j3
    have hin : i = l.length := by omega
    subst hin
    obtain ⟨g1, g2⟩ := hmul l.length (by omega)
    unfold freeQ at h
    generalize ((l.length : Nat) : Int) * (high - low + 1) = N at *
    refine LoopP.by (J := fun m (y : Int × Int) hp'' => hp'' = hp' ∧ ∃ j : Nat, y.2 = j ∧ j + m = held.length ∧ y.1 = N - ((held.take j).filter (fun kv => decide (low ≤ kv.1.2) && decide (kv.1.2 ≤ high))).length) ?_ (n := held.length) ⟨rfl, 0, rfl, by omega, by simp⟩
    rintro I' m' ⟨y1, y2⟩ hp'' ⟨rfl, j, hy2, hjm, hy1⟩ hI'
    simp only at hy1 hy2
    subst hy1 hy2
    unfold F57_l4
    simp only [ptrN_some, hr.cell, Nat.zero_add, List.getElem?_cons_succ, List.getElem?_cons_zero, ldV_some, slcV_slice, intV_int]
    by_cases hj : j < held.length
    · rw [decide_eq_true (by omega : (j : Int) < (held.length : Int)), ite2_true]
      obtain ⟨b, o, hao, hc⟩ := hr.2.2.2.2.2.shows.get hv_len rfl hj
      have hc5 : hp''.cell b (o + j * 6 + 0 + 4) = some (.int .i64 held[j].1.2) := by
        have : o + j * 6 + 0 + 4 = o + j * 6 + 4 := by omega
        rw [this]; exact HP.cell_cellN hc rfl
      simp only [hao, ptrN_some, Int.toNat_natCast, hc5, ldV_some, intV_int]
      refine ⟨by omega, by omega, ?_⟩
      have hfl : ((held.take j).filter (fun kv => decide (low ≤ kv.1.2) && decide (kv.1.2 ≤ high))).length ≤ (held.take j).length := List.length_filter_le _ _
      rw [List.length_take] at hfl
      have hf : (held.take (j + 1)).filter (fun kv => decide (low ≤ kv.1.2) && decide (kv.1.2 ≤ high)) = (held.take j).filter (fun kv => decide (low ≤ kv.1.2) && decide (kv.1.2 ≤ high)) ++ if (decide (low ≤ held[j].1.2) && decide (held[j].1.2 ≤ high)) then [held[j]] else [] := by
        rw [List.take_succ_eq_append_getElem hj, List.filter_append, List.filter_cons]
        rfl
      have w1 : IntKind.wrap .i64 ((j : Int) + 1) = ((j + 1 : Nat) : Int) := wi (by omega) (by omega)
      have fin : ∀ b : Bool, b = (decide (low ≤ held[j].1.2) && decide (held[j].1.2 ≤ high)) → F57_j6 (some ⟨q, 0, none⟩) (N - ((held.take j).filter (fun kv => decide (low ≤ kv.1.2) && decide (kv.1.2 ≤ high))).length) j b hp'' I' K := by
        intro b hbq
        have hI'' := hI' (m' - 1) (N - ((held.take (j + 1)).filter (fun kv => decide (low ≤ kv.1.2) && decide (kv.1.2 ≤ high))).length, ((j + 1 : Nat) : Int)) hp'' (by omega) ⟨rfl, j + 1, rfl, by omega, rfl⟩
        rw [hf, ← hbq] at hI''
        unfold F57_j6 F57_j5
        rw [w1]
        cases b
        · rw [ite2_false]
          simpa using hI''
        · rw [ite2_true, w64 (by omega) (by omega)]
          have e : N - (((held.take j).filter (fun kv => decide (low ≤ kv.1.2) && decide (kv.1.2 ≤ high))).length : Int) - 1 = N - ((((held.take j).filter (fun kv => decide (low ≤ kv.1.2) && decide (kv.1.2 ≤ high))) ++ [held[j]]).length : Nat) := by
            rw [List.length_append]; simp only [List.length_cons, List.length_nil]; omega
          rw [e]
          exact hI''
      by_cases h1 : held[j].1.2 ≥ low
      · rw [decide_eq_true h1, ite2_true]
        refine ⟨by omega, by omega, ?_⟩
        exact fin _ (by rw [decide_eq_true (by omega : low ≤ held[j].1.2), Bool.true_and])
      · rw [decide_eq_false h1, ite2_false]
        exact fin _ (by rw [decide_eq_false (by omega : ¬ low ≤ held[j].1.2), Bool.false_and])
    · rw [decide_eq_false (by omega : ¬ (j : Int) < (held.length : Int)), ite2_false]
      unfold F57_j2
      rw [List.take_of_length_le (by omega)]
      exact h
end
end Go.Proofs

set_option linter.unusedVariables false
set_option maxRecDepth 20000
namespace Go.Proofs
open Go Go.HL

/-- Two lists of the same, in the same order, are one. -/
theorem same_order {α : Type} {lt : α → α → Bool} : ∀ {u v : List α}, u.Nodup → v.Nodup → (∀ x, x ∈ u ↔ x ∈ v) → u.Pairwise (fun x y => lt y x = false) → v.Pairwise (fun x y => lt x y = true) → u = v
  | [], [], _, _, _, _, _ => rfl
  | [], b :: v, _, _, hm, _, _ => by have := (hm b).2 (by simp); simp at this
  | a :: u, [], _, _, hm, _, _ => by have := (hm a).1 (by simp); simp at this
  | a :: u, b :: v, hu, hv', hm, pu, pv => by
    rw [List.nodup_cons] at hu hv'
    rw [List.pairwise_cons] at pu pv
    by_cases he : a = b
    · subst he
      rw [same_order (u := u) (v := v) hu.2 hv'.2 (fun x => ?_) pu.2 pv.2]
      have h := hm x
      simp only [List.mem_cons] at h
      constructor
      · intro hx
        rcases h.1 (.inr hx) with e | h'
        · subst e; exact absurd hx hu.1
        · exact h'
      · intro hx
        rcases h.2 (.inr hx) with e | h'
        · subst e; exact absurd hx hv'.1
        · exact h'
    · have h1 : a ∈ v := by
        have := (hm a).1 (by simp)
        rcases List.mem_cons.1 this with e | h'
        · exact absurd e he
        · exact h'
      have h2 : b ∈ u := by
        have := (hm b).2 (by simp)
        rcases List.mem_cons.1 this with e | h'
        · exact absurd e.symm he
        · exact h'
      have g1 := pu.1 b h2
      have g2 := pv.1 a h1
      rw [g1] at g2; cases g2

theorem idx_of_at {l : List Q} (hnd : l.Nodup) {i : Nat} (hi : i < l.length) {x : Q} : idx x l = i ↔ x = l[i] := by
  unfold idx
  constructor
  · intro h
    split at h
    · rename_i hm
      have hlt := List.idxOf_lt_length_of_mem hm
      have e : l.idxOf x = i := by omega
      subst e
      exact (List.getElem_idxOf hlt).symm
    · omega
  · intro h
    subst h
    rw [if_pos (List.getElem_mem hi)]
    have := List.Nodup.idxOf_getElem hnd i hi
    omega

/-- What is told is of the pool: what is held, held once, and own. -/
def Own (l : List Q) (held : List ((Q × Int) × Bool)) : Prop := (held.map (·.1)).Nodup ∧ ∀ kv ∈ held, kv.1.1 ∈ l ∧ 0 ≤ kv.1.2 ∧ kv.1.2 ≤ 65535
theorem Own.nil (l : List Q) : Own l [] := ⟨by simp, by simp⟩
theorem Own.put {l : List Q} {held : List ((Q × Int) × Bool)} (h : Own l held) {t : Q × Int} {r : Bool} (h1 : getL t held = none) (h2 : t.1 ∈ l) (h3 : 0 ≤ t.2 ∧ t.2 ≤ 65535) : Own l (putL t r held) := by
  refine ⟨nodup_put h.1, fun kv hkv => ?_⟩
  rw [put_new h1, List.mem_append, List.mem_singleton] at hkv
  rcases hkv with hkv | rfl
  · exact h.2 kv hkv
  · exact ⟨h2, h3⟩
theorem mem_del {κ ν : Type} [DecidableEq κ] {k : κ} : ∀ {l : List (κ × ν)} {x : κ × ν}, x ∈ delL k l → x ∈ l
  | [], x, h => by cases h
  | p :: l, x, h => by
    unfold delL at h
    split at h
    · exact List.mem_cons_of_mem _ h
    · rcases List.mem_cons.1 h with e | h
      · rw [e]; simp
      · exact List.mem_cons_of_mem _ (mem_del h)
theorem Own.del {l : List Q} {held : List ((Q × Int) × Bool)} (h : Own l held) {t : Q × Int} : Own l (delL t held) :=
  ⟨nodup_del h.1, fun kv hkv => h.2 kv (mem_del hkv)⟩
theorem mayQ_own {l : List Q} {t : Q × Int} (h : mayQ l t = 0) : t.1 ∈ l ∧ 0 ≤ t.2 ∧ t.2 ≤ 65535 := by
  unfold mayQ at h
  split at h
  · rename_i h'
    unfold isPort at h'
    exact ⟨h'.2, of_decide_eq_true h'.1⟩
  · cases h

section
variable {hp0 hp : HP} {q : Nat} {a : Option Addr} {n c : Nat} {l : List Q} {low high : Int} {held : List ((Q × Int) × Bool)} {s : Option Addr} {k : Nat} {t : Q × Int} {K : Value → HP → Prop}

theorem C58 (hr : RefR hp0 hp q a n c l low high held s k) (hn : n ≤ 4) (hh : held.length ≤ 65535) (hnd : l.Nodup) (ho : Own l held)
    (hK : ∀ (s2 : Option Addr) (c2 : Nat) (hp' : HP) (ts : List (Q × Int)), HSub hp hp' → (∀ x, x ∈ ts ↔ x ∈ held.map (·.1)) → ts.Pairwise (fun x y => ltC (cmpT l) x y = true) → Row hp' s2 ts.length c2 75 5 (ts.flatMap t4) → ts.length ≤ 65535 → K (.slice s2 ts.length c2) hp') : CF Try.prog 58 [ptr q 0] hp K := by
  refine F58_ok _ hp K ?_
  have hl := hr.2.2.2.1
  unfold F58 F58_j2
  have hlenB : ∀ ts : List (Q × Int), ts.Pairwise (fun x y => ltC (cmpT l) x y = true) → (∀ t ∈ ts, t ∈ held.map (·.1)) → ts.length ≤ 65535 := by
    intro ts hp hm
    have hd : ts.Nodup := hp.imp fun {x y} h e => by subst e; rw [(swo_cmpT l).irrefl] at h; cases h
    have := nodup_len_le hd hm
    simp only [List.length_map] at this
    omega
  refine LoopP.by (J := fun m (y : Option Addr × Nat × Nat × Int) hp' => ∃ (i : Nat) (ts : List (Q × Int)), y.2.2.2 = i ∧ i + m = n ∧ HSub hp hp' ∧ y.2.1 = ts.length ∧ Row hp' y.1 y.2.1 y.2.2.1 75 5 (ts.flatMap t4) ∧ (∀ b, y.1 = some ⟨b, 0, none⟩ → hp b = .none) ∧
      ts.Pairwise (fun x y => ltC (cmpT l) x y = true) ∧ (∀ t ∈ ts, t ∈ held.map (·.1)) ∧ (∀ t ∈ ts, idx t.1 l < i) ∧ ∀ t ∈ held.map (·.1), idx t.1 l < i → t ∈ ts) ?_ (n := n)
    ⟨0, [], rfl, by omega, HSub.refl _, rfl, .inl ⟨rfl, rfl, rfl, rfl⟩, (fun b e => by cases e), .nil, by simp, by simp, fun t ht hi => by
      obtain ⟨kv, hkv, rfl⟩ := List.mem_map.1 ht
      have := (ho.2 kv hkv).1
      unfold idx at hi; rw [if_pos this] at hi; omega⟩
  rintro I m ⟨s1, n1, c1, x1⟩ hp1 ⟨i, ts, hx, him, h01, hn1, hrow, hfr, hpw, hsub, hlt, hall⟩ hI
  simp only at hx hn1 hrow hfr
  subst hx hn1
  unfold F58_l3
  have hr1 := hr.sub h01
  simp only [ptrN_some, hr1.cell, Nat.zero_add, List.getElem?_cons_zero, ldV_some, slcV_slice]
  by_cases hi : i < n
  rotate_left
  · rw [decide_eq_false (by omega : ¬ (i : Int) < (n : Int)), ite2_false]
    unfold F58_j1
    refine hK s1 c1 hp1 ts h01 (fun x => ⟨hsub x, fun hx => hall x hx ?_⟩) hpw hrow (hlenB ts hpw hsub)
    obtain ⟨kv, hkv, rfl⟩ := List.mem_map.1 hx
    have hm := (ho.2 kv hkv).1
    unfold idx; rw [if_pos hm]
    have := List.idxOf_lt_length_of_mem hm
    omega
  rw [decide_eq_true (by omega : (i : Int) < (n : Int)), ite2_true]
  have hil : i < l.length := by omega
  have hix : ∀ x : Q, idx x l = i ↔ x = l[i] := fun x => idx_of_at hnd hil
  unfold F58_j5
  refine LoopP.by (J := fun m' (y : Option Addr × Nat × Nat × Int) hp' => ∃ (ts : List (Q × Int)), m' = (65536 - y.2.2.2).toNat ∧ -1 ≤ y.2.2.2 ∧ y.2.2.2 ≤ 65535 ∧ HSub hp hp' ∧ y.2.1 = ts.length ∧ Row hp' y.1 y.2.1 y.2.2.1 75 5 (ts.flatMap t4) ∧ (∀ b, y.1 = some ⟨b, 0, none⟩ → hp b = .none) ∧
      ts.Pairwise (fun x y => ltC (cmpT l) x y = true) ∧ (∀ t ∈ ts, t ∈ held.map (·.1)) ∧ (∀ t ∈ ts, idx t.1 l < i ∨ idx t.1 l = i ∧ t.2 ≤ y.2.2.2) ∧ ∀ t ∈ held.map (·.1), idx t.1 l < i ∨ (idx t.1 l = i ∧ t.2 ≤ y.2.2.2) → t ∈ ts) ?_ (n := 65537)
    ⟨ts, rfl, by simp, by simp, h01, rfl, hrow, hfr, hpw, hsub, (fun t ht => .inl (hlt t ht)), fun t ht h => by
      rcases h with h | ⟨_, h⟩
      · exact hall t ht h
      · obtain ⟨kv, hkv, rfl⟩ := List.mem_map.1 ht
        have := (ho.2 kv hkv).2.1
        simp only at h; omega⟩
  clear hrow hfr hpw hsub hlt hall
  clear ts
  rintro I6 m' ⟨s2, n2, c2, last⟩ hp2 ⟨ts, hm', hl1, hl2, h02, hn2, hrow, hfr, hpw, hsub, hlt, hall⟩ hI6
  simp only at hm' hl1 hl2 hn2 hrow hfr hlt hall
  subst hn2
  have hr2 := hr.sub h02
  have htl := hlenB ts hpw hsub
  unfold F58_l6 F58_j8
  refine LoopP.by (J := fun m3 (y : Int × Int) hp' => hp' = hp2 ∧ ∃ j : Nat, y.2 = j ∧ j + m3 = held.length ∧ (y.1 = 1048576 ∨ ((l[i], y.1) ∈ held.map (·.1) ∧ last < y.1)) ∧ ∀ (x : Nat) (hx : x < held.length), x < j → held[x].1.1 = l[i] → last < held[x].1.2 → y.1 ≤ held[x].1.2) ?_ (n := held.length)
    ⟨rfl, 0, rfl, by omega, .inl rfl, fun x hx h => by omega⟩
  rintro I9 m3 ⟨best, y2⟩ hp3 ⟨rfl, j, hy2, hjm, hbest, hmin⟩ hI9
  simp only at hy2 hbest hmin
  subst hy2
  unfold F58_l9
  obtain ⟨bl, ol, haol, hcl⟩ := hr2.lst.get v4_len hl hi
  simp only [ptrN_some, hr2.cell, Nat.zero_add, List.getElem?_cons_succ, List.getElem?_cons_zero, ldV_some, slcV_slice]
  have hz5 : [Value.int .u8 0, .int .u8 0, .int .u8 0, .int .u8 0, .int .i64 0] = t4 (q0, 0) := rfl
  have hsp : ∀ x, splice (t4 (q0, 0)) 0 (t4 x) = t4 x := fun x => splice_all rfl
  have q4 : ∀ x : Q × Int, (t4 x)[4]? = some (.int .i64 x.2) := fun _ => rfl
  have q5 : ∀ x : Q × Int, cellsN (t4 x) 0 4 = some (v4 x.1) := fun _ => rfl
  by_cases hj : j < held.length
  · rw [decide_eq_true (by omega : (j : Int) < (held.length : Int)), ite2_true]
    obtain ⟨b, o, hao, hc⟩ := hr2.2.2.2.2.2.shows.get hv_len rfl hj
    have hc5 : hp3.cellN b (o + j * 6 + 0) 5 = some (t4 held[j].1) := by
      rw [cellN_cellN hc (by omega)]; rfl
    simp only [hao, haol, ptrN_some, Int.toNat_natCast, hc5, hcl, ldL_some, t4_len, t4_one, if_true, hz5, hsp, q4, q5]
    refine ⟨by omega, by omega, ?_⟩
    refine ifI (by omega) ?_
    refine ⟨by omega, by omega, ?_⟩
    refine eq73 ?_
    have w1 : IntKind.wrap .i64 ((j : Int) + 1) = ((j + 1 : Nat) : Int) := wi (by omega) (by omega)
    have step : ∀ b2 : Int, (b2 = 1048576 ∨ ((l[i], b2) ∈ held.map (·.1) ∧ last < b2)) → b2 ≤ best → (held[j].1.1 = l[i] → last < held[j].1.2 → b2 ≤ held[j].1.2) →
        F58_j10 (some ⟨q, 0, none⟩) s2 ts.length c2 i last b2 j hp3 I I6 I9 K := by
      intro b2 g1 g2 g3
      unfold F58_j10
      rw [w1]
      refine hI9 (m3 - 1) _ _ (by omega) ⟨rfl, j + 1, rfl, by omega, g1, fun x hx hxj he hla => ?_⟩
      by_cases hxe : x = j
      · subst hxe; exact g3 he hla
      · have := hmin x hx (by omega) he hla
        omega
    by_cases he : held[j].1.1 = l[i]
    · rw [decide_eq_true he, ite2_true]
      simp only [ldV_some, intV_int]
      by_cases hla : last < held[j].1.2
      · rw [decide_eq_true (by omega : held[j].1.2 > last), ite2_true]
        unfold F58_j11
        by_cases hbe : held[j].1.2 < best
        · rw [decide_eq_true hbe, ite2_true]
          simp only [q4, ldV_some, intV_int]
          refine step _ (.inr ⟨?_, hla⟩) (by omega) (fun _ _ => by omega)
          rw [← he]; exact List.mem_map.2 ⟨held[j], List.getElem_mem hj, rfl⟩
        · rw [decide_eq_false hbe, ite2_false]
          exact step _ hbest (by omega) (fun _ _ => by omega)
      · rw [decide_eq_false (by omega : ¬ held[j].1.2 > last), ite2_false]
        unfold F58_j11
        rw [ite2_false]
        exact step _ hbest (by omega) (fun _ h => absurd h hla)
    · rw [decide_eq_false he, ite2_false]
      unfold F58_j11
      rw [ite2_false]
      exact step _ hbest (by omega) (fun h _ => absurd h he)
  · rw [decide_eq_false (by omega : ¬ (j : Int) < (held.length : Int)), ite2_false]
    unfold F58_j7
    have hport : ∀ t ∈ held.map (·.1), 0 ≤ t.2 ∧ t.2 ≤ 65535 := fun t ht => by
      obtain ⟨kv, hkv, rfl⟩ := List.mem_map.1 ht
      exact (ho.2 kv hkv).2
    have hmin' : ∀ t ∈ held.map (·.1), t.1 = l[i] → last < t.2 → best ≤ t.2 := fun t ht he hla => by
      obtain ⟨kv, hkv, rfl⟩ := List.mem_map.1 ht
      obtain ⟨x, hx, rfl⟩ := List.getElem_of_mem hkv
      exact hmin x hx (by omega) he hla
    rcases hbest with hbest | ⟨hb1, hb2⟩
    · subst hbest
      show ite2 true _ _
      rw [ite2_true]
      unfold F58_j4
      have w1 : IntKind.wrap .i64 ((i : Int) + 1) = ((i + 1 : Nat) : Int) := wi (by omega) (by omega)
      rw [w1]
      refine hI (m - 1) _ _ (by omega) ⟨i + 1, ts, rfl, by omega, h02, rfl, hrow, hfr, hpw, hsub, fun t ht => ?_, fun t ht h => hall t ht ?_⟩
      · rcases hlt t ht with h | ⟨h, _⟩ <;> omega
      · by_cases hlt' : idx t.1 l < i
        · exact .inl hlt'
        · have he : idx t.1 l = i := by omega
          refine .inr ⟨he, Int.not_lt.1 fun hla => ?_⟩
          have h1 := hmin' t ht ((hix _).1 he) hla
          have h2 := (hport t ht).2
          omega
    · have hp5 := hport _ hb1
      simp only at hp5
      have hne : (best == 1048576) = false := by
        rw [beq_eq_false_iff_ne]; omega
      rw [hne, ite2_false]
      have hset : List.set (splice (t4 (q0, 0)) 0 (v4 l[i])) 4 (.int .i64 best) = t4 (l[i], best) := rfl
      simp only [hr2.cell, Nat.zero_add, List.getElem?_cons_zero, ldV_some, slcV_slice, haol, ptrN_some, Int.toNat_natCast, hcl, ldL_some, v4_len, if_true, hz5, hset, t4_len]
      refine ⟨by omega, by omega, ?_⟩
      intro b8 hb8
      rw [hsp]
      have s8 := HSub.set_fresh hp3 (.cells 75 (t4 (l[i], best)) 0) hb8
      refine opS_appF (e := 75) (size := 5) (bytes := 16) (by kernel_rfl) (hrow.sub s8) (.inr ⟨b8, 0, rfl, by rw [HP.cellN_of (HP.set_eq ..)]; exact cellsN_all rfl⟩) (t4_one _) (by omega) (by omega) ?_
      intro s9 c9 hp9 hrow9 hf9
      obtain ⟨k1, k2⟩ := hf9 hp (h02.trans s8) hfr
      rw [slcV_slice]
      have hlen : ts.length + 1 = (ts ++ [(l[i], best)]).length := by simp
      have hfl : ts.flatMap t4 ++ t4 (l[i], best) = (ts ++ [(l[i], best)]).flatMap t4 := by simp
      rw [hlen, hfl] at hrow9
      rw [hlen]
      have hidx : idx l[i] l = i := (hix _).2 rfl
      refine hI6 (65536 - best).toNat _ _ (by omega) ⟨ts ++ [(l[i], best)], rfl, by simp only; omega, by simp only; omega, k1, rfl, hrow9, k2, ?_, ?_, ?_, ?_⟩
      · rw [List.pairwise_append]
        refine ⟨hpw, by simp, fun x hx y hy => ?_⟩
        rw [List.mem_singleton] at hy
        subst hy
        rw [cmpT_lt]
        simp only [hidx]
        rcases hlt x hx with h | ⟨h, h'⟩
        · exact .inl h
        · exact .inr ⟨h, by omega⟩
      · intro t ht
        rw [List.mem_append, List.mem_singleton] at ht
        rcases ht with ht | rfl
        · exact hsub t ht
        · exact hb1
      · intro t ht
        rw [List.mem_append, List.mem_singleton] at ht
        simp only
        rcases ht with ht | rfl
        · rcases hlt t ht with h | ⟨h, h'⟩
          · exact .inl h
          · exact .inr ⟨h, by omega⟩
        · exact .inr ⟨hidx, Int.le_refl _⟩
      · intro t ht h
        simp only at h
        rw [List.mem_append, List.mem_singleton]
        by_cases hold : idx t.1 l < i ∨ (idx t.1 l = i ∧ t.2 ≤ last)
        · exact .inl (hall t ht hold)
        · right
          have he : idx t.1 l = i := by omega
          have hta := (hix _).1 he
          have := hmin' t ht hta (by omega)
          refine Prod.ext hta ?_
          simp only; omega

/-- The order in which the document looks. -/
def orderD (first : Q) (l : List Q) : List Q := (if first ∈ l then [first] else []) ++ l.filter (fun x => decide (x ≠ first))
theorem orderD_eq {first : Q} {l : List Q} (hnd : l.Nodup) : orderD first l = orderQ first l := by
  unfold orderD orderQ
  have hfe : l.filter (fun x => decide (x ≠ first)) = l.erase first := by
    rw [hnd.erase_eq_filter]
    refine List.filter_congr fun x _ => ?_
    by_cases e : x = first <;> simp [e]
  split
  · rename_i hm
    have hi : idx first l = (l.idxOf first : Int) := by unfold idx; rw [if_pos hm]
    by_cases h0 : idx first l > 0
    · rw [if_pos h0, hfe]; rfl
    · rw [if_neg h0, hfe]
      have hz : l.idxOf first = 0 := by omega
      cases l with
      | nil => cases hm
      | cons y l =>
        rw [List.idxOf_cons] at hz
        by_cases e : y = first
        · subst e; simp
        · have hb : (y == first) = false := by rw [beq_eq_false_iff_ne]; exact e
          rw [hb] at hz; simp at hz
  · rename_i hm
    have hi : ¬ idx first l > 0 := by unfold idx; rw [if_neg hm]; omega
    rw [if_neg hi, hfe, List.erase_of_not_mem hm]; rfl
end
end Go.Proofs

set_option linter.unusedVariables false
set_option maxRecDepth 20000
namespace Go.Proofs
open Go Go.HL

section
variable {hp0 hp : HP} {q : Nat} {a : Option Addr} {n c : Nat} {l : List Q} {low high : Int} {held : List ((Q × Int) × Bool)} {s : Option Addr} {k : Nat} {t : Q × Int} {K : Value → HP → Prop}

theorem Chg.mono {hp1 : HP} {X Y : HP → Prop} (h : Chg hp0 hp q a n c l low high held X) (hs : HSub hp hp1) (hxy : ∀ hp', X hp' → Y hp') : Chg hp0 hp1 q a n c l low high held Y :=
  fun hp' s' k' h1 h2 => hxy hp' (h hp' s' k' ((HSub.set hs q .none).trans h1) h2)

theorem C101 {first : Q} {x : Int} {plain : Bool} (hr : RefR hp0 hp q a n c l low high held s k) (hn : n ≤ 4) (hh : held.length ≤ 65535) (hb : 0 ≤ low ∧ low ≤ 65535 ∧ 0 ≤ high ∧ high ≤ 65535) (hnd : l.Nodup)
    (harg : isPort x = false → K (.tuple ⟨[.agg ⟨t4 (q0, 0)⟩, .int .i64 1]⟩) hp)
    (hfull : isPort x = true → takeQ l low high held first x plain = none → K (.tuple ⟨[.agg ⟨t4 (q0, 0)⟩, .int .i64 6]⟩) hp)
    (hgot : isPort x = true → ∀ t, takeQ l low high held first x plain = some t → Chg hp0 hp q a n c l low high (putL t false held) fun hp' => K (.tuple ⟨[.agg ⟨t4 t⟩, .int .i64 0]⟩) hp') :
    CF Try.prog 101 [ptr q 0, .agg ⟨v4 first⟩, .int .i64 x, .bool plain] hp K := by
  refine CF.drop (F101_ok _ (v4 first) x plain hp _ ?_)
  have hl := hr.2.2.2.1
  unfold F101
  have hz5 : [Value.int .u8 0, .int .u8 0, .int .u8 0, .int .u8 0, .int .i64 0] = t4 (q0, 0) := rfl
  have hz4 : [Value.int .u8 0, .int .u8 0, .int .u8 0, .int .u8 0] = v4 q0 := rfl
  have hsp : ∀ x, splice (t4 (q0, 0)) 0 (t4 x) = t4 x := fun x => splice_all rfl
  have hsp4 : ∀ x, splice (v4 q0) 0 (v4 x) = v4 x := fun x => splice_all rfl
  have bad : isPort x = false → F101_j1 (some ⟨q, 0, none⟩) x plain true (v4 first) [Value.int .u8 0, .int .u8 0, .int .u8 0, .int .u8 0, .int .i64 0] hp (fun v hp' => ∃ hp'', HSub hp'' hp' ∧ K v hp'') := by
    intro hx
    unfold F101_j1
    simp only [ite2_true, hz5, t4_len, t4_one, if_true, hsp, cellsN_all (t4_len _), ldL_some]
    refine ifI (by omega) ?_
    exact ⟨hp, HSub.refl _, harg hx⟩
  by_cases h1 : x < 0
  · rw [decide_eq_true h1, ite2_true]
    exact bad (by unfold isPort; exact decide_eq_false (by omega))
  rw [decide_eq_false h1, ite2_false]
  by_cases h2 : x > 65535
  · rw [decide_eq_true h2]
    exact bad (by unfold isPort; exact decide_eq_false (by omega))
  rw [decide_eq_false h2]
  have hx : isPort x = true := by unfold isPort; exact decide_eq_true (by omega)
  unfold F101_j1
  rw [ite2_false]
  intro b2 hb2
  have s2 := HSub.set_fresh hp (.cells 73 [] 0) hb2
  rw [cellsN_all (v4_len first), ldL_some]
  have hr2 := hr.sub s2
  have r0 : Row (hp.set b2 (.cells 73 [] 0)) (some ⟨b2, 0, none⟩) 0 0 73 4 [] := .inr ⟨b2, rfl, Nat.le_refl _, by simp, by simp [HP.set_eq]⟩
  refine C106 hr2 hn ?_
  rw [boolV_bool]
  -- behind the first one
  have two : ∀ (hp1 : HP) (s1 : Option Addr) (n1 c1 : Nat), HSub hp hp1 → Row hp1 s1 n1 c1 73 4 ((if first ∈ l then [first] else []).flatMap v4) → n1 = (if first ∈ l then [first] else []).length → (∀ b, s1 = some ⟨b, 0, none⟩ → hp b = .none) →
      F101_j2 (some ⟨q, 0, none⟩) x plain s1 n1 c1 (v4 first) [Value.int .u8 0, .int .u8 0, .int .u8 0, .int .u8 0, .int .i64 0] hp1 (fun v hp' => ∃ hp'', HSub hp'' hp' ∧ K v hp'') := by
    intro hp1 s1 n1 c1 h01 hrow1 hn1 hfr1
    unfold F101_j2 F101_j12
    have hpl : (if first ∈ l then [first] else []).length ≤ 1 := by split <;> simp
    refine LoopP.by (J := fun m (y : Option Addr × Nat × Nat × Int) hp' => ∃ i : Nat, y.2.2.2 = i ∧ i + m = n ∧ HSub hp hp' ∧ Row hp' y.1 y.2.1 y.2.2.1 73 4 (((if first ∈ l then [first] else []) ++ (l.take i).filter (fun x => decide (x ≠ first))).flatMap v4) ∧ y.2.1 = ((if first ∈ l then [first] else []) ++ (l.take i).filter (fun x => decide (x ≠ first))).length ∧ ∀ b, y.1 = some ⟨b, 0, none⟩ → hp b = .none) ?_
      (n := n) ⟨0, rfl, by omega, h01, by simpa using hrow1, by simpa using hn1, hfr1⟩
    clear h01 hrow1 hn1 hfr1
    rintro I m ⟨s3, n3, c3, y⟩ hp3 ⟨i, hy, him, h03, hrow3, hn3, hfr3⟩ hI
    simp only at hy hrow3 hn3 hfr3
    subst hy
    generalize hpre : (if first ∈ l then [first] else []) = pre at *
    have hr3 := hr.sub h03
    unfold F101_l13
    simp only [ptrN_some, hr3.cell, Nat.zero_add, List.getElem?_cons_zero, ldV_some, slcV_slice]
    by_cases hi : i < n
    · have hil : i < l.length := by omega
      rw [decide_eq_true (by omega : (i : Int) < (n : Int)), ite2_true]
      obtain ⟨bl, ol, haol, hcl⟩ := hr3.lst.get v4_len hl hi
      simp only [haol, ptrN_some, Int.toNat_natCast, hcl, ldL_some, cellsN_all (v4_len _)]
      refine ⟨by omega, by omega, ?_⟩
      refine eq73 ?_
      have w1 : IntKind.wrap .i64 ((i : Int) + 1) = ((i + 1 : Nat) : Int) := wi (by omega) (by omega)
      have hfl : ((l.take i).filter (fun x => decide (x ≠ first))).length ≤ (l.take i).length := List.length_filter_le _ _
      rw [List.length_take] at hfl
      have hn3' := hn3
      rw [List.length_append] at hn3'
      by_cases he : l[i] = first
      · rw [decide_eq_true he, Bool.not_true, ite2_false]
        unfold F101_j14
        rw [w1]
        have hf : (l.take (i + 1)).filter (fun x => decide (x ≠ first)) = (l.take i).filter (fun x => decide (x ≠ first)) := by
          rw [List.take_succ_eq_append_getElem hil, List.filter_append]; simp [he]
        exact hI (m - 1) _ _ (by omega) ⟨i + 1, rfl, by omega, h03, by rw [hf]; exact hrow3, by rw [hf]; exact hn3, hfr3⟩
      · rw [decide_eq_false he, Bool.not_false, ite2_true]
        refine ⟨by omega, by omega, ?_⟩
        refine ifI (v4_len _) ?_
        intro b5 hb5
        rw [hz4, hsp4]
        have s5 := HSub.set_fresh hp3 (.cells 73 (v4 l[i]) 0) hb5
        refine opS_appF (e := 73) (size := 4) (bytes := 4) (by kernel_rfl) (hrow3.sub s5) (.inr ⟨b5, 0, rfl, by rw [HP.cellN_of (HP.set_eq ..)]; exact cellsN_all rfl⟩) (v4_one _) (by omega) (by omega) ?_
        intro s6 c6 hp6 hrow6 hf6
        obtain ⟨k1, k2⟩ := hf6 hp (h03.trans s5) hfr3
        rw [slcV_slice]
        unfold F101_j14
        rw [w1]
        have hf : pre ++ (l.take (i + 1)).filter (fun x => decide (x ≠ first)) = (pre ++ (l.take i).filter (fun x => decide (x ≠ first))) ++ [l[i]] := by
          rw [List.take_succ_eq_append_getElem hil, List.filter_append, List.append_assoc]; simp [he]
        refine hI (m - 1) _ _ (by omega) ⟨i + 1, rfl, by omega, k1, ?_, ?_, k2⟩
        · rw [hf, List.flatMap_append]
          have : ([l[i]]).flatMap v4 = v4 l[i] := by simp
          rw [this]; exact hrow6
        · simp only
          rw [hf, List.length_append, ← hn3]; rfl
    rw [decide_eq_false (by omega : ¬ (i : Int) < (n : Int)), ite2_false]
    have hO' : pre ++ (l.take i).filter (fun x => decide (x ≠ first)) = orderQ first l := by
      rw [← orderD_eq hnd, List.take_of_length_le (by omega), ← hpre]; rfl
    rw [hO'] at hrow3 hn3
    have hol := orderQ_len (first := first) (l := l)
    have htq : takeQ l low high held first x plain = (orderQ first l).findSome? (firstIn low high held x plain) := rfl
    generalize hO : orderQ first l = O at *
    subst hn3
    clear hI him
    unfold F101_j3 F101_j5
    refine LoopP.by (J := fun k (s : Int × List Value) hp' => hp' = hp3 ∧ s.2 = t4 (q0, 0) ∧ ∃ i : Nat, s.1 = i ∧ i + k = O.length ∧ takeQ l low high held first x plain = (O.drop i).findSome? (firstIn low high held x plain)) ?_ (n := O.length)
      ⟨rfl, hz5, 0, rfl, by omega, htq⟩
    rintro I m' ⟨x1, k8⟩ hp' ⟨rfl, hk8, i, hxi, hik, hO2⟩ hI
    simp only at hk8 hxi
    subst hk8; subst hxi
    unfold F101_l6
    by_cases hi : i < O.length
    · rw [decide_eq_true (by omega : (i : Int) < (O.length : Int)), ite2_true]
      obtain ⟨b, o, hs3, hc⟩ := hrow3.shows.get v4_len rfl hi
      simp only [ptrN_some, hr3.cell, Nat.zero_add, List.getElem?_cons_succ, List.getElem?_cons_zero, ldV_some, intV_int]
      unfold F101_j8
      rw [List.drop_eq_getElem_cons hi, List.findSome?_cons] at hO2
      refine LoopP.by (J := fun k' (s : Int × List Value) hp'' => hp'' = hp' ∧ s.2 = t4 (q0, 0) ∧ k' = (high + 1 - s.1).toNat ∧ low ≤ s.1 ∧
        firstIn low high held x plain O[i] = (ports k' s.1).findSome? (freeAt held x plain O[i])) ?_ (n := (high + 1 - low).toNat) ⟨rfl, rfl, rfl, Int.le_refl _, rfl⟩
      rintro I' k' ⟨y, k8⟩ hp'' ⟨rfl, hk8, hk', hly, hfi⟩ hI'
      simp only at hk8 hk' hly hfi
      subst hk8
      unfold F101_l9
      simp only [ptrN_some, hr3.cell, Nat.zero_add, List.getElem?_cons_succ, List.getElem?_cons_zero, ldV_some, intV_int]
      by_cases hyh : y ≤ high
      · have hset : (splice (t4 (q0, 0)) 0 (v4 O[i])).set 4 (.int .i64 y) = t4 (O[i], y) := rfl
        simp only [decide_eq_true hyh, ite2_true, hs3, ptrN_some, Int.toNat_natCast, hc, ldL_some, v4_len, if_true, hz5, hset, t4_len, t4_one, hsp, cellsN_all (t4_len _)]
        rw [← hs3]
        refine ⟨by omega, by omega, ?_⟩
        refine ifI (by omega) ?_
        obtain ⟨kk, rfl⟩ : ∃ kk, k' = kk + 1 := ⟨k' - 1, by omega⟩
        rw [ports, List.findSome?_cons] at hfi
        -- behind one that does not do
        have next : freeAt held x plain O[i] y = none → F101_j10 (some ⟨q, 0, none⟩) x plain s3 O.length c3 i y false (t4 (q0, 0)) (t4 (O[i], y)) hp'' I I' (fun v hp' => ∃ hp'', HSub hp'' hp' ∧ K v hp'') := by
          intro hf
          unfold F101_j10
          rw [ite2_false, w64 (by omega) (by omega)]
          rw [hf] at hfi
          exact hI' kk _ _ (by omega) ⟨rfl, rfl, by simp only; omega, by simp only; omega, hfi⟩
        have found : freeAt held x plain O[i] y = some (O[i], y) → F101_j10 (some ⟨q, 0, none⟩) x plain s3 O.length c3 i y true (t4 (q0, 0)) (t4 (O[i], y)) hp'' I I' (fun v hp' => ∃ hp'', HSub hp'' hp' ∧ K v hp'') := by
          intro hf
          have hg := (freeAt_some hf).2.1
          rw [hf] at hfi
          rw [hfi] at hO2
          have hX := (hgot hx _ hO2).mono h03 (Y := fun h => F101_j11 (t4 (q0, 0)) (t4 (O[i], y)) h I I' (fun v hp' => ∃ hp'', HSub hp'' hp' ∧ K v hp'')) fun hp9 hk9 => by
            unfold F101_j11
            simp only [cellsN_all (t4_len _), ldL_some, t4_len, t4_one, if_true, hsp]
            refine ifI (by omega) ?_
            exact ⟨hp9, HSub.refl _, hk9⟩
          rw [put_new hg] at hX
          unfold F101_j10
          rw [ite2_true]
          have e1 := put1 hr3 hh hX
          have e2 := put2 hr3 hh hX
          have e3 := put3 hr3 hh hX
          simp (contextual := true) only [ptrN_some, hr3.cell, hr3.read, hr3.read2, Nat.zero_add, List.getElem?_cons_succ, List.getElem?_cons_zero, ldV_some, slcV_slice, ldL_some, cellsN_all (t4_len _), t4_len, h6, h6l, if_true]
          refine ⟨?_, ?_, ?_, ?_, ?_, ?_, ?_, ?_⟩
          all_goals first | exact e1 | exact e2 | exact e3
        have look : (plain || cls x y) = true → CF Try.prog 134 [.pointer (some ⟨q, 0, none⟩), .agg ⟨t4 (O[i], y)⟩] hp'' fun u h => intV u .i64 fun v => F101_j10 (some ⟨q, 0, none⟩) x plain s3 O.length c3 i y (decide (v < 0)) (t4 (q0, 0)) (t4 (O[i], y)) h I I' (fun v hp' => ∃ hp'', HSub hp'' hp' ∧ K v hp'') := by
          intro hc
          refine C134 hr3 hh fun v hv' => ?_
          rw [intV_int]
          rcases hv' with ⟨rfl, hg⟩ | ⟨j, hj, rfl, hg, _⟩
          · exact found (by simp [freeAt, hg, hc])
          · rw [decide_eq_false (by omega : ¬ (j : Int) < 0)]
            exact next (by simp [freeAt, hg])
        cases plain
        · rw [ite2_false]
          refine C59 ?_
          rw [boolV_bool]
          cases hcl : cls x y
          · rw [ite2_false]
            exact next (by simp [freeAt, hcl])
          · rw [ite2_true]
            exact look (by simp [hcl])
        · rw [ite2_true]
          exact look rfl
      · rw [decide_eq_false hyh, ite2_false]
        unfold F101_j7
        have : k' = 0 := by omega
        subst this
        rw [ports, List.findSome?_nil] at hfi
        rw [hfi] at hO2
        rw [w64 (by omega) (by omega)]
        exact hI (m' - 1) _ _ (by omega) ⟨rfl, rfl, i + 1, by simp, by omega, hO2⟩
    · rw [decide_eq_false (by omega : ¬ (i : Int) < (O.length : Int)), ite2_false]
      unfold F101_j4
      rw [List.drop_eq_nil_of_le (by omega), List.findSome?_nil] at hO2
      simp only [hz5, t4_len, t4_one, if_true, hsp, cellsN_all (t4_len _), ldL_some]
      refine ifI (by omega) ?_
      exact ⟨hp, h03, hfull hx hO2⟩
  by_cases hm : first ∈ l
  · rw [decide_eq_true hm, ite2_true, ldL_some]
    refine ifI (v4_len _) ?_
    intro b3 hb3
    rw [hz4, hsp4]
    have s3 := HSub.set_fresh (hp.set b2 (.cells 73 [] 0)) (.cells 73 (v4 first) 0) hb3
    refine opS_appF (e := 73) (size := 4) (bytes := 4) (by kernel_rfl) (r0.sub s3) (.inr ⟨b3, 0, rfl, by rw [HP.cellN_of (HP.set_eq ..)]; exact cellsN_all rfl⟩) (v4_one _) (by omega) (by omega) ?_
    intro s6 c6 hp6 hrow6 hf6
    obtain ⟨k1, k2⟩ := hf6 hp (s2.trans s3) (fun b e => by cases e; exact hb2)
    rw [slcV_slice]
    refine two hp6 s6 _ c6 k1 ?_ ?_ k2
    · rw [if_pos hm]; simpa using hrow6
    · rw [if_pos hm]; rfl
  · rw [decide_eq_false hm, ite2_false]
    refine two _ _ 0 0 s2 ?_ ?_ (fun b e => by cases e; exact hb2)
    · rw [if_neg hm]; exact r0
    · rw [if_neg hm]; rfl
end
end Go.Proofs

set_option linter.unusedVariables false
set_option maxRecDepth 20000
namespace Go.Proofs
open Go Go.HL
-- 43 interpreter/interpreterlaw18.Great
section
variable (e : Env) (x0 x1 : Int) (x2a : Option Addr) (x2n x2c : Nat) (hp : HP) (K : Env → PV → HP → Prop)
abbrev R43 (p : List Nat) (n : Nat) := RW Try.prog 27 [] (opsAt Try.f43 p) (List.range n)
theorem F43_r0 : R43 [0] 1 e V0 hp K =
    (K (upd e 6 (sB false)) V0 hp) := by kernel_rfl
theorem F43_r1 : R43 [1, 0] 21 (upd (upd (upd e 2 (sS x2a x2n x2c)) 1 (sI x1)) 0 (sI x0)) V0 hp K =
    (ite2 (decide (((x2n : Nat) : Int) > 200)) (K (upd (upd (upd (upd (upd (upd (upd (upd (upd (upd (upd (upd (upd (upd (upd (upd (upd (upd (upd (upd (upd (upd (upd (upd e 2 (sS x2a x2n x2c)) 1 (sI x1)) 0 (sI x0)) 7 (sS x2a x2n x2c)) 8 (sI ((x2n : Nat)))) 9 (sB ((decide (((x2n : Nat) : Int) > 200))))) 10 (sB true)) 11 sU) 12 sU) 13 sU) 14 sU) 15 (sB true)) 16 (sB true)) 17 sU) 18 sU) 19 sU) 20 sU) 21 sU) 22 sU) 23 sU) 24 sU) 25 sU) 26 (sB true)) 6 (sB true)) V0 hp) (ite2 (decide (((wr (x1 - x0)) : Int) > 60)) (K (upd (upd (upd (upd (upd (upd (upd (upd (upd (upd (upd (upd (upd (upd (upd (upd (upd (upd (upd (upd (upd (upd (upd (upd e 2 (sS x2a x2n x2c)) 1 (sI x1)) 0 (sI x0)) 7 (sS x2a x2n x2c)) 8 (sI ((x2n : Nat)))) 9 (sB ((decide (((x2n : Nat) : Int) > 200))))) 10 (sB false)) 11 (sI x1)) 12 (sI x0)) 13 (sI ((wr (x1 - x0))))) 14 (sB ((decide (((wr (x1 - x0)) : Int) > 60))))) 15 (sB ((decide (((wr (x1 - x0)) : Int) > 60))))) 16 (sB true)) 17 sU) 18 sU) 19 sU) 20 sU) 21 sU) 22 sU) 23 sU) 24 sU) 25 sU) 26 (sB true)) 6 (sB true)) V0 hp) (ite2 (decide (((wr (x1 - x0)) : Int) < 0)) (K (upd (upd (upd (upd (upd (upd (upd (upd (upd (upd (upd (upd (upd (upd (upd (upd (upd (upd (upd (upd (upd (upd (upd (upd e 2 (sS x2a x2n x2c)) 1 (sI x1)) 0 (sI x0)) 7 (sS x2a x2n x2c)) 8 (sI ((x2n : Nat)))) 9 (sB ((decide (((x2n : Nat) : Int) > 200))))) 10 (sB false)) 11 (sI x1)) 12 (sI x0)) 13 (sI ((wr (x1 - x0))))) 14 (sB ((decide (((wr (x1 - x0)) : Int) > 60))))) 15 (sB ((decide (((wr (x1 - x0)) : Int) > 60))))) 16 (sB false)) 17 (sI x1)) 18 (sI x0)) 19 (sI ((wr (x1 - x0))))) 20 (sB ((decide (((wr (x1 - x0)) : Int) < 0))))) 21 (sB true)) 22 (sI x1)) 23 (sI x0)) 24 (sB (decide (x1 > x0)))) 25 (sB (decide (x1 > x0)))) 26 (sB (decide (x1 > x0)))) 6 (sB (decide (x1 > x0)))) V0 hp) (K (upd (upd (upd (upd (upd (upd (upd (upd (upd (upd (upd (upd (upd (upd (upd (upd (upd (upd (upd (upd (upd (upd (upd (upd e 2 (sS x2a x2n x2c)) 1 (sI x1)) 0 (sI x0)) 7 (sS x2a x2n x2c)) 8 (sI ((x2n : Nat)))) 9 (sB ((decide (((x2n : Nat) : Int) > 200))))) 10 (sB false)) 11 (sI x1)) 12 (sI x0)) 13 (sI ((wr (x1 - x0))))) 14 (sB ((decide (((wr (x1 - x0)) : Int) > 60))))) 15 (sB ((decide (((wr (x1 - x0)) : Int) > 60))))) 16 (sB false)) 17 (sI x1)) 18 (sI x0)) 19 (sI ((wr (x1 - x0))))) 20 (sB ((decide (((wr (x1 - x0)) : Int) < 0))))) 21 (sB false)) 22 sU) 23 sU) 24 sU) 25 (sB false)) 26 (sB false)) 6 (sB false)) V0 hp)))) := by kernel_rfl
def F43 (x0 : Int) (x1 : Int) (x2a : Option Addr) (x2n : Nat) (x2c : Nat) (hp : HP) (K : Value → HP → Prop) : Prop :=
  (ite2 (decide (((x2n : Nat) : Int) > 200)) (K (.bool true) hp) (ite2 (decide (((IntKind.wrap .i64 (x1 - x0)) : Int) > 60)) (K (.bool true) hp) (ite2 (decide (((IntKind.wrap .i64 (x1 - x0)) : Int) < 0)) (K (.bool (decide (x1 > x0))) hp) (K (.bool false) hp))))
noncomputable def F43_code : Code := (.seq (.region 0 (opsAt Try.f43 [0]) false) (.seq (.region 1 (opsAt Try.f43 [1, 0]) false) .ret))
theorem F43_body : Try.f43.body = some F43_code := by kernel_rfl
theorem F43_ok (x0 : Int) (x1 : Int) (x2a : Option Addr) (x2n : Nat) (x2c : Nat) (hp : HP) (K : Value → HP → Prop) (h : F43 x0 x1 x2a x2n x2c hp K) : CF Try.prog 43 [(.int .i64 x0), (.int .i64 x1), (.slice x2a x2n x2c)] hp K := by
 refine .inl ⟨by kernel_rfl, AC.intro (N := 27) Try.func43 F43_body rfl (Nat.le_of_ble_eq_true rfl) ?_⟩
 unfold F43 at h
 unfold F43_code
 refine AWP.seq' ?_
 refine AWP.rgn (F43_r0 (upd (upd (upd E0 2 (sS x2a x2n x2c)) 1 (sI x1)) 0 (sI x0))  hp _) ?_ (Ru 0 (Ru 1 (Ru 2 Rn))) (Sc rfl (Sc rfl (Sc rfl Sn))) Sn
 refine AWP.seq' ?_
 refine AWP.rgn (F43_r1 E0 x0 x1 x2a x2n x2c hp _) ?_ (Ru 0 (Ru 1 (Ru 2 Rn))) (Sc rfl (Sc rfl (Sc rfl Sn))) Sn
 refine mt h (fun h => ?_) (fun h => ?_)
 ·refine AWP.ret ?_
  exact h
 ·refine mt h (fun h => ?_) (fun h => ?_)
  ·refine AWP.ret ?_
   exact h
  ·refine mt h (fun h => ?_) (fun h => ?_)
   ·refine AWP.ret ?_
    exact h
   ·refine AWP.ret ?_
    exact h
end
end Go.Proofs

set_option linter.unusedVariables false
set_option maxRecDepth 20000
namespace Go.Proofs
open Go Go.HL

def iv (n : Int) : Value := .int .i64 n
theorem u78 : Try.prog.underlying 78 = some (.map 75 3) := by kernel_rfl
theorem z3 : ∀ w : World, (zeroValue 3).run Try.prog w = .ok (.int .i64 0) w := zero_of (by kernel_rfl)

theorem C43 {low high : Int} {a : Option Addr} {n c : Nat} {hp : HP} {K : Value → HP → Prop} (h : ∀ g : Bool, (g = false → n ≤ 200) → K (.bool g) hp) : CF Try.prog 43 [.int .i64 low, .int .i64 high, .slice a n c] hp K := by
  refine F43_ok low high a n c hp K ?_
  unfold F43
  by_cases h1 : n > 200
  · rw [decide_eq_true (by omega : ((n : Nat) : Int) > 200), ite2_true]
    exact h true (fun e => by cases e)
  rw [decide_eq_false (by omega : ¬ ((n : Nat) : Int) > 200), ite2_false]
  cases decide (IntKind.wrap .i64 (high - low) > 60)
  · rw [ite2_false]
    cases decide (IntKind.wrap .i64 (high - low) < 0)
    · rw [ite2_false]; exact h _ (fun _ => by omega)
    · rw [ite2_true]; exact h _ (fun _ => by omega)
  · rw [ite2_true]; exact h _ (fun _ => by omega)

/-- What was not free, as a map. -/
def wasL : List (Q × Int) → List ((Q × Int) × Int)
  | [] => []
  | t :: l => putL t 1 (wasL l)
theorem wasL_get (t : Q × Int) : ∀ l : List (Q × Int), getL t (wasL l) = if t ∈ l then some 1 else none
  | [] => by simp [wasL, getL]
  | u :: l => by
    rw [wasL, getL_put, wasL_get t l]
    by_cases h : t = u
    · simp [h]
    · simp [h]

theorem lookW {hp : HP} {mw : Nat} {ts : List (Q × Int)} {w : List (Q × Int)} (hw : MapE t4k iv (wasL w) (hp mw)) (t : Q × Int) {c : Int → Prop} (h : c (if t ∈ w then 1 else 0)) :
    rdS Try.prog (Instr.lookup 78 (.map (some mw)) (.agg ⟨t4 t⟩) false) hp fun u => intV u .i64 c := by
  refine rdS_lookup u78 enc75 z3 hw t ?_
  simp only [Bool.false_eq_true, if_false]
  rw [wasL_get]
  by_cases hm : t ∈ w
  · rw [if_pos hm] at h ⊢
    simpa [iv] using h
  · rw [if_neg hm] at h ⊢
    simpa using h

section
variable {a0 a3 : Option Addr} {n0 c0 n3 c3 : Nat} {l : List Q} {low high : Int} {acts : List Act} {hp : HP} {K : Value → HP → Prop}

theorem newOk_bounds (h : newOk l low high = true) : l.length ≤ 4 ∧ 0 ≤ low ∧ low ≤ 65535 ∧ 0 ≤ high ∧ high ≤ 65535 ∧ low ≤ high := by
  unfold newOk isPort at h
  simp only [Bool.and_eq_true, decide_eq_true_eq] at h
  omega

end
end Go.Proofs

set_option linter.unusedVariables false
set_option maxRecDepth 20000
namespace Go.Proofs
open Go Go.HL

theorem isQ_own {l : List Q} {held : List ((Q × Int) × Bool)} (ho : Own l held) (t : Q × Int) : isQ l held t = is_ held t := by
  unfold isQ is_
  rcases mayQ_cases l t with hm | hm
  · rw [hm, if_neg (by decide)]; cases getL t held <;> rfl
  · rw [hm]
    have : getL t held = none := getL_none.2 fun h => by
      obtain ⟨kv, hkv, rfl⟩ := List.mem_map.1 h
      have := ho.2 kv hkv
      unfold mayQ isPort at hm
      rw [decide_eq_true this.2] at hm
      simp [this.1] at hm
    rw [this]; rfl

theorem giveQ_get {l : List Q} {held : List ((Q × Int) × Bool)} {t : Q × Int} (h : reserveQ l held t = 0) : getL t held = none ∧ mayQ l t = 0 := by
  unfold reserveQ at h
  by_cases hm : mayQ l t = 0
  · refine ⟨?_, hm⟩
    rw [hm] at h
    cases hg : getL t held with
    | none => rfl
    | some r => rw [hg] at h; simp at h
  · rw [if_pos hm] at h; cases h

section
variable {hp0 hp : HP} {p m q : Nat} {a : Option Addr} {n c : Nat} {l : List Q} {low high : Int} {held : List ((Q × Int) × Bool)} {s : Option Addr} {k : Nat} {t : Q × Int} {K : Value → HP → Prop}

theorem C56 {ac : Act} (hr : PoolR hp p l low high held m) (hq : RefR hp0 hp q a n c l low high held s k) (hn : n ≤ 4) (hm0 : hp0 m = .none) (ho : Own l held) (hh : held.length ≤ 60000) (hnd : l.Nodup) (hb : 0 ≤ low ∧ low ≤ 65535 ∧ 0 ≤ high ∧ high ≤ 65535)
    (hK : ∀ hp' held' s' k', PoolR hp' p l low high held' m → RefR hp0 hp' q a n c l low high held' s' k' → Own l held' → held'.length ≤ held.length + 1 → K (.bool true) hp') :
    CF Try.prog 56 [ptr p 0, ptr q 0, .agg ⟨act ac⟩] hp K := by
  refine F56_ok _ _ (act ac) hp K ?_
  have hlen : l.length ≤ 4 := by have := hq.2.2.2.1; omega
  have hz5 : [Value.int .u8 0, .int .u8 0, .int .u8 0, .int .u8 0, .int .i64 0] = t4 (q0, 0) := rfl
  have hsp : ∀ x y, splice (t4 y) 0 (t4 x) = t4 x := fun x y => splice_all rfl
  have k0 : (act ac)[0]? = some (.int .u8 ac.1) := rfl
  have k1 : cellsN (act ac) 1 5 = some (t4 ac.2.1) := rfl
  have k6 : (act ac)[6]? = some (.bool ac.2.2) := rfl
  have q4 : ∀ x : Q × Int, (t4 x)[4]? = some (.int .i64 x.2) := fun _ => rfl
  have q5 : ∀ x : Q × Int, cellsN (t4 x) 0 4 = some (v4 x.1) := fun _ => rfl
  -- the map changes, then the list
  have both : ∀ {hp : HP} {s : Option Addr} {k : Nat} (held' : List ((Q × Int) × Bool)) (e : Ent), PoolR hp p l low high held m → RefR hp0 hp q a n c l low high held s k → MapE t4k vb held' e → RefR hp0 (hp.set m e) q a n c l low high held s k ∧ (Own l held' → held'.length ≤ held.length + 1 → Chg hp0 (hp.set m e) q a n c l low high held' fun hp' => K (.bool true) hp') := by
    intro hp s k held' e hr hq he
    obtain ⟨o, hom⟩ : ∃ o, hp m = .obj o := by obtain ⟨es, clock, h, _⟩ := hr.mapM; exact ⟨_, h⟩
    have hq' := hq.set_obj hm0 hom (x := e)
    exact ⟨hq', fun g1 g2 hp' s' k' h1 h2 => hK hp' held' s' k' ((hr.upd he).kept hq'.2.2.2.2.1 h1) h2 g1 g2⟩
  have same : ∀ i : Int, K (.bool true) hp → K (.bool (i == i)) hp := fun i h => by simpa using h
  have stay : K (.bool true) hp := hK hp held s k hr hq ho (by omega)
  have give : ∀ (t : Q × Int) {hp : HP} {s : Option Addr} {k : Nat} (i : Int), PoolR hp p l low high held m → RefR hp0 hp q a n c l low high held s k → F56_j2 (some ⟨p, 0, none⟩) (some ⟨q, 0, none⟩) i true (t4 t) hp K := by
    intro t hp s k i hr hq
    unfold F56_j2
    rw [ite2_true, cellsN_all (t4_len t), ldL_some]
    refine C49 hr hlen ?_ ?_
    · intro h0
      rw [intV_int, ldL_some]
      refine C102 hq hn (by omega) ?_ (fun h => absurd h h0)
      intro _
      rw [intV_int]
      simpa using hK hp held s k hr hq ho (by omega)
    · intro h0 e he
      rw [intV_int, ldL_some]
      obtain ⟨g1, g2⟩ := both _ e hr hq he
      refine C102 g1 hn (by omega) (fun h => absurd h0 h) ?_
      intro _
      refine (g2 ho.del (by have := len_del_le t held; omega)).mono (HSub.refl _) fun hp' h => ?_
      rw [intV_int]; exact h
  have one : ∀ (t : Q × Int) {hp : HP} {s : Option Addr} {k : Nat}, PoolR hp p l low high held m → RefR hp0 hp q a n c l low high held s k → F56_j1 (some ⟨p, 0, none⟩) (some ⟨q, 0, none⟩) (act ac) (t4 t) hp K := by
    intro t hp s k hr hq
    have stay : K (.bool true) hp := hK hp held s k hr hq ho (by omega)
    unfold F56_j1
    simp only [k0, ldV_some, intV_int]
    by_cases h0 : ac.1 = 0
    · have e0 : (ac.1 == 0) = true := by simpa using h0
      rw [e0, ite2_true]
      simp only [q4, q5, k6, ldL_some, ldV_some, intV_int, boolV_bool]
      refine C46 hr hlen hb ?_ ?_ ?_
      · intro hx
        simp only [tup2V_mk, aggV_agg, intV_int, t4_len, t4_one, if_true, q4, q5, k6, ldL_some, ldV_some, boolV_bool, hz5]
        refine ifI (by omega) ?_
        refine C101 hq hn (by omega) hb hnd ?_ (fun h => by rw [hx] at h; cases h) (fun h => by rw [hx] at h; cases h)
        intro _
        simp only [tup2V_mk, aggV_agg, intV_int, t4_len, t4_one, if_true, hsp, cellsN_all (t4_len _), ldL_some]
        refine ifI (by omega) ?_
        refine eq75 ?_
        rw [decide_eq_true rfl, ite2_true]
        exact stay
      · intro hx ht
        simp only [tup2V_mk, aggV_agg, intV_int, t4_len, t4_one, if_true, q4, q5, k6, ldL_some, ldV_some, boolV_bool, hz5]
        refine ifI (by omega) ?_
        refine C101 hq hn (by omega) hb hnd (fun h => by rw [hx] at h; cases h) ?_ (fun _ t h => by rw [ht] at h; cases h)
        intro _ _
        simp only [tup2V_mk, aggV_agg, intV_int, t4_len, t4_one, if_true, hsp, cellsN_all (t4_len _), ldL_some]
        refine ifI (by omega) ?_
        refine eq75 ?_
        rw [decide_eq_true rfl, ite2_true]
        exact stay
      · intro hx t' ht e he
        simp only [tup2V_mk, aggV_agg, intV_int, t4_len, t4_one, if_true, q4, q5, k6, ldL_some, ldV_some, boolV_bool, hz5]
        refine ifI (by omega) ?_
        obtain ⟨g1, g2⟩ := both _ e hr hq he
        refine C101 g1 hn (by omega) hb hnd (fun h => by rw [hx] at h; cases h) (fun _ h => by rw [ht] at h; cases h) ?_
        intro _ t2 ht2
        rw [ht] at ht2
        cases ht2
        obtain ⟨f1, f2, f3, f4, _⟩ := takeQ_some ht
        refine (g2 (ho.put f4 f1 (by omega)) (len_put_le t' false held)).mono (HSub.refl _) fun hp' h => ?_
        simp only [tup2V_mk, aggV_agg, intV_int, t4_len, t4_one, if_true, hsp, cellsN_all (t4_len _), ldL_some]
        refine ifI (by omega) ?_
        refine eq75 ?_
        rw [decide_eq_true rfl, ite2_true]
        exact h
    have e0 : (ac.1 == 0) = false := by simpa using h0
    rw [e0, ite2_false]
    -- not Give
    have two : ac.1 ≠ 1 → ac.1 ≠ 4 → F56_j2 (some ⟨p, 0, none⟩) (some ⟨q, 0, none⟩) ac.1 false (t4 t) hp K := by
      intro _ _
      unfold F56_j2
      rw [ite2_false]
      by_cases h2 : ac.1 = 2
      · have e2 : (ac.1 == 2) = true := by simpa using h2
        rw [e2, ite2_true, cellsN_all (t4_len t), ldL_some]
        refine C50 hr hlen ?_ ?_
        · intro h0
          rw [intV_int, ldL_some]
          refine C103 hq hn (by omega) ?_ (fun h => absurd h h0)
          intro _
          rw [intV_int]
          simpa using stay
        · intro h0 e he
          rw [intV_int, ldL_some]
          obtain ⟨g1, g2⟩ := both _ e hr hq he
          obtain ⟨f1, f2⟩ := giveQ_get h0
          obtain ⟨f3, f4⟩ := mayQ_own f2
          refine C103 g1 hn (by omega) (fun h => absurd h0 h) ?_
          intro _
          refine (g2 (ho.put f1 f3 f4) (len_put_le t true held)).mono (HSub.refl _) fun hp' h => ?_
          rw [intV_int]; exact h
      have e2 : (ac.1 == 2) = false := by simpa using h2
      rw [e2, ite2_false]
      by_cases h3 : ac.1 = 3
      · have e3 : (ac.1 == 3) = true := by simpa using h3
        rw [e3, ite2_true, cellsN_all (t4_len t), ldL_some]
        refine C51 hr hlen ?_ ?_
        · intro h0
          rw [intV_int, ldL_some]
          refine C104 hq hn (by omega) ?_ (fun h => absurd h h0)
          intro _
          rw [intV_int]
          simpa using stay
        · intro h0 e he
          rw [intV_int, ldL_some]
          obtain ⟨g1, g2⟩ := both _ e hr hq he
          refine C104 g1 hn (by omega) (fun h => absurd h0 h) ?_
          intro _
          refine (g2 ho.del (by have := len_del_le t held; omega)).mono (HSub.refl _) fun hp' h => ?_
          rw [intV_int]; exact h
      have e3 : (ac.1 == 3) = false := by simpa using h3
      rw [e3, ite2_false, cellsN_all (t4_len t), ldL_some]
      refine C47 hr hlen ?_
      simp only [tup2V_mk, boolV_bool, ldL_some]
      refine C105 hq (by omega) ?_
      simp only [tup2V_mk, boolV_bool]
      rw [isQ_own ho t]
      have eb : ∀ b : Bool, (b == b) = true := by decide
      rw [eb, ite2_true, eb, ite2_true, q5, ldL_some]
      refine C48 hr hlen ?_
      rw [boolV_bool, ldL_some]
      refine C106 hq hn ?_
      rw [boolV_bool, eb]
      exact stay
    by_cases h1 : ac.1 = 1
    · have e1 : (ac.1 == 1) = true := by simpa using h1
      rw [e1, ite2_true]
      exact give t _ hr hq
    have e1 : (ac.1 == 1) = false := by simpa using h1
    rw [e1, ite2_false]
    by_cases h4 : ac.1 = 4
    · have e4 : (ac.1 == 4) = true := by simpa using h4
      rw [e4]
      exact give t _ hr hq
    · have e4 : (ac.1 == 4) = false := by simpa using h4
      rw [e4]
      exact two h1 h4
  unfold F56
  simp only [k0, k1, ldL_some, t4_len, t4_one, if_true, hz5, hsp, ldV_some, intV_int, q4]
  refine ifI (by omega) ?_
  cases e4 : (ac.1 == 4)
  · rw [ite2_false]
    exact one _ hr hq
  rw [ite2_true]
  refine C58 hq hn (by omega) hnd ho fun s2 c2 hp2 ts h02 _ _ hrow hts => ?_
  rw [slcV_slice]
  have hr2 := hr.sub h02
  have hq2 := hq.sub h02
  cases hgt : decide (((ts.length : Nat) : Int) > 0)
  · rw [ite2_false]
    exact one _ hr2 hq2
  rw [ite2_true]
  have hpos := of_decide_eq_true hgt
  refine ⟨by omega, ?_⟩
  have three : ∀ x : Int, 0 ≤ x → x < ts.length → F56_j3 (some ⟨p, 0, none⟩) (some ⟨q, 0, none⟩) s2 ts.length c2 x (act ac) (t4 ac.2.1) hp2 K := by
    intro x hx0 hx1
    obtain ⟨i, rfl⟩ := Int.eq_ofNat_of_zero_le hx0
    have hi : i < ts.length := by omega
    unfold F56_j3
    obtain ⟨b, o, hao, hc⟩ := hrow.shows.get t4_len rfl hi
    simp only [hao, ptrN_some, Int.toNat_natCast, hc, ldL_some, t4_len, t4_one, if_true, hsp]
    refine ⟨by omega, by omega, ?_⟩
    refine ifI (by omega) ?_
    exact one _ hr2 hq2
  generalize hT : ((ts.length : Nat) : Int) = T at *
  have t1 := Int.tmod_lt_of_pos ac.2.1.2 hpos
  have t2 := Int.lt_tmod_of_pos ac.2.1.2 hpos
  generalize ac.2.1.2.tmod T = r at *
  by_cases hneg : r < 0
  · rw [decide_eq_true hneg, ite2_true, w64 (by omega) (by omega)]
    exact three _ (by omega) (by omega)
  · rw [decide_eq_false hneg, ite2_false]
    exact three _ (by omega) (by omega)
end

section
variable {a0 a3 : Option Addr} {n0 c0 n3 c3 : Nat} {l : List Q} {low high : Int} {acts : List Act} {hp : HP} {K : Value → HP → Prop}

theorem C13 (hs0 : Shows hp a0 n0 4 (l.flatMap v4)) (hl : l.length = n0) (hnc : n0 ≤ c0) (hlo : -9223372036854775808 ≤ low ∧ low ≤ 9223372036854775807) (hhi : -9223372036854775808 ≤ high ∧ high ≤ 9223372036854775807)
    (hs3 : Shows hp a3 n3 7 (acts.flatMap act)) (hl3 : acts.length = n3) (h : K (.bool true) hp) :
    CF Try.prog 13 [.slice a0 n0 c0, .int .i64 low, .int .i64 high, .slice a3 n3 c3] hp K := by
  refine CF.drop (F13_ok a0 n0 c0 low high a3 n3 c3 hp _ ?_)
  unfold F13
  have hk : ∀ hp', HSub hp hp' → CF Try.prog 21 [] hp' fun u h => boolV u fun q => ∃ hp'', HSub hp'' h ∧ K (.bool q) hp'' := by
    intro hp' hs
    refine C21 ?_
    rw [boolV_bool]
    exact ⟨hp, hs, h⟩
  refine C43 fun g hg => ?_
  rw [boolV_bool]
  have tail : n3 ≤ 200 → ∀ qq, F13_j1 a0 n0 c0 low high a3 n3 c3 qq hp (fun v hp' => ∃ hp'', HL.HSub hp'' hp' ∧ K v hp'') ∨ (qq = false ∧ 10 < n0) := by
    intro h200 qq
    unfold F13_j1
    cases qq
    rotate_left
    · left
      rw [ite2_true]; exact hk hp (HSub.refl _)
    by_cases h10 : 10 < n0
    · exact .inr ⟨rfl, h10⟩
    left
    rw [ite2_false]
    refine C44 hs0 hl hnc hlo hhi ?_ ?_
    · intro hno
      simp only [tup2V_mk, ptrV_pointer, intV_int]
      refine C55 hs0 hl (by omega) hlo hhi ?_
      rw [boolV_bool, hno]
      show ite2 true (ite2 true (ite2 true _ _) _) _
      rw [ite2_true, ite2_true, ite2_true]
      exact hk hp (HSub.refl _)
    intro hok p m hp1 s1 hpn hmn hr1
    obtain ⟨hlen, hb1, hb2, hb3, hb4, hb5⟩ := newOk_bounds hok
    have hb : 0 ≤ low ∧ low ≤ 65535 ∧ 0 ≤ high ∧ high ≤ 65535 := ⟨hb1, hb2, hb3, hb4⟩
    have hnd : l.Nodup := by
      unfold newOk at hok
      simp only [Bool.and_eq_true, decide_eq_true_eq] at hok
      first | exact hok.2 | exact hok.1.2 | exact hok.1.1.2 | exact hok.1.1.1.2 | exact hok.1.1.1.1.2 | exact hok.1.1.1.1.1.2 | exact hok.1.1.1.1.1.1
    simp only [tup2V_mk, intV_int]
    have pp : ∀ c : Option Addr → Prop, ptrV (ptr p 0) c = c (some ⟨p, 0, none⟩) := fun _ => rfl
    rw [pp]
    refine C55 (hs0.sub s1) hl (by omega) hlo hhi ?_
    rw [boolV_bool, hok]
    show ite2 false _ (ite2 false _ (F13_j2 _ _ _ _ _ _ _ _ _ false _ _))
    rw [ite2_false, ite2_false]
    unfold F13_j2
    rw [ite2_false]
    intro q hq
    have sq := HSub.set_fresh hp1 (.cells 93 [.slice a0 n0 c0, .int .i64 low, .int .i64 high, .slice none 0 0] 0) hq
    have hrq : RefR hp (hp1.set q (.cells 93 [.slice a0 n0 c0, .int .i64 low, .int .i64 high, .slice none 0 0] 0)) q a0 n0 c0 l low high [] none 0 :=
      ⟨s1.trans sq, s1.none hq, hs0, hl, HP.set_eq .., .inl ⟨rfl, rfl, rfl, rfl⟩⟩
    unfold F13_j4
    refine LoopP.by (J := fun k (x : Int) hp' => ∃ (i : Nat) (held : List ((Q × Int) × Bool)) (s : Option Addr) (kk : Nat), x = i ∧ i + k = n3 ∧ PoolR hp' p l low high held m ∧ RefR hp hp' q a0 n0 c0 l low high held s kk ∧ Own l held ∧ held.length ≤ i) ?_ (n := n3) ⟨0, [], none, 0, rfl, by omega, hr1.sub sq, hrq, Own.nil l, Nat.le_refl _⟩
    clear hr1 hrq sq
    rintro I k x hp2 ⟨i, held, s, kk, rfl, hik, hr, hrq, ho, hhl⟩ hI
    unfold F13_l5
    by_cases hi : i < n3
    rotate_left
    · rw [decide_eq_false (by omega : ¬ (i : Int) < (n3 : Int)), ite2_false]
      unfold F13_j3
      exact hk hp2 hrq.1
    rw [decide_eq_true (by omega : (i : Int) < (n3 : Int)), ite2_true]
    obtain ⟨b, o, rfl, hc⟩ := (hs3.sub hrq.1).get act_len hl3 hi
    simp only [ptrN_some, Int.toNat_natCast, hc, ldL_some]
    refine ⟨by omega, by omega, ?_⟩
    refine C56 hr hrq (by omega) hmn ho (by omega) hnd hb ?_
    clear hr hrq
    intro hp3 held3 s3 kk3 hr hrq ho hl3'
    rw [boolV_bool]
    show ite2 false _ _
    rw [ite2_false]
    refine C54 hr hlen (by omega) hb ?_
    rw [intV_int]
    refine C57 hrq (by omega) (by omega) hb ?_
    rw [intV_int]
    have e1 : (freeQ l low high held3 != freeQ l low high held3) = false := by simp
    rw [e1]
    unfold F13_j7
    rw [ite2_false]
    refine C45 hr hlen (by omega) ?_
    intro s4 c4 hp4 ts s34 hperm hpw hrow _
    rw [slcV_slice]
    refine C58 (hrq.sub s34) (by omega) (by omega) hnd ho ?_
    intro s5 c5 hp5 us s45 hmem hpw' hrow' _
    rw [slcV_slice]
    have htu : ts = us := by
      refine same_order (lt := ltC (cmpT l)) ?_ ?_ (fun x => by rw [hperm.mem_iff, hmem]) ?_ hpw'
      · exact hperm.nodup_iff.2 ho.1
      · exact hpw'.imp fun {x y} h e => by subst e; rw [(swo_cmpT l).irrefl] at h; cases h
      · exact hpw.imp fun {x y} h => by
          rw [cmpT_ltf] at h ⊢; omega
    subst htu
    have htl : ts.length = held3.length := by simpa using hperm.length_eq
    rw [htl]
    have e2 : (((held3.length : Nat) : Int) != ((held3.length : Nat) : Int)) = false := by simp
    rw [e2, ite2_false]
    unfold F13_j8
    have hrow1 := hrow.sub s45
    rw [htl] at hrow'
    refine LoopP.by (J := fun k' (y : Int) hp' => hp' = hp5 ∧ ∃ j : Nat, y = j ∧ j + k' = held3.length) ?_ (n := held3.length) ⟨rfl, 0, rfl, by omega⟩
    rintro I9 k' y hp6 ⟨rfl, j, rfl, hjk⟩ hI9
    unfold F13_l9
    by_cases hj : j < held3.length
    · rw [decide_eq_true (by omega : (j : Int) < ((held3.length : Nat) : Int)), ite2_true]
      obtain ⟨b1, o1, ha1, hc1⟩ := hrow1.shows.get t4_len htl hj
      obtain ⟨b2, o2, ha2, hc2⟩ := hrow'.shows.get t4_len htl hj
      simp only [ha1, ha2, ptrN_some, Int.toNat_natCast, hc1, hc2, ldL_some]
      refine ⟨by omega, by omega, by omega, by omega, ?_⟩
      refine eq75 ?_
      have w1 : IntKind.wrap .i64 ((j : Int) + 1) = ((j + 1 : Nat) : Int) := wi (by omega) (by omega)
      rw [decide_eq_true rfl, Bool.not_true, ite2_false, w1]
      exact hI9 (k' - 1) _ _ (by omega) ⟨rfl, j + 1, rfl, by omega⟩
    · rw [decide_eq_false (by omega : ¬ (j : Int) < ((held3.length : Nat) : Int)), ite2_false]
      unfold F13_j6
      have w1 : IntKind.wrap .i64 ((i : Int) + 1) = ((i + 1 : Nat) : Int) := wi (by omega) (by omega)
      rw [w1]
      exact hI (k - 1) _ _ (by omega) ⟨i + 1, held3, s3, kk3, rfl, by omega, hr.sub (s34.trans s45), hrq.sub (s34.trans s45), ho, by omega⟩
  cases g
  · rw [ite2_false]
    rcases tail (hg rfl) (decide (((n0 : Nat) : Int) > 10)) with h' | ⟨h', h''⟩
    · exact h'
    · rw [decide_eq_true (by omega : ((n0 : Nat) : Int) > 10)] at h'; cases h'
  · rw [ite2_true]
    unfold F13_j1
    rw [ite2_true]
    exact hk hp (HSub.refl _)
end
end Go.Proofs

