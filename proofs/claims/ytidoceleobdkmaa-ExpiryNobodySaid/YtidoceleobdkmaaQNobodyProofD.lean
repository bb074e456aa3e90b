/- Parts of the proof of NobodyProof: the logic of what is known of memory, functions' contracts. -/
import Derived.Test.YtidoceleobdkmaaQNobodyProofC
import Derived.Test.YtidoceleobdkmaaHlAbb
import Derived.Test.YtidoceleobdkmaaProg
set_option linter.unusedVariables false
set_option maxRecDepth 20000
namespace Go.Proofs
open Go Go.HL
-- 28 interpreter/interpreterlaw20.wakes
theorem F28_r0 (e : Env) (hp : HP) (K : Env → PV → HP → Prop) : RW Try.prog 39 [] (opsAt Try.f28 [0]) (List.range 1) e V0 hp K =
    (K (upd e 0 (sB (false))) V0 hp) := by kernel_rfl
theorem F28_r1 (e : Env) (hp : HP) (K : Env → PV → HP → Prop) : RW Try.prog 39 [] (opsAt Try.f28 [1, 0]) (List.range 2) e V0 hp K =
    (CF Try.prog 29 [] hp fun u1 h2 => (ptrV u1 fun p3 => (K (upd (upd e 5 (sV (Value.pointer p3))) 1 (sV (Value.pointer p3))) V0 h2))) := by kernel_rfl
theorem F28_r2 (e : Env) (x1 : Option Addr) (hp : HP) (K : Env → PV → HP → Prop) : RW Try.prog 39 [] (opsAt Try.f28 [1, 1, 0]) (List.range 2) (upd e 1 (sV (Value.pointer x1))) V0 hp K =
    (CF Try.prog 30 [(Value.pointer x1), (Value.int .i64 7), (Value.int .i64 5)] hp fun u1 h2 => (intV u1 .i64 fun i3 => (K (upd (upd (upd e 1 (sV (Value.pointer x1))) 6 (sV (Value.pointer x1))) 7 (sI (i3))) V0 h2))) := by kernel_rfl
theorem F28_r3 (e : Env) (x1 : Option Addr) (hp : HP) (K : Env → PV → HP → Prop) : RW Try.prog 39 [] (opsAt Try.f28 [1, 1, 1, 0]) (List.range 2) (upd e 1 (sV (Value.pointer x1))) V0 hp K =
    (CF Try.prog 30 [(Value.pointer x1), (Value.int .i64 3), (Value.int .i64 5)] hp fun u1 h2 => (intV u1 .i64 fun i3 => (K (upd (upd (upd e 1 (sV (Value.pointer x1))) 8 (sV (Value.pointer x1))) 9 (sI (i3))) V0 h2))) := by kernel_rfl
theorem F28_r4 (e : Env) (x1 : Option Addr) (hp : HP) (K : Env → PV → HP → Prop) : RW Try.prog 39 [] (opsAt Try.f28 [1, 1, 1, 1, 0]) (List.range 2) (upd e 1 (sV (Value.pointer x1))) V0 hp K =
    (CF Try.prog 30 [(Value.pointer x1), (Value.int .i64 9), (Value.int .i64 2)] hp fun u1 h2 => (intV u1 .i64 fun i3 => (K (upd (upd (upd e 1 (sV (Value.pointer x1))) 10 (sV (Value.pointer x1))) 11 (sI (i3))) V0 h2))) := by kernel_rfl
theorem F28_r5 (e : Env) (x1 : Option Addr) (hp : HP) (K : Env → PV → HP → Prop) : RW Try.prog 39 [] (opsAt Try.f28 [1, 1, 1, 1, 1, 0]) (List.range 9) (upd e 1 (sV (Value.pointer x1))) V0 hp K =
    (CF Try.prog 42 [(Value.pointer x1)] hp fun u1 h2 => (tup3V u1 fun u3 u4 u5 => (intV u3 .i64 fun i6 => (intV u4 .i64 fun i7 => (boolV u5 fun q8 => (K (upd (upd (upd (upd (upd (upd (upd (upd (upd (upd e 1 (sV (Value.pointer x1))) 13 (sV (Value.pointer x1))) 14 (sV (Value.tuple ⟨[(Value.int .i64 i6), (Value.int .i64 i7), (Value.bool q8)]⟩))) 12 (sV (Value.tuple ⟨[(Value.int .i64 i6), (Value.int .i64 i7), (Value.bool q8)]⟩))) 15 (sI (i6))) 16 (sI (i7))) 17 (sB (q8))) 2 (sI (i6))) 3 (sI (i7))) 4 (sB (q8))) V0 h2)))))) := by kernel_rfl
theorem F28_r6 (e : Env) (x1 : Option Addr) (x2 : Int) (x3 : Int) (x4 : Bool) (hp : HP) (K : Env → PV → HP → Prop) : RW Try.prog 39 [] (opsAt Try.f28 [1, 1, 1, 1, 1, 1, 0]) (List.range 22) (upd (upd (upd (upd e 4 (sB (x4))) 3 (sI (x3))) 2 (sI (x2))) 1 (sV (Value.pointer x1))) V0 hp K =
    (ite2 ((x2 : Int) == 9) (ite2 ((x3 : Int) == 2) (ite2 x4 (CF Try.prog 31 [(Value.pointer x1), (Value.int .i64 4)] hp fun u1 h2 => (slcV u1 fun a3 n4 c5 => (∀ b6 : Nat, h2 b6 = .none → (CF Try.prog 32 [(Value.slice a3 n4 c5), (Value.slice (some ⟨b6, 0, none⟩) 1 1)] (HP.set h2 b6 (.cells 3 [(Value.int .i64 9)] 0)) fun u7 h8 => (boolV u7 fun q9 => (ite2 q9 (CF Try.prog 33 [(Value.pointer x1)] h8 fun u10 h11 => (slcV u10 fun a12 n13 c14 => (∀ b15 : Nat, h11 b15 = .none → (CF Try.prog 32 [(Value.slice a12 n13 c14), (Value.slice (some ⟨b15, 0, none⟩) 2 2)] (HP.set h11 b15 (.cells 3 [(Value.int .i64 3), (Value.int .i64 7)] 0)) fun u16 h17 => (boolV u16 fun q18 => (K (upd (upd (upd (upd (upd (upd (upd (upd (upd (upd (upd (upd (upd (upd (upd (upd (upd (upd (upd (upd (upd (upd (upd (upd (upd (upd e 4 (sB (x4))) 3 (sI (x3))) 2 (sI (x2))) 1 (sV (Value.pointer x1))) 18 (sI (x2))) 19 (sB (((x2 : Int) == 9)))) 20 (sB (true))) 21 (sI (x3))) 22 (sB (((x3 : Int) == 2)))) 23 (sB (((x3 : Int) == 2)))) 24 (sB (true))) 25 (sB (x4))) 26 (sB (x4))) 27 (sB (true))) 28 (sV (Value.pointer x1))) 29 (sV (Value.slice a3 n4 c5))) 30 (sV (Value.slice (some ⟨b6, 0, none⟩) 1 1))) 31 (sB (q9))) 32 (sB (q9))) 33 (sB (true))) 34 (sV (Value.pointer x1))) 35 (sV (Value.slice a12 n13 c14))) 36 (sV (Value.slice (some ⟨b15, 0, none⟩) 2 2))) 37 (sB (q18))) 38 (sB (q18))) 0 (sB (q18))) V0 h17)))))) (K (upd (upd (upd (upd (upd (upd (upd (upd (upd (upd (upd (upd (upd (upd (upd (upd (upd (upd (upd (upd (upd (upd (upd (upd (upd (upd e 4 (sB (x4))) 3 (sI (x3))) 2 (sI (x2))) 1 (sV (Value.pointer x1))) 18 (sI (x2))) 19 (sB (((x2 : Int) == 9)))) 20 (sB (true))) 21 (sI (x3))) 22 (sB (((x3 : Int) == 2)))) 23 (sB (((x3 : Int) == 2)))) 24 (sB (true))) 25 (sB (x4))) 26 (sB (x4))) 27 (sB (true))) 28 (sV (Value.pointer x1))) 29 (sV (Value.slice a3 n4 c5))) 30 (sV (Value.slice (some ⟨b6, 0, none⟩) 1 1))) 31 (sB (q9))) 32 (sB (q9))) 33 (sB (false))) 34 (sV undef)) 35 (sV undef)) 36 (sV undef)) 37 (sV undef)) 38 (sB (false))) 0 (sB (false))) V0 h8))))))) (K (upd (upd (upd (upd (upd (upd (upd (upd (upd (upd (upd (upd (upd (upd (upd (upd (upd (upd (upd (upd (upd (upd (upd (upd (upd (upd e 4 (sB (x4))) 3 (sI (x3))) 2 (sI (x2))) 1 (sV (Value.pointer x1))) 18 (sI (x2))) 19 (sB (((x2 : Int) == 9)))) 20 (sB (true))) 21 (sI (x3))) 22 (sB (((x3 : Int) == 2)))) 23 (sB (((x3 : Int) == 2)))) 24 (sB (true))) 25 (sB (x4))) 26 (sB (x4))) 27 (sB (false))) 28 (sV undef)) 29 (sV undef)) 30 (sV undef)) 31 (sV undef)) 32 (sB (false))) 33 (sB (false))) 34 (sV undef)) 35 (sV undef)) 36 (sV undef)) 37 (sV undef)) 38 (sB (false))) 0 (sB (false))) V0 hp)) (K (upd (upd (upd (upd (upd (upd (upd (upd (upd (upd (upd (upd (upd (upd (upd (upd (upd (upd (upd (upd (upd (upd (upd (upd (upd (upd e 4 (sB (x4))) 3 (sI (x3))) 2 (sI (x2))) 1 (sV (Value.pointer x1))) 18 (sI (x2))) 19 (sB (((x2 : Int) == 9)))) 20 (sB (true))) 21 (sI (x3))) 22 (sB (((x3 : Int) == 2)))) 23 (sB (((x3 : Int) == 2)))) 24 (sB (false))) 25 (sV undef)) 26 (sB (false))) 27 (sB (false))) 28 (sV undef)) 29 (sV undef)) 30 (sV undef)) 31 (sV undef)) 32 (sB (false))) 33 (sB (false))) 34 (sV undef)) 35 (sV undef)) 36 (sV undef)) 37 (sV undef)) 38 (sB (false))) 0 (sB (false))) V0 hp)) (K (upd (upd (upd (upd (upd (upd (upd (upd (upd (upd (upd (upd (upd (upd (upd (upd (upd (upd (upd (upd (upd (upd (upd (upd (upd (upd e 4 (sB (x4))) 3 (sI (x3))) 2 (sI (x2))) 1 (sV (Value.pointer x1))) 18 (sI (x2))) 19 (sB (((x2 : Int) == 9)))) 20 (sB (false))) 21 (sV undef)) 22 (sV undef)) 23 (sB (false))) 24 (sB (false))) 25 (sV undef)) 26 (sB (false))) 27 (sB (false))) 28 (sV undef)) 29 (sV undef)) 30 (sV undef)) 31 (sV undef)) 32 (sB (false))) 33 (sB (false))) 34 (sV undef)) 35 (sV undef)) 36 (sV undef)) 37 (sV undef)) 38 (sB (false))) 0 (sB (false))) V0 hp)) := by kernel_rfl
def F28 (hp : HP) (K : Value → HP → Prop) : Prop :=
  (CF Try.prog 29 [] hp fun u_1 h_2 => (ptrV u_1 fun p_3 => (CF Try.prog 30 [(Value.pointer p_3), (Value.int .i64 7), (Value.int .i64 5)] h_2 fun u_4 h_5 => (intV u_4 .i64 fun i_6 => (CF Try.prog 30 [(Value.pointer p_3), (Value.int .i64 3), (Value.int .i64 5)] h_5 fun u_7 h_8 => (intV u_7 .i64 fun i_9 => (CF Try.prog 30 [(Value.pointer p_3), (Value.int .i64 9), (Value.int .i64 2)] h_8 fun u_10 h_11 => (intV u_10 .i64 fun i_12 => (CF Try.prog 42 [(Value.pointer p_3)] h_11 fun u_13 h_14 => (tup3V u_13 fun u_15 u_16 u_17 => (intV u_15 .i64 fun i_18 => (intV u_16 .i64 fun i_19 => (boolV u_17 fun q_20 => (ite2 ((i_18 : Int) == 9) (ite2 ((i_19 : Int) == 2) (ite2 q_20 (CF Try.prog 31 [(Value.pointer p_3), (Value.int .i64 4)] h_14 fun u_21 h_22 => (slcV u_21 fun a_23 n_24 c_25 => (∀ b_26 : Nat, h_22 b_26 = .none → (CF Try.prog 32 [(Value.slice a_23 n_24 c_25), (Value.slice (some ⟨b_26, 0, none⟩) 1 1)] (HP.set h_22 b_26 (.cells 3 [(Value.int .i64 9)] 0)) fun u_27 h_28 => (boolV u_27 fun q_29 => (ite2 q_29 (CF Try.prog 33 [(Value.pointer p_3)] h_28 fun u_30 h_31 => (slcV u_30 fun a_32 n_33 c_34 => (∀ b_35 : Nat, h_31 b_35 = .none → (CF Try.prog 32 [(Value.slice a_32 n_33 c_34), (Value.slice (some ⟨b_35, 0, none⟩) 2 2)] (HP.set h_31 b_35 (.cells 3 [(Value.int .i64 3), (Value.int .i64 7)] 0)) fun u_36 h_37 => (boolV u_36 fun q_38 => (K (Value.bool q_38) h_37)))))) (K (Value.bool false) h_28))))))) (K (Value.bool false) h_14)) (K (Value.bool false) h_14)) (K (Value.bool false) h_14)))))))))))))))
noncomputable def F28_code : Code := (.seq (.region 0 (opsAt Try.f28 [0]) false) (.seq (.region 1 (opsAt Try.f28 [1, 0]) false) (.seq (.region 2 (opsAt Try.f28 [1, 1, 0]) false) (.seq (.region 3 (opsAt Try.f28 [1, 1, 1, 0]) false) (.seq (.region 4 (opsAt Try.f28 [1, 1, 1, 1, 0]) false) (.seq (.region 5 (opsAt Try.f28 [1, 1, 1, 1, 1, 0]) false) (.seq (.region 6 (opsAt Try.f28 [1, 1, 1, 1, 1, 1, 0]) false) .ret)))))))
theorem F28_body : Try.f28.body = some F28_code := by kernel_rfl
theorem F28_ok (hp : HP) (K : Value → HP → Prop) (h : F28  hp K) : CF Try.prog 28 [] hp K := by
 refine .inl ⟨by kernel_rfl, AC.intro (N := 39) Try.func28 F28_body rfl (Nat.le_of_ble_eq_true rfl) ?_⟩
 unfold F28 at h
 unfold F28_code
 refine AWP.seq' ?_
 refine AWP.rgn (F28_r0 E0  hp _) ?_ (Rn) (Sn) (Sn)
 refine AWP.seq' ?_
 refine AWP.rgn (F28_r1 E0  hp _) ?_ (Rn) (Sn) (Sn)
 refine CF_mono h (fun u_1 h_2 h => ?_)
 refine ptrV_mono h (fun p_3 h => ?_)
 refine AWP.seq' ?_
 refine AWP.rgn (F28_r2 E0 p_3 h_2 _) ?_ (Rv 1 _ (Rn)) (Sc rfl (Sn)) (Sn)
 refine CF_mono h (fun u_4 h_5 h => ?_)
 refine intV_mono h (fun i_6 h => ?_)
 refine AWP.seq' ?_
 refine AWP.rgn (F28_r3 E0 p_3 h_5 _) ?_ (Rv 1 _ (Rn)) (Sc rfl (Sn)) (Sn)
 refine CF_mono h (fun u_7 h_8 h => ?_)
 refine intV_mono h (fun i_9 h => ?_)
 refine AWP.seq' ?_
 refine AWP.rgn (F28_r4 E0 p_3 h_8 _) ?_ (Rv 1 _ (Rn)) (Sc rfl (Sn)) (Sn)
 refine CF_mono h (fun u_10 h_11 h => ?_)
 refine intV_mono h (fun i_12 h => ?_)
 refine AWP.seq' ?_
 refine AWP.rgn (F28_r5 E0 p_3 h_11 _) ?_ (Rv 1 _ (Rn)) (Sc rfl (Sn)) (Sn)
 refine CF_mono h (fun u_13 h_14 h => ?_)
 refine tup3V_mono h (fun u_15 u_16 u_17 h => ?_)
 refine intV_mono h (fun i_18 h => ?_)
 refine intV_mono h (fun i_19 h => ?_)
 refine boolV_mono h (fun q_20 h => ?_)
 refine AWP.seq' ?_
 refine AWP.rgn (F28_r6 E0 p_3 i_18 i_19 q_20 h_14 _) ?_ (Rv 1 _ (Rv 2 _ (Rv 3 _ (Rv 4 _ (Rn))))) (Sc rfl (Sc rfl (Sc rfl (Sc rfl (Sn))))) (Sn)
 refine ite2_mono h (fun h => ?_) (fun h => ?_)
 ·refine ite2_mono h (fun h => ?_) (fun h => ?_)
  ·refine ite2_mono h (fun h => ?_) (fun h => ?_)
   ·refine CF_mono h (fun u_21 h_22 h => ?_)
    refine slcV_mono h (fun a_23 n_24 c_25 h => ?_)
    refine fun b_26 hb_b_26 => ?_
    replace h := h b_26 hb_b_26
    refine CF_mono h (fun u_27 h_28 h => ?_)
    refine boolV_mono h (fun q_29 h => ?_)
    refine ite2_mono h (fun h => ?_) (fun h => ?_)
    ·refine CF_mono h (fun u_30 h_31 h => ?_)
     refine slcV_mono h (fun a_32 n_33 c_34 h => ?_)
     refine fun b_35 hb_b_35 => ?_
     replace h := h b_35 hb_b_35
     refine CF_mono h (fun u_36 h_37 h => ?_)
     refine boolV_mono h (fun q_38 h => ?_)
     refine AWP.ret ?_
     exact h
    ·refine AWP.ret ?_
     exact h
   ·refine AWP.ret ?_
    exact h
  ·refine AWP.ret ?_
   exact h
 ·refine AWP.ret ?_
  exact h
-- 32 interpreter/interpreterlaw20.sameInts
theorem F32_r0 (e : Env) (hp : HP) (K : Env → PV → HP → Prop) : RW Try.prog 26 [] (opsAt Try.f32 [0]) (List.range 1) e V0 hp K =
    (K (upd e 4 (sB (false))) V0 hp) := by kernel_rfl
theorem F32_r1 (e : Env) (x0a : Option Addr) (x0n : Nat) (x0c : Nat) (x1a : Option Addr) (x1n : Nat) (x1c : Nat) (hp : HP) (K : Env → PV → HP → Prop) : RW Try.prog 26 [] (opsAt Try.f32 [1, 0, 0]) (List.range 5) (upd (upd e 1 (sV (Value.slice x1a x1n x1c))) 0 (sV (Value.slice x0a x0n x0c))) V0 hp K =
    (K (upd (upd (upd (upd (upd (upd (upd e 1 (sV (Value.slice x1a x1n x1c))) 0 (sV (Value.slice x0a x0n x0c))) 6 (sV (Value.slice x0a x0n x0c))) 7 (sI ((x0n : Nat)))) 8 (sV (Value.slice x1a x1n x1c))) 9 (sI ((x1n : Nat)))) 10 (sB ((((x0n : Nat) : Int) != (x1n : Nat))))) V0 hp) := by kernel_rfl
theorem F32_r2 (e : Env) (hp : HP) (K : Env → PV → HP → Prop) : RW Try.prog 26 [] (opsAt Try.f32 [1, 0, 1, 0, 0]) (List.range 1) e V0 hp K =
    (K (upd e 4 (sB (false))) V0 hp) := by kernel_rfl
theorem F32_r3 (e : Env) (x0a : Option Addr) (x0n : Nat) (x0c : Nat) (x5 : Int) (hp : HP) (K : Env → PV → HP → Prop) : RW Try.prog 26 [] (opsAt Try.f32 [1, 1, 0, 1, 0, 0, 0, 0]) (List.range 4) (upd (upd e 5 (sI (x5))) 0 (sV (Value.slice x0a x0n x0c))) V0 hp K =
    (K (upd (upd (upd (upd (upd (upd e 5 (sI (x5))) 0 (sV (Value.slice x0a x0n x0c))) 11 (sI (x5))) 12 (sV (Value.slice x0a x0n x0c))) 13 (sI ((x0n : Nat)))) 14 (sB ((decide ((x5 : Int) < (x0n : Nat)))))) V0 hp) := by kernel_rfl
theorem F32_r4 (e : Env) (x0a : Option Addr) (x0n : Nat) (x0c : Nat) (x1a : Option Addr) (x1n : Nat) (x1c : Nat) (x5 : Int) (hp : HP) (K : Env → PV → HP → Prop) : RW Try.prog 26 [] (opsAt Try.f32 [1, 1, 0, 1, 0, 0, 1, 0, 0, 0]) (List.range 9) (upd (upd (upd e 5 (sI (x5))) 1 (sV (Value.slice x1a x1n x1c))) 0 (sV (Value.slice x0a x0n x0c))) V0 hp K =
    ((0 ≤ (x5 : Int)) ∧ ((x5 : Int) < (x0n : Nat)) ∧ (ptrN x0a fun b1 o2 => (ldV (HP.cell hp b1 (o2 + Int.toNat x5 * 1)) fun v3 => (intV v3 .i64 fun i4 => ((0 ≤ (x5 : Int)) ∧ ((x5 : Int) < (x1n : Nat)) ∧ (ptrN x1a fun b5 o6 => (ldV (HP.cell hp b5 (o6 + Int.toNat x5 * 1)) fun v7 => (intV v7 .i64 fun i8 => (K (upd (upd (upd (upd (upd (upd (upd (upd (upd (upd (upd (upd e 5 (sI (x5))) 1 (sV (Value.slice x1a x1n x1c))) 0 (sV (Value.slice x0a x0n x0c))) 17 (sV (Value.slice x0a x0n x0c))) 18 (sI (x5))) 19 (sV (ptr b1 (o2 + Int.toNat x5 * 1)))) 20 (sI (i4))) 21 (sV (Value.slice x1a x1n x1c))) 22 (sI (x5))) 23 (sV (ptr b5 (o6 + Int.toNat x5 * 1)))) 24 (sI (i8))) 25 (sB (((i4 : Int) != i8)))) V0 hp))))))))) := by kernel_rfl
theorem F32_r5 (e : Env) (hp : HP) (K : Env → PV → HP → Prop) : RW Try.prog 26 [] (opsAt Try.f32 [1, 1, 0, 1, 0, 0, 1, 0, 0, 1, 0, 0]) (List.range 1) e V0 hp K =
    (K (upd e 4 (sB (false))) V0 hp) := by kernel_rfl
theorem F32_r6 (e : Env) (x5 : Int) (hp : HP) (K : Env → PV → HP → Prop) : RW Try.prog 26 [] (opsAt Try.f32 [1, 1, 0, 1, 0, 0, 1, 1]) (List.range 3) (upd e 5 (sI (x5))) V0 hp K =
    (K (upd (upd (upd (upd e 5 (sI (x5))) 15 (sI (x5))) 16 (sI ((IntKind.wrap .i64 (x5 + 1))))) 5 (sI ((IntKind.wrap .i64 (x5 + 1))))) V0 hp) := by kernel_rfl
theorem F32_r7 (e : Env) (hp : HP) (K : Env → PV → HP → Prop) : RW Try.prog 26 [] (opsAt Try.f32 [1, 1, 1, 0]) (List.range 1) e V0 hp K =
    (K (upd e 4 (sB (true))) V0 hp) := by kernel_rfl
def F32_l2 (x0a : Option Addr) (x0n : Nat) (x0c : Nat) (x1a : Option Addr) (x1n : Nat) (x1c : Nat) (K : Value → HP → Prop) (I2 : (Int) → HP → Prop) (x5 : Int) (hp : HP) : Prop :=
  (ite2 (decide ((x5 : Int) < (x0n : Nat))) ((0 ≤ (x5 : Int)) ∧ ((x5 : Int) < (x0n : Nat)) ∧ (ptrN x0a fun b_1 o_2 => (ldV (HP.cell hp b_1 (o_2 + Int.toNat x5 * 1)) fun v_3 => (intV v_3 .i64 fun i_4 => ((0 ≤ (x5 : Int)) ∧ ((x5 : Int) < (x1n : Nat)) ∧ (ptrN x1a fun b_5 o_6 => (ldV (HP.cell hp b_5 (o_6 + Int.toNat x5 * 1)) fun v_7 => (intV v_7 .i64 fun i_8 => (ite2 ((i_4 : Int) != i_8) (K (Value.bool false) hp) (I2 (IntKind.wrap .i64 (x5 + 1)) hp)))))))))) (K (Value.bool true) hp))
def F32_j1 (x0a : Option Addr) (x0n : Nat) (x0c : Nat) (x1a : Option Addr) (x1n : Nat) (x1c : Nat) (x5 : Int) (hp : HP) (K : Value → HP → Prop) : Prop :=
  (LoopP (σ := Int) (fun I s hp => F32_l2 x0a x0n x0c x1a x1n x1c  K I s hp) x5 hp)
theorem F32_r8 (e : Env) (hp : HP) (K : Env → PV → HP → Prop) : RW Try.prog 26 [] (opsAt Try.f32 [1, 1, 0, 0]) (List.range 1) e V0 hp K =
    (K (upd e 5 (sI (0))) V0 hp) := by kernel_rfl
def F32 (x0a : Option Addr) (x0n : Nat) (x0c : Nat) (x1a : Option Addr) (x1n : Nat) (x1c : Nat) (hp : HP) (K : Value → HP → Prop) : Prop :=
  (ite2 (((x0n : Nat) : Int) != (x1n : Nat)) (K (Value.bool false) hp) (F32_j1 x0a x0n x0c x1a x1n x1c 0 hp  K))
noncomputable def F32_code : Code := (.seq (.region 0 (opsAt Try.f32 [0]) false) (.seq (.seq (.region 1 (opsAt Try.f32 [1, 0, 0]) false) (.cond (.tmp 10) (.seq (.region 2 (opsAt Try.f32 [1, 0, 1, 0, 0]) false) .ret) .skip)) (.seq (.seq (.region 3 (opsAt Try.f32 [1, 1, 0, 0]) false) (.block 0 (.loop (.seq (.seq (.region 4 (opsAt Try.f32 [1, 1, 0, 1, 0, 0, 0, 0]) false) (.cond (.tmp 14) .skip (.exit 0))) (.seq (.block 1 (.seq (.region 6 (opsAt Try.f32 [1, 1, 0, 1, 0, 0, 1, 0, 0, 0]) true) (.cond (.tmp 25) (.seq (.region 7 (opsAt Try.f32 [1, 1, 0, 1, 0, 0, 1, 0, 0, 1, 0, 0]) false) .ret) .skip))) (.region 5 (opsAt Try.f32 [1, 1, 0, 1, 0, 0, 1, 1]) false)))))) (.seq (.region 8 (opsAt Try.f32 [1, 1, 1, 0]) false) .ret))))
theorem F32_body : Try.f32.body = some F32_code := by kernel_rfl
theorem F32_ok (x0a : Option Addr) (x0n : Nat) (x0c : Nat) (x1a : Option Addr) (x1n : Nat) (x1c : Nat) (hp : HP) (K : Value → HP → Prop) (h : F32 x0a x0n x0c x1a x1n x1c hp K) : CF Try.prog 32 [(Value.slice x0a x0n x0c), (Value.slice x1a x1n x1c)] hp K := by
 refine .inl ⟨by kernel_rfl, AC.intro (N := 26) Try.func32 F32_body rfl (Nat.le_of_ble_eq_true rfl) ?_⟩
 unfold F32 at h
 unfold F32_code
 refine AWP.seq' ?_
 refine AWP.rgn (F32_r0 (upd (upd E0 1 (sV (Value.slice x1a x1n x1c))) 0 (sV (Value.slice x0a x0n x0c)))  hp _) ?_ (Rv 0 _ (Rv 1 _ (Rn))) (Sc rfl (Sc rfl (Sn))) (Sn)
 refine AWP.seq' ?_
 refine AWP.seq' ?_
 refine AWP.rgn (F32_r1 E0 x0a x0n x0c x1a x1n x1c hp _) ?_ (Rv 0 _ (Rv 1 _ (Rn))) (Sc rfl (Sc rfl (Sn))) (Sn)
 refine AWP.cond (t := (((x0n : Nat) : Int) != (x1n : Nat))) rfl (fun e => ?_) (fun e => ?_)
 ·replace h := ite2_t h e
  refine AWP.seq' ?_
  refine AWP.rgn (F32_r2 E0  hp _) ?_ (Rn) (Sn) (Sn)
  refine AWP.ret ?_
  exact h
 ·replace h := ite2_f h e
  refine AWP.skip ?_
  refine AWP.seq' ?_
  refine AWP.seq (fun env pv hp => ∃ (x0a : Option Addr) (x0n : Nat) (x0c : Nat) (x1a : Option Addr) (x1n : Nat) (x1c : Nat) (x5 : Int), Sub (upd (upd (upd E0 5 (sI (x5))) 1 (sV (Value.slice x1a x1n x1c))) 0 (sV (Value.slice x0a x0n x0c))) env ∧ Sub V0 pv ∧ (F32_j1 x0a x0n x0c x1a x1n x1c x5 hp  K)) ?_ ?_
  ·refine AWP.rgn (F32_r8 (upd (upd E0 1 (sV (Value.slice x1a x1n x1c))) 0 (sV (Value.slice x0a x0n x0c)))  hp _) ?_ (Rv 0 _ (Rv 1 _ (Rn))) (Sc rfl (Sc rfl (Sn))) (Sn)
   exact ⟨x0a, x0n, x0c, x1a, x1n, x1c, 0, (Sc rfl (Sc rfl (Sc rfl (Sn)))), (Sn), h⟩
  ·rintro env pv hp ⟨x0a, x0n, x0c, x1a, x1n, x1c, x5, he, hv, h⟩
   refine AWP.sub (env' := (upd (upd (upd E0 5 (sI (x5))) 1 (sV (Value.slice x1a x1n x1c))) 0 (sV (Value.slice x0a x0n x0c)))) (pv' := V0) ?_ (Rv 0 _ (Rv 1 _ (Rv 5 _ (Rn)))) he hv (HSub.refl _)
   clear he hv
   unfold F32_j1 at h
   refine AWP.block ?_
   refine AWP.loop (σ := Int) (fun I s hp => F32_l2 x0a x0n x0c x1a x1n x1c  K I s hp) (fun s => (upd (upd (upd E0 5 (sI (s))) 1 (sV (Value.slice x1a x1n x1c))) 0 (sV (Value.slice x0a x0n x0c)))) (fun s => V0) x5 h (fun s => (Rv 0 _ (Rv 1 _ (Rv 5 _ (Rn))))) (Sc rfl (Sc rfl (Sc rfl (Sn)))) (Sn) ?_
   intro I2 s hp h
   obtain ⟨x5, hs⟩ : ∃ x, x = s := ⟨s, rfl⟩
   subst hs
   replace h : F32_l2 x0a x0n x0c x1a x1n x1c  K I2 x5 hp := h
   unfold F32_l2 at h
   refine AWP.seq' ?_
   refine AWP.seq' ?_
   refine AWP.rgn (F32_r3 (upd E0 1 (sV (Value.slice x1a x1n x1c))) x0a x0n x0c x5 hp _) ?_ (Rv 0 _ (Rv 5 _ (Rv 1 _ (Rn)))) (Sc rfl (Sc rfl (Sc rfl (Sn)))) (Sn)
   refine AWP.cond (t := (decide ((x5 : Int) < (x0n : Nat)))) rfl (fun e => ?_) (fun e => ?_)
   ·replace h := ite2_t h e
    refine AWP.skip ?_
    refine AWP.seq' ?_
    refine AWP.block ?_
    refine AWP.seq' ?_
    refine AWP.rgnD (by kernel_rfl) (by kernel_rfl) (F32_r4 E0 x0a x0n x0c x1a x1n x1c x5 hp _) ?_ (Rv 0 _ (Rv 1 _ (Rv 5 _ (Rn)))) (Sc rfl (Sc rfl (Sc rfl (Sn)))) (Sn)
    refine ⟨h.1, h.2.1, ?_⟩
    replace h := h.2.2
    refine ptrN_mono h (fun b_1 o_2 h => ?_)
    refine ldV_mono h (fun v_3 h => ?_)
    refine intV_mono h (fun i_4 h => ?_)
    refine ⟨h.1, h.2.1, ?_⟩
    replace h := h.2.2
    refine ptrN_mono h (fun b_5 o_6 h => ?_)
    refine ldV_mono h (fun v_7 h => ?_)
    refine intV_mono h (fun i_8 h => ?_)
    refine AWP.cond (t := ((i_4 : Int) != i_8)) rfl (fun e => ?_) (fun e => ?_)
    ·replace h := ite2_t h e
     refine AWP.seq' ?_
     refine AWP.rgn (F32_r5 E0  hp _) ?_ (Rn) (Sn) (Sn)
     refine AWP.ret ?_
     exact h
    ·replace h := ite2_f h e
     refine AWP.skip ?_
     refine AWP.rgn (F32_r6 (upd (upd E0 1 (sV (Value.slice x1a x1n x1c))) 0 (sV (Value.slice x0a x0n x0c))) x5 hp _) ?_ (Rv 5 _ (Rv 0 _ (Rv 1 _ (Rn)))) (Sc rfl (Sc rfl (Sc rfl (Sn)))) (Sn)
     exact ⟨(IntKind.wrap .i64 (x5 + 1)), (Sc rfl (Sc rfl (Sc rfl (Sn)))), (Sn), h⟩
   ·replace h := ite2_f h e
    refine AWP.exit ?_
    refine AWP.seq' ?_
    refine AWP.rgn (F32_r7 E0  hp _) ?_ (Rn) (Sn) (Sn)
    refine AWP.ret ?_
    exact h
-- 8 interpreter/interpreterlaw20.ExpiryNobody
theorem F8_r0 (e : Env) (hp : HP) (K : Env → PV → HP → Prop) : RW Try.prog 75 [] (opsAt Try.f8 [0]) (List.range 1) e V0 hp K =
    (K (upd e 4 (sB (false))) V0 hp) := by kernel_rfl
theorem F8_r1 (e : Env) (hp : HP) (K : Env → PV → HP → Prop) : RW Try.prog 75 [] (opsAt Try.f8 [1, 0]) (List.range 1) e V0 hp K =
    (K (upd e 5 (sV (Value.pointer none))) V0 hp) := by kernel_rfl
theorem F8_r2 (e : Env) (x0 : Int) (x5 : Option Addr) (hp : HP) (K : Env → PV → HP → Prop) : RW Try.prog 75 [] (opsAt Try.f8 [1, 1, 0]) (List.range 8) (upd (upd e 5 (sV (Value.pointer x5))) 0 (sI (x0))) V0 hp K =
    (CF Try.prog 38 [(Value.pointer x5), (Value.int .i64 x0)] hp fun u1 h2 => (tup2V u1 fun u3 u4 => (intV u3 .i64 fun i5 => (boolV u4 fun q6 => (K (upd (upd (upd (upd (upd (upd (upd (upd (upd (upd e 5 (sV (Value.pointer x5))) 0 (sI (x0))) 12 (sV (Value.pointer x5))) 13 (sI (x0))) 14 (sV (Value.tuple ⟨[(Value.int .i64 i5), (Value.bool q6)]⟩))) 11 (sV (Value.tuple ⟨[(Value.int .i64 i5), (Value.bool q6)]⟩))) 15 (sI (i5))) 16 (sB (q6))) 6 (sI (i5))) 7 (sB (q6))) V0 h2))))) := by kernel_rfl
theorem F8_r3 (e : Env) (x5 : Option Addr) (hp : HP) (K : Env → PV → HP → Prop) : RW Try.prog 75 [] (opsAt Try.f8 [1, 1, 1, 0]) (List.range 9) (upd e 5 (sV (Value.pointer x5))) V0 hp K =
    (CF Try.prog 42 [(Value.pointer x5)] hp fun u1 h2 => (tup3V u1 fun u3 u4 u5 => (intV u3 .i64 fun i6 => (intV u4 .i64 fun i7 => (boolV u5 fun q8 => (K (upd (upd (upd (upd (upd (upd (upd (upd (upd (upd e 5 (sV (Value.pointer x5))) 18 (sV (Value.pointer x5))) 19 (sV (Value.tuple ⟨[(Value.int .i64 i6), (Value.int .i64 i7), (Value.bool q8)]⟩))) 17 (sV (Value.tuple ⟨[(Value.int .i64 i6), (Value.int .i64 i7), (Value.bool q8)]⟩))) 20 (sI (i6))) 21 (sI (i7))) 22 (sB (q8))) 8 (sI (i6))) 9 (sI (i7))) 10 (sB (q8))) V0 h2)))))) := by kernel_rfl
theorem F8_r4 (e : Env) (x0 : Int) (x1 : Int) (x5 : Option Addr) (x6 : Int) (x7 : Bool) (x8 : Int) (x9 : Int) (x10 : Bool) (hp : HP) (K : Env → PV → HP → Prop) : RW Try.prog 75 [] (opsAt Try.f8 [1, 1, 1, 1, 0]) (List.range 53) (upd (upd (upd (upd (upd (upd (upd (upd e 10 (sB (x10))) 9 (sI (x9))) 8 (sI (x8))) 7 (sB (x7))) 6 (sI (x6))) 5 (sV (Value.pointer x5))) 1 (sI (x1))) 0 (sI (x0))) V0 hp K =
    (CF Try.prog 30 [(Value.pointer x5), (Value.int .i64 x0), (Value.int .i64 x1)] hp fun u1 h2 => (intV u1 .i64 fun i3 => (ite2 ((i3 : Int) == 2) (CF Try.prog 34 [(Value.pointer x5), (Value.int .i64 x0)] h2 fun u4 h5 => (boolV u4 fun q6 => (ite2 (!q6) (ite2 ((x6 : Int) == 0) (ite2 (!x7) (ite2 ((x8 : Int) == 0) (ite2 ((x9 : Int) == 0) (ite2 (!x10) (CF Try.prog 31 [(Value.pointer x5), (Value.int .i64 x1)] h5 fun u7 h8 => (slcV u7 fun a9 n10 c11 => (ite2 (((n10 : Nat) : Int) == 0) (CF Try.prog 33 [(Value.pointer x5)] h8 fun u12 h13 => (slcV u12 fun a14 n15 c16 => (ite2 (((n15 : Nat) : Int) == 0) (CF Try.prog 36 [(Value.pointer x5)] h13 fun u17 h18 => (intV u17 .i64 fun i19 => (ite2 ((i19 : Int) == 0) (CF Try.prog 28 [] h18 fun u20 h21 => (boolV u20 fun q22 => (K (upd (upd (upd (upd (upd (upd (upd (upd (upd (upd (upd (upd (upd (upd (upd (upd (upd (upd (upd (upd (upd (upd (upd (upd (upd (upd (upd (upd (upd (upd (upd (upd (upd (upd (upd (upd (upd (upd (upd (upd (upd (upd (upd (upd (upd (upd (upd (upd (upd (upd (upd (upd (upd (upd (upd (upd (upd (upd (upd (upd (upd e 10 (sB (x10))) 9 (sI (x9))) 8 (sI (x8))) 7 (sB (x7))) 6 (sI (x6))) 5 (sV (Value.pointer x5))) 1 (sI (x1))) 0 (sI (x0))) 23 (sV (Value.pointer x5))) 24 (sI (x0))) 25 (sI (x1))) 26 (sI (i3))) 27 (sB (((i3 : Int) == 2)))) 28 (sB (true))) 29 (sV (Value.pointer x5))) 30 (sI (x0))) 31 (sB (q6))) 32 (sB ((!q6)))) 33 (sB ((!q6)))) 34 (sB (true))) 35 (sI (x6))) 36 (sB (((x6 : Int) == 0)))) 37 (sB (((x6 : Int) == 0)))) 38 (sB (true))) 39 (sB (x7))) 40 (sB ((!x7)))) 41 (sB ((!x7)))) 42 (sB (true))) 43 (sI (x8))) 44 (sB (((x8 : Int) == 0)))) 45 (sB (((x8 : Int) == 0)))) 46 (sB (true))) 47 (sI (x9))) 48 (sB (((x9 : Int) == 0)))) 49 (sB (((x9 : Int) == 0)))) 50 (sB (true))) 51 (sB (x10))) 52 (sB ((!x10)))) 53 (sB ((!x10)))) 54 (sB (true))) 55 (sV (Value.pointer x5))) 56 (sI (x1))) 57 (sV (Value.slice a9 n10 c11))) 58 (sI ((n10 : Nat)))) 59 (sB ((((n10 : Nat) : Int) == 0)))) 60 (sB ((((n10 : Nat) : Int) == 0)))) 61 (sB (true))) 62 (sV (Value.pointer x5))) 63 (sV (Value.slice a14 n15 c16))) 64 (sI ((n15 : Nat)))) 65 (sB ((((n15 : Nat) : Int) == 0)))) 66 (sB ((((n15 : Nat) : Int) == 0)))) 67 (sB (true))) 68 (sV (Value.pointer x5))) 69 (sI (i19))) 70 (sB (((i19 : Int) == 0)))) 71 (sB (((i19 : Int) == 0)))) 72 (sB (true))) 73 (sB (q22))) 74 (sB (q22))) 4 (sB (q22))) V0 h21))) (K (upd (upd (upd (upd (upd (upd (upd (upd (upd (upd (upd (upd (upd (upd (upd (upd (upd (upd (upd (upd (upd (upd (upd (upd (upd (upd (upd (upd (upd (upd (upd (upd (upd (upd (upd (upd (upd (upd (upd (upd (upd (upd (upd (upd (upd (upd (upd (upd (upd (upd (upd (upd (upd (upd (upd (upd (upd (upd (upd (upd (upd e 10 (sB (x10))) 9 (sI (x9))) 8 (sI (x8))) 7 (sB (x7))) 6 (sI (x6))) 5 (sV (Value.pointer x5))) 1 (sI (x1))) 0 (sI (x0))) 23 (sV (Value.pointer x5))) 24 (sI (x0))) 25 (sI (x1))) 26 (sI (i3))) 27 (sB (((i3 : Int) == 2)))) 28 (sB (true))) 29 (sV (Value.pointer x5))) 30 (sI (x0))) 31 (sB (q6))) 32 (sB ((!q6)))) 33 (sB ((!q6)))) 34 (sB (true))) 35 (sI (x6))) 36 (sB (((x6 : Int) == 0)))) 37 (sB (((x6 : Int) == 0)))) 38 (sB (true))) 39 (sB (x7))) 40 (sB ((!x7)))) 41 (sB ((!x7)))) 42 (sB (true))) 43 (sI (x8))) 44 (sB (((x8 : Int) == 0)))) 45 (sB (((x8 : Int) == 0)))) 46 (sB (true))) 47 (sI (x9))) 48 (sB (((x9 : Int) == 0)))) 49 (sB (((x9 : Int) == 0)))) 50 (sB (true))) 51 (sB (x10))) 52 (sB ((!x10)))) 53 (sB ((!x10)))) 54 (sB (true))) 55 (sV (Value.pointer x5))) 56 (sI (x1))) 57 (sV (Value.slice a9 n10 c11))) 58 (sI ((n10 : Nat)))) 59 (sB ((((n10 : Nat) : Int) == 0)))) 60 (sB ((((n10 : Nat) : Int) == 0)))) 61 (sB (true))) 62 (sV (Value.pointer x5))) 63 (sV (Value.slice a14 n15 c16))) 64 (sI ((n15 : Nat)))) 65 (sB ((((n15 : Nat) : Int) == 0)))) 66 (sB ((((n15 : Nat) : Int) == 0)))) 67 (sB (true))) 68 (sV (Value.pointer x5))) 69 (sI (i19))) 70 (sB (((i19 : Int) == 0)))) 71 (sB (((i19 : Int) == 0)))) 72 (sB (false))) 73 (sV undef)) 74 (sB (false))) 4 (sB (false))) V0 h18)))) (K (upd (upd (upd (upd (upd (upd (upd (upd (upd (upd (upd (upd (upd (upd (upd (upd (upd (upd (upd (upd (upd (upd (upd (upd (upd (upd (upd (upd (upd (upd (upd (upd (upd (upd (upd (upd (upd (upd (upd (upd (upd (upd (upd (upd (upd (upd (upd (upd (upd (upd (upd (upd (upd (upd (upd (upd (upd (upd (upd (upd (upd e 10 (sB (x10))) 9 (sI (x9))) 8 (sI (x8))) 7 (sB (x7))) 6 (sI (x6))) 5 (sV (Value.pointer x5))) 1 (sI (x1))) 0 (sI (x0))) 23 (sV (Value.pointer x5))) 24 (sI (x0))) 25 (sI (x1))) 26 (sI (i3))) 27 (sB (((i3 : Int) == 2)))) 28 (sB (true))) 29 (sV (Value.pointer x5))) 30 (sI (x0))) 31 (sB (q6))) 32 (sB ((!q6)))) 33 (sB ((!q6)))) 34 (sB (true))) 35 (sI (x6))) 36 (sB (((x6 : Int) == 0)))) 37 (sB (((x6 : Int) == 0)))) 38 (sB (true))) 39 (sB (x7))) 40 (sB ((!x7)))) 41 (sB ((!x7)))) 42 (sB (true))) 43 (sI (x8))) 44 (sB (((x8 : Int) == 0)))) 45 (sB (((x8 : Int) == 0)))) 46 (sB (true))) 47 (sI (x9))) 48 (sB (((x9 : Int) == 0)))) 49 (sB (((x9 : Int) == 0)))) 50 (sB (true))) 51 (sB (x10))) 52 (sB ((!x10)))) 53 (sB ((!x10)))) 54 (sB (true))) 55 (sV (Value.pointer x5))) 56 (sI (x1))) 57 (sV (Value.slice a9 n10 c11))) 58 (sI ((n10 : Nat)))) 59 (sB ((((n10 : Nat) : Int) == 0)))) 60 (sB ((((n10 : Nat) : Int) == 0)))) 61 (sB (true))) 62 (sV (Value.pointer x5))) 63 (sV (Value.slice a14 n15 c16))) 64 (sI ((n15 : Nat)))) 65 (sB ((((n15 : Nat) : Int) == 0)))) 66 (sB ((((n15 : Nat) : Int) == 0)))) 67 (sB (false))) 68 (sV undef)) 69 (sV undef)) 70 (sV undef)) 71 (sB (false))) 72 (sB (false))) 73 (sV undef)) 74 (sB (false))) 4 (sB (false))) V0 h13)))) (K (upd (upd (upd (upd (upd (upd (upd (upd (upd (upd (upd (upd (upd (upd (upd (upd (upd (upd (upd (upd (upd (upd (upd (upd (upd (upd (upd (upd (upd (upd (upd (upd (upd (upd (upd (upd (upd (upd (upd (upd (upd (upd (upd (upd (upd (upd (upd (upd (upd (upd (upd (upd (upd (upd (upd (upd (upd (upd (upd (upd (upd e 10 (sB (x10))) 9 (sI (x9))) 8 (sI (x8))) 7 (sB (x7))) 6 (sI (x6))) 5 (sV (Value.pointer x5))) 1 (sI (x1))) 0 (sI (x0))) 23 (sV (Value.pointer x5))) 24 (sI (x0))) 25 (sI (x1))) 26 (sI (i3))) 27 (sB (((i3 : Int) == 2)))) 28 (sB (true))) 29 (sV (Value.pointer x5))) 30 (sI (x0))) 31 (sB (q6))) 32 (sB ((!q6)))) 33 (sB ((!q6)))) 34 (sB (true))) 35 (sI (x6))) 36 (sB (((x6 : Int) == 0)))) 37 (sB (((x6 : Int) == 0)))) 38 (sB (true))) 39 (sB (x7))) 40 (sB ((!x7)))) 41 (sB ((!x7)))) 42 (sB (true))) 43 (sI (x8))) 44 (sB (((x8 : Int) == 0)))) 45 (sB (((x8 : Int) == 0)))) 46 (sB (true))) 47 (sI (x9))) 48 (sB (((x9 : Int) == 0)))) 49 (sB (((x9 : Int) == 0)))) 50 (sB (true))) 51 (sB (x10))) 52 (sB ((!x10)))) 53 (sB ((!x10)))) 54 (sB (true))) 55 (sV (Value.pointer x5))) 56 (sI (x1))) 57 (sV (Value.slice a9 n10 c11))) 58 (sI ((n10 : Nat)))) 59 (sB ((((n10 : Nat) : Int) == 0)))) 60 (sB ((((n10 : Nat) : Int) == 0)))) 61 (sB (false))) 62 (sV undef)) 63 (sV undef)) 64 (sV undef)) 65 (sV undef)) 66 (sB (false))) 67 (sB (false))) 68 (sV undef)) 69 (sV undef)) 70 (sV undef)) 71 (sB (false))) 72 (sB (false))) 73 (sV undef)) 74 (sB (false))) 4 (sB (false))) V0 h8)))) (K (upd (upd (upd (upd (upd (upd (upd (upd (upd (upd (upd (upd (upd (upd (upd (upd (upd (upd (upd (upd (upd (upd (upd (upd (upd (upd (upd (upd (upd (upd (upd (upd (upd (upd (upd (upd (upd (upd (upd (upd (upd (upd (upd (upd (upd (upd (upd (upd (upd (upd (upd (upd (upd (upd (upd (upd (upd (upd (upd (upd (upd e 10 (sB (x10))) 9 (sI (x9))) 8 (sI (x8))) 7 (sB (x7))) 6 (sI (x6))) 5 (sV (Value.pointer x5))) 1 (sI (x1))) 0 (sI (x0))) 23 (sV (Value.pointer x5))) 24 (sI (x0))) 25 (sI (x1))) 26 (sI (i3))) 27 (sB (((i3 : Int) == 2)))) 28 (sB (true))) 29 (sV (Value.pointer x5))) 30 (sI (x0))) 31 (sB (q6))) 32 (sB ((!q6)))) 33 (sB ((!q6)))) 34 (sB (true))) 35 (sI (x6))) 36 (sB (((x6 : Int) == 0)))) 37 (sB (((x6 : Int) == 0)))) 38 (sB (true))) 39 (sB (x7))) 40 (sB ((!x7)))) 41 (sB ((!x7)))) 42 (sB (true))) 43 (sI (x8))) 44 (sB (((x8 : Int) == 0)))) 45 (sB (((x8 : Int) == 0)))) 46 (sB (true))) 47 (sI (x9))) 48 (sB (((x9 : Int) == 0)))) 49 (sB (((x9 : Int) == 0)))) 50 (sB (true))) 51 (sB (x10))) 52 (sB ((!x10)))) 53 (sB ((!x10)))) 54 (sB (false))) 55 (sV undef)) 56 (sV undef)) 57 (sV undef)) 58 (sV undef)) 59 (sV undef)) 60 (sB (false))) 61 (sB (false))) 62 (sV undef)) 63 (sV undef)) 64 (sV undef)) 65 (sV undef)) 66 (sB (false))) 67 (sB (false))) 68 (sV undef)) 69 (sV undef)) 70 (sV undef)) 71 (sB (false))) 72 (sB (false))) 73 (sV undef)) 74 (sB (false))) 4 (sB (false))) V0 h5)) (K (upd (upd (upd (upd (upd (upd (upd (upd (upd (upd (upd (upd (upd (upd (upd (upd (upd (upd (upd (upd (upd (upd (upd (upd (upd (upd (upd (upd (upd (upd (upd (upd (upd (upd (upd (upd (upd (upd (upd (upd (upd (upd (upd (upd (upd (upd (upd (upd (upd (upd (upd (upd (upd (upd (upd (upd (upd (upd (upd (upd (upd e 10 (sB (x10))) 9 (sI (x9))) 8 (sI (x8))) 7 (sB (x7))) 6 (sI (x6))) 5 (sV (Value.pointer x5))) 1 (sI (x1))) 0 (sI (x0))) 23 (sV (Value.pointer x5))) 24 (sI (x0))) 25 (sI (x1))) 26 (sI (i3))) 27 (sB (((i3 : Int) == 2)))) 28 (sB (true))) 29 (sV (Value.pointer x5))) 30 (sI (x0))) 31 (sB (q6))) 32 (sB ((!q6)))) 33 (sB ((!q6)))) 34 (sB (true))) 35 (sI (x6))) 36 (sB (((x6 : Int) == 0)))) 37 (sB (((x6 : Int) == 0)))) 38 (sB (true))) 39 (sB (x7))) 40 (sB ((!x7)))) 41 (sB ((!x7)))) 42 (sB (true))) 43 (sI (x8))) 44 (sB (((x8 : Int) == 0)))) 45 (sB (((x8 : Int) == 0)))) 46 (sB (true))) 47 (sI (x9))) 48 (sB (((x9 : Int) == 0)))) 49 (sB (((x9 : Int) == 0)))) 50 (sB (false))) 51 (sV undef)) 52 (sV undef)) 53 (sB (false))) 54 (sB (false))) 55 (sV undef)) 56 (sV undef)) 57 (sV undef)) 58 (sV undef)) 59 (sV undef)) 60 (sB (false))) 61 (sB (false))) 62 (sV undef)) 63 (sV undef)) 64 (sV undef)) 65 (sV undef)) 66 (sB (false))) 67 (sB (false))) 68 (sV undef)) 69 (sV undef)) 70 (sV undef)) 71 (sB (false))) 72 (sB (false))) 73 (sV undef)) 74 (sB (false))) 4 (sB (false))) V0 h5)) (K (upd (upd (upd (upd (upd (upd (upd (upd (upd (upd (upd (upd (upd (upd (upd (upd (upd (upd (upd (upd (upd (upd (upd (upd (upd (upd (upd (upd (upd (upd (upd (upd (upd (upd (upd (upd (upd (upd (upd (upd (upd (upd (upd (upd (upd (upd (upd (upd (upd (upd (upd (upd (upd (upd (upd (upd (upd (upd (upd (upd (upd e 10 (sB (x10))) 9 (sI (x9))) 8 (sI (x8))) 7 (sB (x7))) 6 (sI (x6))) 5 (sV (Value.pointer x5))) 1 (sI (x1))) 0 (sI (x0))) 23 (sV (Value.pointer x5))) 24 (sI (x0))) 25 (sI (x1))) 26 (sI (i3))) 27 (sB (((i3 : Int) == 2)))) 28 (sB (true))) 29 (sV (Value.pointer x5))) 30 (sI (x0))) 31 (sB (q6))) 32 (sB ((!q6)))) 33 (sB ((!q6)))) 34 (sB (true))) 35 (sI (x6))) 36 (sB (((x6 : Int) == 0)))) 37 (sB (((x6 : Int) == 0)))) 38 (sB (true))) 39 (sB (x7))) 40 (sB ((!x7)))) 41 (sB ((!x7)))) 42 (sB (true))) 43 (sI (x8))) 44 (sB (((x8 : Int) == 0)))) 45 (sB (((x8 : Int) == 0)))) 46 (sB (false))) 47 (sV undef)) 48 (sV undef)) 49 (sB (false))) 50 (sB (false))) 51 (sV undef)) 52 (sV undef)) 53 (sB (false))) 54 (sB (false))) 55 (sV undef)) 56 (sV undef)) 57 (sV undef)) 58 (sV undef)) 59 (sV undef)) 60 (sB (false))) 61 (sB (false))) 62 (sV undef)) 63 (sV undef)) 64 (sV undef)) 65 (sV undef)) 66 (sB (false))) 67 (sB (false))) 68 (sV undef)) 69 (sV undef)) 70 (sV undef)) 71 (sB (false))) 72 (sB (false))) 73 (sV undef)) 74 (sB (false))) 4 (sB (false))) V0 h5)) (K (upd (upd (upd (upd (upd (upd (upd (upd (upd (upd (upd (upd (upd (upd (upd (upd (upd (upd (upd (upd (upd (upd (upd (upd (upd (upd (upd (upd (upd (upd (upd (upd (upd (upd (upd (upd (upd (upd (upd (upd (upd (upd (upd (upd (upd (upd (upd (upd (upd (upd (upd (upd (upd (upd (upd (upd (upd (upd (upd (upd (upd e 10 (sB (x10))) 9 (sI (x9))) 8 (sI (x8))) 7 (sB (x7))) 6 (sI (x6))) 5 (sV (Value.pointer x5))) 1 (sI (x1))) 0 (sI (x0))) 23 (sV (Value.pointer x5))) 24 (sI (x0))) 25 (sI (x1))) 26 (sI (i3))) 27 (sB (((i3 : Int) == 2)))) 28 (sB (true))) 29 (sV (Value.pointer x5))) 30 (sI (x0))) 31 (sB (q6))) 32 (sB ((!q6)))) 33 (sB ((!q6)))) 34 (sB (true))) 35 (sI (x6))) 36 (sB (((x6 : Int) == 0)))) 37 (sB (((x6 : Int) == 0)))) 38 (sB (true))) 39 (sB (x7))) 40 (sB ((!x7)))) 41 (sB ((!x7)))) 42 (sB (false))) 43 (sV undef)) 44 (sV undef)) 45 (sB (false))) 46 (sB (false))) 47 (sV undef)) 48 (sV undef)) 49 (sB (false))) 50 (sB (false))) 51 (sV undef)) 52 (sV undef)) 53 (sB (false))) 54 (sB (false))) 55 (sV undef)) 56 (sV undef)) 57 (sV undef)) 58 (sV undef)) 59 (sV undef)) 60 (sB (false))) 61 (sB (false))) 62 (sV undef)) 63 (sV undef)) 64 (sV undef)) 65 (sV undef)) 66 (sB (false))) 67 (sB (false))) 68 (sV undef)) 69 (sV undef)) 70 (sV undef)) 71 (sB (false))) 72 (sB (false))) 73 (sV undef)) 74 (sB (false))) 4 (sB (false))) V0 h5)) (K (upd (upd (upd (upd (upd (upd (upd (upd (upd (upd (upd (upd (upd (upd (upd (upd (upd (upd (upd (upd (upd (upd (upd (upd (upd (upd (upd (upd (upd (upd (upd (upd (upd (upd (upd (upd (upd (upd (upd (upd (upd (upd (upd (upd (upd (upd (upd (upd (upd (upd (upd (upd (upd (upd (upd (upd (upd (upd (upd (upd (upd e 10 (sB (x10))) 9 (sI (x9))) 8 (sI (x8))) 7 (sB (x7))) 6 (sI (x6))) 5 (sV (Value.pointer x5))) 1 (sI (x1))) 0 (sI (x0))) 23 (sV (Value.pointer x5))) 24 (sI (x0))) 25 (sI (x1))) 26 (sI (i3))) 27 (sB (((i3 : Int) == 2)))) 28 (sB (true))) 29 (sV (Value.pointer x5))) 30 (sI (x0))) 31 (sB (q6))) 32 (sB ((!q6)))) 33 (sB ((!q6)))) 34 (sB (true))) 35 (sI (x6))) 36 (sB (((x6 : Int) == 0)))) 37 (sB (((x6 : Int) == 0)))) 38 (sB (false))) 39 (sV undef)) 40 (sV undef)) 41 (sB (false))) 42 (sB (false))) 43 (sV undef)) 44 (sV undef)) 45 (sB (false))) 46 (sB (false))) 47 (sV undef)) 48 (sV undef)) 49 (sB (false))) 50 (sB (false))) 51 (sV undef)) 52 (sV undef)) 53 (sB (false))) 54 (sB (false))) 55 (sV undef)) 56 (sV undef)) 57 (sV undef)) 58 (sV undef)) 59 (sV undef)) 60 (sB (false))) 61 (sB (false))) 62 (sV undef)) 63 (sV undef)) 64 (sV undef)) 65 (sV undef)) 66 (sB (false))) 67 (sB (false))) 68 (sV undef)) 69 (sV undef)) 70 (sV undef)) 71 (sB (false))) 72 (sB (false))) 73 (sV undef)) 74 (sB (false))) 4 (sB (false))) V0 h5)) (K (upd (upd (upd (upd (upd (upd (upd (upd (upd (upd (upd (upd (upd (upd (upd (upd (upd (upd (upd (upd (upd (upd (upd (upd (upd (upd (upd (upd (upd (upd (upd (upd (upd (upd (upd (upd (upd (upd (upd (upd (upd (upd (upd (upd (upd (upd (upd (upd (upd (upd (upd (upd (upd (upd (upd (upd (upd (upd (upd (upd (upd e 10 (sB (x10))) 9 (sI (x9))) 8 (sI (x8))) 7 (sB (x7))) 6 (sI (x6))) 5 (sV (Value.pointer x5))) 1 (sI (x1))) 0 (sI (x0))) 23 (sV (Value.pointer x5))) 24 (sI (x0))) 25 (sI (x1))) 26 (sI (i3))) 27 (sB (((i3 : Int) == 2)))) 28 (sB (true))) 29 (sV (Value.pointer x5))) 30 (sI (x0))) 31 (sB (q6))) 32 (sB ((!q6)))) 33 (sB ((!q6)))) 34 (sB (false))) 35 (sV undef)) 36 (sV undef)) 37 (sB (false))) 38 (sB (false))) 39 (sV undef)) 40 (sV undef)) 41 (sB (false))) 42 (sB (false))) 43 (sV undef)) 44 (sV undef)) 45 (sB (false))) 46 (sB (false))) 47 (sV undef)) 48 (sV undef)) 49 (sB (false))) 50 (sB (false))) 51 (sV undef)) 52 (sV undef)) 53 (sB (false))) 54 (sB (false))) 55 (sV undef)) 56 (sV undef)) 57 (sV undef)) 58 (sV undef)) 59 (sV undef)) 60 (sB (false))) 61 (sB (false))) 62 (sV undef)) 63 (sV undef)) 64 (sV undef)) 65 (sV undef)) 66 (sB (false))) 67 (sB (false))) 68 (sV undef)) 69 (sV undef)) 70 (sV undef)) 71 (sB (false))) 72 (sB (false))) 73 (sV undef)) 74 (sB (false))) 4 (sB (false))) V0 h5)))) (K (upd (upd (upd (upd (upd (upd (upd (upd (upd (upd (upd (upd (upd (upd (upd (upd (upd (upd (upd (upd (upd (upd (upd (upd (upd (upd (upd (upd (upd (upd (upd (upd (upd (upd (upd (upd (upd (upd (upd (upd (upd (upd (upd (upd (upd (upd (upd (upd (upd (upd (upd (upd (upd (upd (upd (upd (upd (upd (upd (upd (upd e 10 (sB (x10))) 9 (sI (x9))) 8 (sI (x8))) 7 (sB (x7))) 6 (sI (x6))) 5 (sV (Value.pointer x5))) 1 (sI (x1))) 0 (sI (x0))) 23 (sV (Value.pointer x5))) 24 (sI (x0))) 25 (sI (x1))) 26 (sI (i3))) 27 (sB (((i3 : Int) == 2)))) 28 (sB (false))) 29 (sV undef)) 30 (sV undef)) 31 (sV undef)) 32 (sV undef)) 33 (sB (false))) 34 (sB (false))) 35 (sV undef)) 36 (sV undef)) 37 (sB (false))) 38 (sB (false))) 39 (sV undef)) 40 (sV undef)) 41 (sB (false))) 42 (sB (false))) 43 (sV undef)) 44 (sV undef)) 45 (sB (false))) 46 (sB (false))) 47 (sV undef)) 48 (sV undef)) 49 (sB (false))) 50 (sB (false))) 51 (sV undef)) 52 (sV undef)) 53 (sB (false))) 54 (sB (false))) 55 (sV undef)) 56 (sV undef)) 57 (sV undef)) 58 (sV undef)) 59 (sV undef)) 60 (sB (false))) 61 (sB (false))) 62 (sV undef)) 63 (sV undef)) 64 (sV undef)) 65 (sV undef)) 66 (sB (false))) 67 (sB (false))) 68 (sV undef)) 69 (sV undef)) 70 (sV undef)) 71 (sB (false))) 72 (sB (false))) 73 (sV undef)) 74 (sB (false))) 4 (sB (false))) V0 h2)))) := by kernel_rfl
def F8 (x0 : Int) (x1 : Int) (hp : HP) (K : Value → HP → Prop) : Prop :=
  (CF Try.prog 38 [(Value.pointer none), (Value.int .i64 x0)] hp fun u_1 h_2 => (tup2V u_1 fun u_3 u_4 => (intV u_3 .i64 fun i_5 => (boolV u_4 fun q_6 => (CF Try.prog 42 [(Value.pointer none)] h_2 fun u_7 h_8 => (tup3V u_7 fun u_9 u_10 u_11 => (intV u_9 .i64 fun i_12 => (intV u_10 .i64 fun i_13 => (boolV u_11 fun q_14 => (CF Try.prog 30 [(Value.pointer none), (Value.int .i64 x0), (Value.int .i64 x1)] h_8 fun u_15 h_16 => (intV u_15 .i64 fun i_17 => (ite2 ((i_17 : Int) == 2) (CF Try.prog 34 [(Value.pointer none), (Value.int .i64 x0)] h_16 fun u_18 h_19 => (boolV u_18 fun q_20 => (ite2 (!q_20) (ite2 ((i_5 : Int) == 0) (ite2 (!q_6) (ite2 ((i_12 : Int) == 0) (ite2 ((i_13 : Int) == 0) (ite2 (!q_14) (CF Try.prog 31 [(Value.pointer none), (Value.int .i64 x1)] h_19 fun u_21 h_22 => (slcV u_21 fun a_23 n_24 c_25 => (ite2 (((n_24 : Nat) : Int) == 0) (CF Try.prog 33 [(Value.pointer none)] h_22 fun u_26 h_27 => (slcV u_26 fun a_28 n_29 c_30 => (ite2 (((n_29 : Nat) : Int) == 0) (CF Try.prog 36 [(Value.pointer none)] h_27 fun u_31 h_32 => (intV u_31 .i64 fun i_33 => (ite2 ((i_33 : Int) == 0) (CF Try.prog 28 [] h_32 fun u_34 h_35 => (boolV u_34 fun q_36 => (K (Value.bool q_36) h_35))) (K (Value.bool false) h_32)))) (K (Value.bool false) h_27)))) (K (Value.bool false) h_22)))) (K (Value.bool false) h_19)) (K (Value.bool false) h_19)) (K (Value.bool false) h_19)) (K (Value.bool false) h_19)) (K (Value.bool false) h_19)) (K (Value.bool false) h_19)))) (K (Value.bool false) h_16)))))))))))))
noncomputable def F8_code : Code := (.seq (.region 0 (opsAt Try.f8 [0]) false) (.seq (.region 1 (opsAt Try.f8 [1, 0]) false) (.seq (.region 2 (opsAt Try.f8 [1, 1, 0]) false) (.seq (.region 3 (opsAt Try.f8 [1, 1, 1, 0]) false) (.seq (.region 4 (opsAt Try.f8 [1, 1, 1, 1, 0]) false) .ret)))))
theorem F8_body : Try.f8.body = some F8_code := by kernel_rfl
theorem F8_ok (x0 : Int) (x1 : Int) (hp : HP) (K : Value → HP → Prop) (h : F8 x0 x1 hp K) : CF Try.prog 8 [(Value.int .i64 x0), (Value.int .i64 x1)] hp K := by
 refine .inl ⟨by kernel_rfl, AC.intro (N := 75) Try.func8 F8_body rfl (Nat.le_of_ble_eq_true rfl) ?_⟩
 unfold F8 at h
 unfold F8_code
 refine AWP.seq' ?_
 refine AWP.rgn (F8_r0 (upd (upd E0 1 (sI (x1))) 0 (sI (x0)))  hp _) ?_ (Rv 0 _ (Rv 1 _ (Rn))) (Sc rfl (Sc rfl (Sn))) (Sn)
 refine AWP.seq' ?_
 refine AWP.rgn (F8_r1 (upd (upd E0 1 (sI (x1))) 0 (sI (x0)))  hp _) ?_ (Rv 0 _ (Rv 1 _ (Rn))) (Sc rfl (Sc rfl (Sn))) (Sn)
 refine AWP.seq' ?_
 refine AWP.rgn (F8_r2 (upd E0 1 (sI (x1))) x0 none hp _) ?_ (Rv 0 _ (Rv 5 _ (Rv 1 _ (Rn)))) (Sc rfl (Sc rfl (Sc rfl (Sn)))) (Sn)
 refine CF_mono h (fun u_1 h_2 h => ?_)
 refine tup2V_mono h (fun u_3 u_4 h => ?_)
 refine intV_mono h (fun i_5 h => ?_)
 refine boolV_mono h (fun q_6 h => ?_)
 refine AWP.seq' ?_
 refine AWP.rgn (F8_r3 (upd (upd (upd (upd E0 7 (sB (q_6))) 6 (sI (i_5))) 1 (sI (x1))) 0 (sI (x0))) none h_2 _) ?_ (Rv 5 _ (Rv 0 _ (Rv 1 _ (Rv 6 _ (Rv 7 _ (Rn)))))) (Sc rfl (Sc rfl (Sc rfl (Sc rfl (Sc rfl (Sn)))))) (Sn)
 refine CF_mono h (fun u_7 h_8 h => ?_)
 refine tup3V_mono h (fun u_9 u_10 u_11 h => ?_)
 refine intV_mono h (fun i_12 h => ?_)
 refine intV_mono h (fun i_13 h => ?_)
 refine boolV_mono h (fun q_14 h => ?_)
 refine AWP.seq' ?_
 refine AWP.rgn (F8_r4 E0 x0 x1 none i_5 q_6 i_12 i_13 q_14 h_8 _) ?_ (Rv 0 _ (Rv 1 _ (Rv 5 _ (Rv 6 _ (Rv 7 _ (Rv 8 _ (Rv 9 _ (Rv 10 _ (Rn))))))))) (Sc rfl (Sc rfl (Sc rfl (Sc rfl (Sc rfl (Sc rfl (Sc rfl (Sc rfl (Sn))))))))) (Sn)
 refine CF_mono h (fun u_15 h_16 h => ?_)
 refine intV_mono h (fun i_17 h => ?_)
 refine ite2_mono h (fun h => ?_) (fun h => ?_)
 ·refine CF_mono h (fun u_18 h_19 h => ?_)
  refine boolV_mono h (fun q_20 h => ?_)
  refine ite2_mono h (fun h => ?_) (fun h => ?_)
  ·refine ite2_mono h (fun h => ?_) (fun h => ?_)
   ·refine ite2_mono h (fun h => ?_) (fun h => ?_)
    ·refine ite2_mono h (fun h => ?_) (fun h => ?_)
     ·refine ite2_mono h (fun h => ?_) (fun h => ?_)
      ·refine ite2_mono h (fun h => ?_) (fun h => ?_)
       ·refine CF_mono h (fun u_21 h_22 h => ?_)
        refine slcV_mono h (fun a_23 n_24 c_25 h => ?_)
        refine ite2_mono h (fun h => ?_) (fun h => ?_)
        ·refine CF_mono h (fun u_26 h_27 h => ?_)
         refine slcV_mono h (fun a_28 n_29 c_30 h => ?_)
         refine ite2_mono h (fun h => ?_) (fun h => ?_)
         ·refine CF_mono h (fun u_31 h_32 h => ?_)
          refine intV_mono h (fun i_33 h => ?_)
          refine ite2_mono h (fun h => ?_) (fun h => ?_)
          ·refine CF_mono h (fun u_34 h_35 h => ?_)
           refine boolV_mono h (fun q_36 h => ?_)
           refine AWP.ret ?_
           exact h
          ·refine AWP.ret ?_
           exact h
         ·refine AWP.ret ?_
          exact h
        ·refine AWP.ret ?_
         exact h
       ·refine AWP.ret ?_
        exact h
      ·refine AWP.ret ?_
       exact h
     ·refine AWP.ret ?_
      exact h
    ·refine AWP.ret ?_
     exact h
   ·refine AWP.ret ?_
    exact h
  ·refine AWP.ret ?_
   exact h
 ·refine AWP.ret ?_
  exact h
end Go.Proofs

set_option linter.unusedVariables false
set_option maxRecDepth 20000
namespace Go.Proofs
open Go Go.HL
open Go.Exp (Th tlt swo_tlt Ord setW dropW insW)

def i1 (x : Int) : List Value := [.int .i64 x]
theorem i1_len (x : Int) : (i1 x).length = 1 := rfl
theorem idv_i1 : ∀ w : List Th, w.flatMap idv = (w.map (·.1)).flatMap i1
  | [] => rfl
  | t :: w => by rw [List.flatMap_cons, List.map_cons, List.flatMap_cons, idv_i1 w]; rfl

/-- What lies beside stays. -/
abbrev Frm (hl hp hl' hp' : HP) : Prop := ∀ r, HSub r hp → Disj hl r → HSub r hp' ∧ Disj hl' r

def badDue (due : Int) : Prop := due < 0 ∨ due > 4611686018427387904

section
variable {hl hp : HP} {q : Nat} {w : List Th} {K : Value → HP → Prop}

theorem N29 (hk : ∀ q hl' hp', QW hl' q [] → HSub hl' hp' → (∀ r, HSub r hp → HSub r hp' ∧ Disj hl' r) → K (ptr q 0) hp') : CF Try.prog 29 [] hp K := by
  refine CF.loc (hq := fun _ => .none) (fun x => .inl rfl) (C29 (K := fun v h' => ∃ q, v = ptr q 0 ∧ QW h' q []) fun q hq' _ _ h => ⟨q, rfl, h⟩) ?_
  rintro v hl' hp' ⟨q, rfl, h⟩ hs hf
  exact hk q hl' hp' h hs fun r hr => hf r hr fun x => .inl rfl

theorem N30 {id due : Int} (sl : HSub hl hp) (h : QW hl q w) (hsz : w.length + 1 ≤ 1000000)
    (hk : ∀ (v : Int) hl' hp' w', (badDue due → v = 1 ∧ w' = w) → (¬ badDue due → v = 0 ∧ w' = setW id due w) → QW hl' q w' → HSub hl' hp' → Frm hl hp hl' hp' → K (.int .i64 v) hp') : CF Try.prog 30 [ptr q 0, .int .i64 id, .int .i64 due] hp K := by
  refine CF.loc sl (C30 (K := fun v h' => (badDue due ∧ v = .int .i64 1 ∧ QW h' q w) ∨ (¬ badDue due ∧ v = .int .i64 0 ∧ QW h' q (setW id due w))) h hsz (fun hb => .inl ⟨hb, rfl, h⟩) fun hb hq' hQ => .inr ⟨hb, rfl, hQ⟩) ?_
  rintro v hl' hp' (⟨hb, rfl, hQ⟩ | ⟨hb, rfl, hQ⟩) hs hf
  · exact hk 1 hl' hp' w (fun _ => ⟨rfl, rfl⟩) (fun hn => absurd hb hn) hQ hs hf
  · exact hk 0 hl' hp' _ (fun hn => absurd hn hb) (fun _ => ⟨rfl, rfl⟩) hQ hs hf

theorem N34 {id : Int} (sl : HSub hl hp) (h : QW hl q w) (hsz : w.length ≤ 1000000)
    (hk : ∀ hl' hp', QW hl' q (dropW id w) → HSub hl' hp' → Frm hl hp hl' hp' → K (.bool (getL id w).isSome) hp') : CF Try.prog 34 [ptr q 0, .int .i64 id] hp K := by
  refine CF.loc sl (C34 (K := fun v h' => v = .bool (getL id w).isSome ∧ QW h' q (dropW id w)) h hsz fun hq' hQ => ⟨rfl, hQ⟩) ?_
  rintro v hl' hp' ⟨rfl, hQ⟩ hs hf
  exact hk hl' hp' hQ hs hf

theorem N31 {now : Int} (sl : HSub hl hp) (h : QW hl q w) (hsz : w.length ≤ 1000000)
    (hk : ∀ (hl' hp' : HP) (s : Option Addr) (c : Nat), QW hl' q (w.dropWhile fun t => decide (t.2 ≤ now)) → HSub hl' hp' → Row hp' s (w.takeWhile fun t => decide (t.2 ≤ now)).length c 3 1 ((w.takeWhile fun t => decide (t.2 ≤ now)).flatMap idv) →
      (∀ b, s = some ⟨b, 0, none⟩ → hl' b = .none) → (∀ r, HSub r hp → Disj hl r → HSub r hp' ∧ Disj hl' r ∧ ∀ b, s = some ⟨b, 0, none⟩ → r b = .none) →
      K (.slice s (w.takeWhile fun t => decide (t.2 ≤ now)).length c) hp') : CF Try.prog 31 [ptr q 0, .int .i64 now] hp K := by
  refine CF.loc sl (C31 (K := fun v hx => ∃ (hl' : HP) (s : Option Addr) (c : Nat), v = .slice s (w.takeWhile fun t => decide (t.2 ≤ now)).length c ∧ HSub hl' hx ∧ QW hl' q (w.dropWhile fun t => decide (t.2 ≤ now)) ∧
    Row hx s (w.takeWhile fun t => decide (t.2 ≤ now)).length c 3 1 ((w.takeWhile fun t => decide (t.2 ≤ now)).flatMap idv) ∧ ∀ b, s = some ⟨b, 0, none⟩ → hl' b = .none) h hsz fun hx hl' s c h1 h2 h3 h4 => ⟨hl', s, c, rfl, h1, h2, h3, h4⟩) ?_
  rintro v hx hp' ⟨hl', s, c, rfl, h1, h2, h3, h4⟩ hs hf
  refine hk hl' hp' s c h2 (h1.trans hs) (h3.sub hs) h4 fun r hr hd => ?_
  obtain ⟨f1, f2⟩ := hf r hr hd
  refine ⟨f1, fun x => ?_, fun b hb => ?_⟩
  · rcases f2 x with e | e
    · exact .inl (h1.none e)
    · exact .inr e
  · rcases f2 b with e | e
    · rcases h3 with ⟨r1, _⟩ | ⟨b', r1, r2, r3, r4⟩
      · rw [r1] at hb; cases hb
      · rw [r1] at hb; cases hb; rw [r4] at e; cases e
    · exact e

theorem C32 {a b : Option Addr} {n m c c' : Nat} {xs ys : List Int} (ha : Shows hp a n 1 (xs.flatMap i1)) (hb : Shows hp b m 1 (ys.flatMap i1)) (hn : xs.length = n) (hm : ys.length = m) (hsz : n ≤ 1000000)
    (hK : K (.bool (decide (xs = ys))) hp) : CF Try.prog 32 [.slice a n c, .slice b m c'] hp K := by
  refine F32_ok a n c b m c' hp K ?_
  unfold F32
  by_cases hnm : n = m
  rotate_left
  · have e : (((n : Nat) : Int) != ((m : Nat) : Int)) = true := by rw [bne_iff_ne]; omega
    have : decide (xs = ys) = false := decide_eq_false fun h => hnm (by rw [← hn, ← hm, h])
    rw [e, ite2_true]
    rw [this] at hK; exact hK
  have e : (((n : Nat) : Int) != ((m : Nat) : Int)) = false := by rw [hnm]; simp
  rw [e, ite2_false]
  unfold F32_j1
  refine LoopP.by (J := fun k (x : Int) hp' => hp' = hp ∧ ∃ i : Nat, x = i ∧ i + k = n ∧ xs.take i = ys.take i) ?_ (n := n) ⟨rfl, 0, rfl, by omega, by simp⟩
  rintro I k x hp' ⟨rfl, i, rfl, hik, heq⟩ hI
  unfold F32_l2
  by_cases hi : i < n
  · obtain ⟨b1, o1, rfl, hc1⟩ := ha.get i1_len hn hi
    obtain ⟨b2, o2, rfl, hc2⟩ := hb.get i1_len hm (by omega : i < m)
    have g1 : hp'.cell b1 (o1 + i * 1) = some (.int .i64 (xs[i]'(hn ▸ hi))) := by have := HP.cell_cellN (j := 0) hc1 (v := .int .i64 (xs[i]'(hn ▸ hi))) rfl; simpa using this
    have g2 : hp'.cell b2 (o2 + i * 1) = some (.int .i64 (ys[i]'(by omega))) := by have := HP.cell_cellN (j := 0) hc2 (v := .int .i64 (ys[i]'(by omega))) rfl; simpa using this
    rw [decide_eq_true (by omega : (i : Int) < (n : Int)), ite2_true]
    simp only [ptrN_some, Int.toNat_natCast, g1, g2, ldV_some, intV_int]
    refine ⟨by omega, by omega, by omega, by omega, ?_⟩
    by_cases hxy : xs[i]'(hn ▸ hi) = ys[i]'(by omega)
    · have e : (xs[i]'(hn ▸ hi) != ys[i]'(by omega)) = false := by simpa using hxy
      have w : IntKind.wrap .i64 ((i : Int) + 1) = ((i + 1 : Nat) : Int) := wi (by omega) (by omega)
      rw [e, ite2_false, w]
      refine hI (k - 1) _ _ (by omega) ⟨rfl, i + 1, rfl, by omega, ?_⟩
      rw [List.take_succ_eq_append_getElem (by omega), List.take_succ_eq_append_getElem (by omega), heq, hxy]
    · have e : (xs[i]'(hn ▸ hi) != ys[i]'(by omega)) = true := by simpa using hxy
      have : decide (xs = ys) = false := decide_eq_false fun h => hxy (by subst h; rfl)
      rw [e, ite2_true]
      rw [this] at hK; exact hK
  · rw [decide_eq_false (by omega : ¬ (i : Int) < (n : Int)), ite2_false]
    have : xs = ys := by
      have e1 : xs.take i = xs := List.take_of_length_le (by omega)
      have e2 : ys.take i = ys := List.take_of_length_le (by omega)
      rw [e1, e2] at heq; exact heq
    rw [decide_eq_true this] at hK; exact hK

/-- The chapter's first example. -/
theorem C28 (hK : ∀ hp', HSub hp hp' → K (.bool true) hp') : CF Try.prog 28 [] hp K := by
  refine F28_ok hp K ?_
  unfold F28
  have pp : ∀ (p : Nat) (c : Option Addr → Prop), ptrV (ptr p 0) c = c (some ⟨p, 0, none⟩) := fun _ _ => rfl
  refine N29 fun q l1 hp1 hQ1 s1 f1 => ?_
  obtain ⟨g1, d1⟩ := f1 hp (HSub.refl _)
  rw [pp]
  refine N30 s1 hQ1 (by simp) fun v2 l2 hp2 w2 _ hg2 hQ2 s2 f2 => ?_
  obtain ⟨rfl, rfl⟩ := hg2 (by unfold badDue; omega)
  obtain ⟨g2, d2⟩ := f2 hp g1 d1
  rw [intV_int]
  refine N30 s2 hQ2 (by decide) fun v3 l3 hp3 w3 _ hg3 hQ3 s3 f3 => ?_
  obtain ⟨rfl, rfl⟩ := hg3 (by unfold badDue; omega)
  obtain ⟨g3, d3⟩ := f3 hp g2 d2
  rw [intV_int]
  refine N30 s3 hQ3 (by decide) fun v4 l4 hp4 w4 _ hg4 hQ4 s4 f4 => ?_
  obtain ⟨rfl, rfl⟩ := hg4 (by unfold badDue; omega)
  obtain ⟨g4, d4⟩ := f4 hp g3 d3
  rw [intV_int]
  have hw : setW 9 2 (setW 3 5 (setW 7 5 [])) = [(9, 2), (3, 5), (7, 5)] := by decide
  rw [hw] at hQ4
  refine C42 (hQ4.sub s4) ?_
  simp only [tup3V_mk, List.head?_cons, Option.map_some, Option.getD_some, Option.isSome_some, intV_int, boolV_bool]
  show ite2 true (ite2 true (ite2 true _ _) _) _
  rw [ite2_true, ite2_true, ite2_true]
  refine N31 s4 hQ4 (by simp) fun l5 hp5 s c hQ5 s5 hrow5 hfr5 f5 => ?_
  obtain ⟨g5, d5, _⟩ := f5 hp g4 d4
  have ht : ([(9, 2), (3, 5), (7, 5)] : List Th).takeWhile (fun t => decide (t.2 ≤ 4)) = [(9, 2)] := by decide
  have hd : ([(9, 2), (3, 5), (7, 5)] : List Th).dropWhile (fun t => decide (t.2 ≤ 4)) = [(3, 5), (7, 5)] := by decide
  rw [ht] at hrow5 ⊢
  rw [hd] at hQ5
  rw [slcV_slice]
  intro b6 hb6
  have s6 := HSub.set_fresh hp5 (.cells 3 [(Value.int .i64 9)] 0) hb6
  refine C32 (xs := [9]) (ys := [9]) ((hrow5.sub s6).shows) (.inr ⟨b6, 0, rfl, by rw [HP.cellN_of (HP.set_eq ..)]; rfl⟩) rfl rfl (by decide) ?_
  rw [boolV_bool]
  show ite2 true _ _
  rw [ite2_true]
  refine C33 (hQ5.sub (s5.trans s6)) (by decide) fun hp7 s7 c7 g7 hrow7 _ => ?_
  rw [slcV_slice]
  intro b8 hb8
  have s8 := HSub.set_fresh hp7 (.cells 3 [(Value.int .i64 3), (Value.int .i64 7)] 0) hb8
  refine C32 (xs := [3, 7]) (ys := [3, 7]) ((hrow7.sub s8).shows) (.inr ⟨b8, 0, rfl, by rw [HP.cellN_of (HP.set_eq ..)]; rfl⟩) rfl rfl (by decide) ?_
  rw [boolV_bool]
  exact hK _ (((g5.trans s6).trans g7).trans s8)

theorem C38n {id : Int} (hK : K (.tuple ⟨[.int .i64 0, .bool false]⟩) hp) : CF Try.prog 38 [.pointer none, .int .i64 id] hp K := by
  refine F38_ok none id hp K ?_
  unfold F38
  refine C82n ?_
  rw [boolV_bool, ite2_true]
  exact hK
theorem C42n (hK : K (.tuple ⟨[.int .i64 0, .int .i64 0, .bool false]⟩) hp) : CF Try.prog 42 [.pointer none] hp K := by
  refine F42_ok none hp K ?_
  unfold F42
  refine C82n ?_
  rw [boolV_bool, ite2_true]
  unfold F42_j1
  rw [ite2_true]
  exact hK
theorem C30n {id due : Int} (hK : K (.int .i64 2) hp) : CF Try.prog 30 [.pointer none, .int .i64 id, .int .i64 due] hp K := by
  refine F30_ok none id due hp K ?_
  unfold F30
  refine C82n ?_
  rw [boolV_bool, ite2_true]
  exact hK
theorem C34n {id : Int} (hK : K (.bool false) hp) : CF Try.prog 34 [.pointer none, .int .i64 id] hp K := by
  refine F34_ok none id hp K ?_
  unfold F34
  refine C82n ?_
  rw [boolV_bool, ite2_true]
  exact hK
theorem C31n {now : Int} (hK : K (.slice none 0 0) hp) : CF Try.prog 31 [.pointer none, .int .i64 now] hp K := by
  refine F31_ok none now hp K ?_
  unfold F31
  refine C42n ?_
  simp only [tup3V_mk, intV_int, boolV_bool]
  unfold F31_j2
  refine LoopP.by (J := fun k (s : Option Addr × Nat × Nat × Int × Bool) hp' => hp' = hp ∧ s.1 = none ∧ s.2.1 = 0 ∧ s.2.2.1 = 0 ∧ s.2.2.2.2 = false) ?_ (n := 0) ⟨rfl, rfl, rfl, rfl, rfl⟩
  rintro I k ⟨s1, s2, s3, s4, s5⟩ hp' ⟨rfl, h1, h2, h3, h4⟩ hI
  simp only at h1 h2 h3 h4
  subst h1 h2 h3 h4
  unfold F31_l3
  simp only [ite2_false]
  unfold F31_j4 F31_j1
  rw [ite2_false]
  exact hK
theorem C36n (hK : K (.int .i64 0) hp) : CF Try.prog 36 [.pointer none] hp K := by
  refine F36_ok none hp K ?_
  unfold F36
  refine C82n ?_
  rw [boolV_bool, ite2_true]
  exact hK

/-- A nil queue has nothing. -/
theorem C8 {id at' : Int} (hK : K (.bool true) hp) : CF Try.prog 8 [.int .i64 id, .int .i64 at'] hp K := by
  refine CF.drop (F8_ok id at' hp _ ?_)
  unfold F8
  refine C38n ?_
  simp only [tup2V_mk, intV_int, boolV_bool]
  refine C42n ?_
  simp only [tup3V_mk, intV_int, boolV_bool]
  refine C30n ?_
  rw [intV_int]
  show ite2 true _ _
  rw [ite2_true]
  refine C34n ?_
  rw [boolV_bool]
  show ite2 true (ite2 true (ite2 true (ite2 true (ite2 true (ite2 true _ _) _) _) _) _) _
  simp only [ite2_true]
  refine C31n ?_
  rw [slcV_slice]
  show ite2 true _ _
  rw [ite2_true]
  refine C33n ?_
  rw [slcV_slice]
  show ite2 true _ _
  rw [ite2_true]
  refine C36n ?_
  rw [intV_int]
  show ite2 true _ _
  rw [ite2_true]
  refine C28 fun hp2 h2 => ?_
  rw [boolV_bool]
  exact ⟨hp, h2, hK⟩
end
end Go.Proofs

