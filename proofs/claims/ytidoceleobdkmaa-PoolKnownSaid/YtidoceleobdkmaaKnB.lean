/- Parts of the proof of KnownProof: the logic of what is known of memory, functions' contracts. -/
import Derived.Test.YtidoceleobdkmaaKnA
import Derived.Test.YtidoceleobdkmaaHlOrd
import Derived.Test.YtidoceleobdkmaaProg
import Derived.Test.YtidoceleobdkmaaHlSort
import Derived.Sort.LotA
import Derived.Test.YtidoceleobdkmaaHlAbb
import Derived.Test.YtidoceleobdkmaaHlLib
import Derived.Sort.LotD3
set_option linter.unusedVariables false
set_option maxRecDepth 20000
namespace Go.Proofs
open Go Go.HL
-- 45 (*interpreter/pool.Pool).All
theorem F45_r0 (e : Env) (x0 : Option Addr) (hp : HP) (K : Env → PV → HP → Prop) : RW Try.prog 24 [4] (opsAt Try.f45 [0]) (List.range 2) (upd e 0 (sV (Value.pointer x0))) V0 hp K =
    (∀ b1 : Nat, hp b1 = .none → (K (upd (upd (upd e 0 (sV (Value.pointer x0))) 1 (sV (ptr b1 0))) 2 (sV (Value.slice none 0 0))) V0 (HP.set hp b1 (.cells 69 [(Value.pointer x0)] 0)))) := by kernel_rfl
theorem F45_r1 (e : Env) (x1 : Option Addr) (hp : HP) (K : Env → PV → HP → Prop) : RW Try.prog 24 [4] (opsAt Try.f45 [1, 0, 0]) (List.range 2) (upd e 1 (sV (Value.pointer x1))) V0 hp K =
    (ptrN x1 fun b1 o2 => (ldV (HP.cell hp b1 o2) fun v3 => (ptrV v3 fun p4 => (K (upd (upd (upd e 1 (sV (Value.pointer x1))) 5 (sV (Value.pointer p4))) 6 (sB ((Option.isNone p4)))) V0 hp)))) := by kernel_rfl
theorem F45_r2 (e : Env) (hp : HP) (K : Env → PV → HP → Prop) : RW Try.prog 24 [4] (opsAt Try.f45 [1, 0, 1, 0, 0]) (List.range 1) e V0 hp K =
    (K (upd e 2 (sV (Value.slice none 0 0))) V0 hp) := by kernel_rfl
theorem F45_r3 (e : Env) (hp : HP) (K : Env → PV → HP → Prop) : RW Try.prog 24 [4] (opsAt Try.f45 [1, 1, 0]) (List.range 1) e V0 hp K =
    (K (upd e 3 (sV (Value.slice none 0 0))) V0 hp) := by kernel_rfl
theorem F45_r4 (e : Env) (x1 : Option Addr) (x3a : Option Addr) (x3n : Nat) (x3c : Nat) (hp : HP) (K : Env → PV → HP → Prop) : RW Try.prog 24 [4] (opsAt Try.f45 [1, 1, 1, 1, 0]) (List.range 3) (upd (upd e 3 (sV (Value.slice x3a x3n x3c))) 1 (sV (Value.pointer x1))) V0 hp K =
    (CF Try.prog 94 [(Value.slice x3a x3n x3c), (Value.func (.func 95) ⟨[]⟩ ⟨[(Value.pointer x1)]⟩)] hp fun u1 h2 => (K (upd (upd (upd (upd (upd e 3 (sV (Value.slice x3a x3n x3c))) 1 (sV (Value.pointer x1))) 20 (sV (Value.slice x3a x3n x3c))) 21 (sV (Value.func (.func 95) ⟨[]⟩ ⟨[(Value.pointer x1)]⟩))) 22 (sV u1)) V0 h2)) := by kernel_rfl
theorem F45_r5 (e : Env) (x3a : Option Addr) (x3n : Nat) (x3c : Nat) (hp : HP) (K : Env → PV → HP → Prop) : RW Try.prog 24 [4] (opsAt Try.f45 [1, 1, 1, 1, 1, 0]) (List.range 2) (upd e 3 (sV (Value.slice x3a x3n x3c))) V0 hp K =
    (K (upd (upd (upd e 3 (sV (Value.slice x3a x3n x3c))) 23 (sV (Value.slice x3a x3n x3c))) 2 (sV (Value.slice x3a x3n x3c))) V0 hp) := by kernel_rfl
def F45_j1 (x1 : Option Addr) (x3a : Option Addr) (x3n : Nat) (x3c : Nat) (hp : HP) (K : Value → HP → Prop) : Prop :=
  (CF Try.prog 94 [(Value.slice x3a x3n x3c), (Value.func (.func 95) ⟨[]⟩ ⟨[(Value.pointer x1)]⟩)] hp fun u_6 h_7 => (K (Value.slice x3a x3n x3c) h_7))
theorem F45_r6 (e : Env) (x11 : Value) (hp : HP) (K : Env → PV → HP → Prop) : RW Try.prog 24 [4] (opsAt Try.f45 [1, 1, 1, 0, 1, 0, 0, 0]) (List.range 2) (upd e 11 (sV x11)) V0 hp K =
    (opS Try.prog (Instr.next x11 false 0) hp fun u1 h2 => (tupI u1 0 fun v3 => (boolV v3 fun q4 => (K (upd (upd (upd e 11 (sV x11)) 12 (sV u1)) 13 (sB (q4))) V0 h2)))) := by kernel_rfl
theorem F45_r7 (e : Env) (x11 : Value) (hp : HP) (K : Env → PV → HP → Prop) : RW Try.prog 24 [4] (opsAt Try.f45 [1, 1, 1, 0, 1, 0, 0, 1, 1, 0, 0]) (List.range 4) (upd e 11 (sV x11)) V0 hp K =
    (rdS Try.prog (Instr.entry x11) hp fun u1 => (tupI u1 0 fun v2 => (aggV v2 fun l3 => (if List.length l3 = 5 then (if List.all l3 one = true then (if 0 + List.length l3 ≤ List.length [(Value.int .u8 0), (Value.int .u8 0), (Value.int .u8 0), (Value.int .u8 0), (Value.int .i64 0)] then (K (upd (upd (upd (upd e 11 (sV x11)) 14 (sV u1)) 15 (sV (Value.agg ⟨l3⟩))) 4 (SV.priv 4 0)) (upd (upd V0 4 (75, [(Value.int .u8 0), (Value.int .u8 0), (Value.int .u8 0), (Value.int .u8 0), (Value.int .i64 0)])) 4 (75, (splice [(Value.int .u8 0), (Value.int .u8 0), (Value.int .u8 0), (Value.int .u8 0), (Value.int .i64 0)] 0 l3))) hp) else False) else False) else False)))) := by kernel_rfl
theorem F45_r8 (e : Env) (x3a : Option Addr) (x3n : Nat) (x3c : Nat) (k4 : List Value) (hp : HP) (K : Env → PV → HP → Prop) : RW Try.prog 24 [4] (opsAt Try.f45 [1, 1, 1, 0, 1, 0, 0, 1, 1, 0, 1]) (List.range 5) (upd (upd e 4 (SV.priv 4 0)) 3 (sV (Value.slice x3a x3n x3c))) (upd V0 4 (75, k4)) hp K =
    (ldL (cellsN k4 0 5) fun l1 => (if List.length l1 = 5 then (∀ b2 : Nat, hp b2 = .none → (opS Try.prog (Builtin.append_ #[79, 79] 79 ⟨[(Value.slice x3a x3n x3c), (Value.slice (some ⟨b2, 0, none⟩) 1 1)]⟩) (HP.set hp b2 (.cells 75 (splice [(Value.int .u8 0), (Value.int .u8 0), (Value.int .u8 0), (Value.int .u8 0), (Value.int .i64 0)] 0 l1) 0)) fun u3 h4 => (slcV u3 fun a5 n6 c7 => (K (upd (upd (upd (upd (upd (upd (upd e 4 (SV.priv 4 0)) 3 (sV (Value.slice x3a x3n x3c))) 16 (sV (Value.slice x3a x3n x3c))) 17 (sV (Value.agg ⟨l1⟩))) 18 (sV (Value.slice (some ⟨b2, 0, none⟩) 1 1))) 19 (sV (Value.slice a5 n6 c7))) 3 (sV (Value.slice a5 n6 c7))) (upd V0 4 (75, k4)) h4)))) else False)) := by kernel_rfl
def F45_l3 (x1 : Option Addr) (x11 : Value) (K : Value → HP → Prop) (I3 : ((Option Addr) × Nat × Nat) → HP → Prop) (x3a : Option Addr) (x3n : Nat) (x3c : Nat) (hp : HP) : Prop :=
  (opS Try.prog (Instr.next x11 false 0) hp fun u_8 h_9 => (tupI u_8 0 fun v_10 => (boolV v_10 fun q_11 => (ite2 q_11 (rdS Try.prog (Instr.entry x11) h_9 fun u_12 => (tupI u_12 0 fun v_13 => (aggV v_13 fun l_14 => (if List.length l_14 = 5 then (if List.all l_14 one = true then (if 0 + List.length l_14 ≤ List.length [(Value.int .u8 0), (Value.int .u8 0), (Value.int .u8 0), (Value.int .u8 0), (Value.int .i64 0)] then (ldL (cellsN (splice [(Value.int .u8 0), (Value.int .u8 0), (Value.int .u8 0), (Value.int .u8 0), (Value.int .i64 0)] 0 l_14) 0 5) fun l_15 => (if List.length l_15 = 5 then (∀ b_16 : Nat, h_9 b_16 = .none → (opS Try.prog (Builtin.append_ #[79, 79] 79 ⟨[(Value.slice x3a x3n x3c), (Value.slice (some ⟨b_16, 0, none⟩) 1 1)]⟩) (HP.set h_9 b_16 (.cells 75 (splice [(Value.int .u8 0), (Value.int .u8 0), (Value.int .u8 0), (Value.int .u8 0), (Value.int .i64 0)] 0 l_15) 0)) fun u_17 h_18 => (slcV u_17 fun a_19 n_20 c_21 => (I3 (a_19, n_20, c_21) h_18)))) else False)) else False) else False) else False)))) (F45_j1 x1 x3a x3n x3c h_9  K)))))
def F45_j2 (x1 : Option Addr) (x3a : Option Addr) (x3n : Nat) (x3c : Nat) (x11 : Value) (hp : HP) (K : Value → HP → Prop) : Prop :=
  (LoopP (σ := (Option Addr) × Nat × Nat) (fun I s hp => F45_l3 x1 x11  K I s.1 s.2.1 s.2.2 hp) (x3a, x3n, x3c) hp)
theorem F45_r9 (e : Env) (x1 : Option Addr) (hp : HP) (K : Env → PV → HP → Prop) : RW Try.prog 24 [4] (opsAt Try.f45 [1, 1, 1, 0, 0]) (List.range 5) (upd e 1 (sV (Value.pointer x1))) V0 hp K =
    (ptrN x1 fun b1 o2 => (ldV (HP.cell hp b1 o2) fun v3 => (ptrV v3 fun p4 => (ptrN p4 fun b5 o6 => (ldV (HP.cell hp b5 (o6 + 3)) fun v7 => (mapV v7 fun m8 => (opS Try.prog (Instr.range 158 (Value.map m8)) hp fun u9 h10 => (K (upd (upd (upd (upd (upd (upd e 1 (sV (Value.pointer x1))) 7 (sV (Value.pointer p4))) 8 (sV (ptr b5 o6))) 9 (sV (ptr b5 (o6 + 3)))) 10 (sV (Value.map m8))) 11 (sV u9)) V0 h10)))))))) := by kernel_rfl
def F45 (x0 : Option Addr) (hp : HP) (K : Value → HP → Prop) : Prop :=
  (∀ b_1 : Nat, hp b_1 = .none → (ptrN (some ⟨b_1, 0, none⟩) fun b_2 o_3 => (ldV (HP.cell (HP.set hp b_1 (.cells 69 [(Value.pointer x0)] 0)) b_2 o_3) fun v_4 => (ptrV v_4 fun p_5 => (ite2 (Option.isNone p_5) (K (Value.slice none 0 0) (HP.set hp b_1 (.cells 69 [(Value.pointer x0)] 0))) (ptrN (some ⟨b_1, 0, none⟩) fun b_22 o_23 => (ldV (HP.cell (HP.set hp b_1 (.cells 69 [(Value.pointer x0)] 0)) b_22 o_23) fun v_24 => (ptrV v_24 fun p_25 => (ptrN p_25 fun b_26 o_27 => (ldV (HP.cell (HP.set hp b_1 (.cells 69 [(Value.pointer x0)] 0)) b_26 (o_27 + 3)) fun v_28 => (mapV v_28 fun m_29 => (opS Try.prog (Instr.range 158 (Value.map m_29)) (HP.set hp b_1 (.cells 69 [(Value.pointer x0)] 0)) fun u_30 h_31 => (F45_j2 (some ⟨b_1, 0, none⟩) none 0 0 u_30 h_31  K)))))))))))))
noncomputable def F45_code : Code := (.seq (.region 0 (opsAt Try.f45 [0]) false) (.seq (.seq (.region 1 (opsAt Try.f45 [1, 0, 0]) false) (.cond (.tmp 6) (.seq (.region 2 (opsAt Try.f45 [1, 0, 1, 0, 0]) false) .ret) .skip)) (.seq (.region 3 (opsAt Try.f45 [1, 1, 0]) false) (.seq (.seq (.region 4 (opsAt Try.f45 [1, 1, 1, 0, 0]) false) (.block 0 (.loop (.seq (.region 5 (opsAt Try.f45 [1, 1, 1, 0, 1, 0, 0, 0]) false) (.seq (.cond (.tmp 13) .skip (.exit 0)) (.block 1 (.seq (.region 6 (opsAt Try.f45 [1, 1, 1, 0, 1, 0, 0, 1, 1, 0, 0]) false) (.region 7 (opsAt Try.f45 [1, 1, 1, 0, 1, 0, 0, 1, 1, 0, 1]) false)))))))) (.seq (.region 8 (opsAt Try.f45 [1, 1, 1, 1, 0]) false) (.seq (.region 9 (opsAt Try.f45 [1, 1, 1, 1, 1, 0]) false) .ret))))))
theorem F45_body : Try.f45.body = some F45_code := by kernel_rfl
theorem F45_ok (x0 : Option Addr) (hp : HP) (K : Value → HP → Prop) (h : F45 x0 hp K) : CF Try.prog 45 [(Value.pointer x0)] hp K := by
 refine .inl ⟨by kernel_rfl, AC.intro (N := 24) Try.func45 F45_body rfl (Nat.le_of_ble_eq_true rfl) ?_⟩
 unfold F45 at h
 unfold F45_code
 refine AWP.seq' ?_
 refine AWP.rgn (F45_r0 E0 x0 hp _) ?_ (Rv 0 _ (Rn)) (Sc rfl (Sn)) (Sn)
 refine fun b_1 hb_b_1 => ?_
 replace h := h b_1 hb_b_1
 refine AWP.seq' ?_
 refine AWP.seq' ?_
 refine AWP.rgn (F45_r1 E0 (some ⟨b_1, 0, none⟩) (HP.set hp b_1 (.cells 69 [(Value.pointer x0)] 0)) _) ?_ (Rv 1 _ (Rn)) (Sc rfl (Sn)) (Sn)
 refine ptrN_mono h (fun b_2 o_3 h => ?_)
 refine ldV_mono h (fun v_4 h => ?_)
 refine ptrV_mono h (fun p_5 h => ?_)
 refine AWP.cond (t := (Option.isNone p_5)) rfl (fun e => ?_) (fun e => ?_)
 ·replace h := ite2_t h e
  refine AWP.seq' ?_
  refine AWP.rgn (F45_r2 E0  (HP.set hp b_1 (.cells 69 [(Value.pointer x0)] 0)) _) ?_ (Rn) (Sn) (Sn)
  refine AWP.ret ?_
  exact h
 ·replace h := ite2_f h e
  refine AWP.skip ?_
  refine AWP.seq' ?_
  refine AWP.rgn (F45_r3 (upd E0 1 (sV (Value.pointer (some ⟨b_1, 0, none⟩))))  (HP.set hp b_1 (.cells 69 [(Value.pointer x0)] 0)) _) ?_ (Rv 1 _ (Rn)) (Sc rfl (Sn)) (Sn)
  refine AWP.seq (fun env pv hp => ∃ (x1 : Option Addr) (x3a : Option Addr) (x3n : Nat) (x3c : Nat), Sub (upd (upd E0 3 (sV (Value.slice x3a x3n x3c))) 1 (sV (Value.pointer x1))) env ∧ Sub V0 pv ∧ (F45_j1 x1 x3a x3n x3c hp  K)) ?_ ?_
  ·refine AWP.seq (fun env pv hp => ∃ (x1 : Option Addr) (x3a : Option Addr) (x3n : Nat) (x3c : Nat) (x11 : Value), Sub (upd (upd (upd E0 11 (sV x11)) 3 (sV (Value.slice x3a x3n x3c))) 1 (sV (Value.pointer x1))) env ∧ Sub V0 pv ∧ (F45_j2 x1 x3a x3n x3c x11 hp  K)) ?_ ?_
   ·refine AWP.rgn (F45_r9 (upd E0 3 (sV (Value.slice none 0 0))) (some ⟨b_1, 0, none⟩) (HP.set hp b_1 (.cells 69 [(Value.pointer x0)] 0)) _) ?_ (Rv 1 _ (Rv 3 _ (Rn))) (Sc rfl (Sc rfl (Sn))) (Sn)
    refine ptrN_mono h (fun b_22 o_23 h => ?_)
    refine ldV_mono h (fun v_24 h => ?_)
    refine ptrV_mono h (fun p_25 h => ?_)
    refine ptrN_mono h (fun b_26 o_27 h => ?_)
    refine ldV_mono h (fun v_28 h => ?_)
    refine mapV_mono h (fun m_29 h => ?_)
    refine opS_mono h (fun u_30 h_31 h => ?_)
    exact ⟨(some ⟨b_1, 0, none⟩), none, 0, 0, u_30, (Sc rfl (Sc rfl (Sc rfl (Sn)))), (Sn), h⟩
   ·rintro env pv hp ⟨x1, x3a, x3n, x3c, x11, he, hv, h⟩
    refine AWP.sub (env' := (upd (upd (upd E0 11 (sV x11)) 3 (sV (Value.slice x3a x3n x3c))) 1 (sV (Value.pointer x1)))) (pv' := V0) ?_ (Rv 1 _ (Rv 3 _ (Rv 11 _ (Rn)))) he hv (HSub.refl _)
    clear he hv
    unfold F45_j2 at h
    refine AWP.block ?_
    refine AWP.loop (σ := (Option Addr) × Nat × Nat) (fun I s hp => F45_l3 x1 x11  K I s.1 s.2.1 s.2.2 hp) (fun s => (upd (upd (upd E0 11 (sV x11)) 3 (sV (Value.slice s.1 s.2.1 s.2.2))) 1 (sV (Value.pointer x1)))) (fun s => V0) (x3a, x3n, x3c) h (fun s => (Rv 1 _ (Rv 3 _ (Rv 11 _ (Rn))))) (Sc rfl (Sc rfl (Sc rfl (Sn)))) (Sn) ?_
    intro I3 s hp h
    obtain ⟨x3a, x3n, x3c⟩ := s
    replace h : F45_l3 x1 x11  K I3 x3a x3n x3c hp := h
    unfold F45_l3 at h
    refine AWP.seq' ?_
    refine AWP.rgn (F45_r6 (upd (upd E0 3 (sV (Value.slice x3a x3n x3c))) 1 (sV (Value.pointer x1))) x11 hp _) ?_ (Rv 11 _ (Rv 1 _ (Rv 3 _ (Rn)))) (Sc rfl (Sc rfl (Sc rfl (Sn)))) (Sn)
    refine opS_mono h (fun u_8 h_9 h => ?_)
    refine tupI_mono h (fun v_10 h => ?_)
    refine boolV_mono h (fun q_11 h => ?_)
    refine AWP.seq' ?_
    refine AWP.cond (t := q_11) rfl (fun e => ?_) (fun e => ?_)
    ·replace h := ite2_t h e
     refine AWP.skip ?_
     refine AWP.block ?_
     refine AWP.seq' ?_
     refine AWP.rgn (F45_r7 (upd (upd E0 3 (sV (Value.slice x3a x3n x3c))) 1 (sV (Value.pointer x1))) x11 h_9 _) ?_ (Rv 11 _ (Rv 1 _ (Rv 3 _ (Rn)))) (Sc rfl (Sc rfl (Sc rfl (Sn)))) (Sn)
     refine rdS_mono h (fun u_12 h => ?_)
     refine tupI_mono h (fun v_13 h => ?_)
     refine aggV_mono h (fun l_14 h => ?_)
     refine if_mono h (fun h => ?_)
     refine if_mono h (fun h => ?_)
     refine if_mono h (fun h => ?_)
     refine AWP.rgn (F45_r8 (upd (upd E0 11 (sV x11)) 1 (sV (Value.pointer x1))) x3a x3n x3c (splice [(Value.int .u8 0), (Value.int .u8 0), (Value.int .u8 0), (Value.int .u8 0), (Value.int .i64 0)] 0 l_14) h_9 _) ?_ (Rv 3 _ (RefOk.p 4 4 0 (Rv 1 _ (Rv 11 _ (Rn))) (fun e => by cases e))) (Sc rfl (Sc rfl (Sc rfl (Sc rfl (Sn))))) (Sc rfl (Sn))
     refine ldL_mono h (fun l_15 h => ?_)
     refine if_mono h (fun h => ?_)
     refine fun b_16 hb_b_16 => ?_
     replace h := h b_16 hb_b_16
     refine opS_mono h (fun u_17 h_18 h => ?_)
     refine slcV_mono h (fun a_19 n_20 c_21 h => ?_)
     exact ⟨(a_19, n_20, c_21), (Sc rfl (Sc rfl (Sc rfl (Sn)))), (Sn), h⟩
    ·replace h := ite2_f h e
     refine AWP.exit ?_
     exact ⟨x1, x3a, x3n, x3c, (Sc rfl (Sc rfl (Sn))), (Sn), h⟩
  ·rintro env pv hp ⟨x1, x3a, x3n, x3c, he, hv, h⟩
   refine AWP.sub (env' := (upd (upd E0 3 (sV (Value.slice x3a x3n x3c))) 1 (sV (Value.pointer x1)))) (pv' := V0) ?_ (Rv 1 _ (Rv 3 _ (Rn))) he hv (HSub.refl _)
   clear he hv
   unfold F45_j1 at h
   refine AWP.seq' ?_
   refine AWP.rgn (F45_r4 E0 x1 x3a x3n x3c hp _) ?_ (Rv 1 _ (Rv 3 _ (Rn))) (Sc rfl (Sc rfl (Sn))) (Sn)
   refine CF_mono h (fun u_6 h_7 h => ?_)
   refine AWP.seq' ?_
   refine AWP.rgn (F45_r5 E0 x3a x3n x3c h_7 _) ?_ (Rv 3 _ (Rn)) (Sc rfl (Sn)) (Sn)
   refine AWP.ret ?_
   exact h
-- 49 (*interpreter/pool.Pool).Give
theorem F49_r0 (e : Env) (x1 : List Value) (hp : HP) (K : Env → PV → HP → Prop) : RW Try.prog 33 [3] (opsAt Try.f49 [0]) (List.range 2) (upd e 1 (sV (Value.agg ⟨x1⟩))) V0 hp K =
    (K (upd (upd (upd e 1 (sV (Value.agg ⟨x1⟩))) 3 (SV.priv 3 0)) 4 (sI (0))) (upd V0 3 (75, x1)) hp) := by kernel_rfl
theorem F49_r1 (e : Env) (x0 : Option Addr) (k3 : List Value) (hp : HP) (K : Env → PV → HP → Prop) : RW Try.prog 33 [3] (opsAt Try.f49 [1, 0, 0]) (List.range 4) (upd (upd e 3 (SV.priv 3 0)) 0 (sV (Value.pointer x0))) (upd V0 3 (75, k3)) hp K =
    (ldL (cellsN k3 0 5) fun l1 => (CF Try.prog 100 [(Value.pointer x0), (Value.agg ⟨l1⟩)] hp fun u2 h3 => (intV u2 .i64 fun i4 => (K (upd (upd (upd (upd (upd (upd e 3 (SV.priv 3 0)) 0 (sV (Value.pointer x0))) 8 (sV (Value.pointer x0))) 9 (sV (Value.agg ⟨l1⟩))) 10 (sI (i4))) 5 (sI (i4))) (upd V0 3 (75, k3)) h3)))) := by kernel_rfl
theorem F49_r2 (e : Env) (x5 : Int) (k3 : List Value) (hp : HP) (K : Env → PV → HP → Prop) : RW Try.prog 33 [3] (opsAt Try.f49 [1, 0, 1, 0]) (List.range 2) (upd e 5 (sI (x5))) (upd V0 3 (75, k3)) hp K =
    (K (upd (upd (upd e 5 (sI (x5))) 11 (sI (x5))) 12 (sB (((x5 : Int) != 0)))) (upd V0 3 (75, k3)) hp) := by kernel_rfl
theorem F49_r3 (e : Env) (x5 : Int) (hp : HP) (K : Env → PV → HP → Prop) : RW Try.prog 33 [3] (opsAt Try.f49 [1, 0, 1, 1, 0, 0]) (List.range 2) (upd e 5 (sI (x5))) V0 hp K =
    (K (upd (upd (upd e 5 (sI (x5))) 13 (sI (x5))) 4 (sI (x5))) V0 hp) := by kernel_rfl
theorem F49_r4 (e : Env) (x0 : Option Addr) (k3 : List Value) (hp : HP) (K : Env → PV → HP → Prop) : RW Try.prog 33 [3] (opsAt Try.f49 [1, 1, 0]) (List.range 11) (upd (upd e 3 (SV.priv 3 0)) 0 (sV (Value.pointer x0))) (upd V0 3 (75, k3)) hp K =
    (ptrN x0 fun b1 o2 => (ldV (HP.cell hp b1 (o2 + 3)) fun v3 => (mapV v3 fun m4 => (ldL (cellsN k3 0 5) fun l5 => (rdS Try.prog (Instr.lookup 158 (Value.map m4) (Value.agg ⟨l5⟩) true) hp fun u6 => (tup2V u6 fun u7 u8 => (boolV u7 fun q9 => (boolV u8 fun q10 => (K (upd (upd (upd (upd (upd (upd (upd (upd (upd (upd (upd (upd (upd e 3 (SV.priv 3 0)) 0 (sV (Value.pointer x0))) 15 (sV (Value.pointer x0))) 16 (sV (ptr b1 o2))) 17 (sV (ptr b1 (o2 + 3)))) 18 (sV (Value.map m4))) 19 (sV (Value.agg ⟨l5⟩))) 20 (sV (Value.tuple ⟨[(Value.bool q9), (Value.bool q10)]⟩))) 14 (sV (Value.tuple ⟨[(Value.bool q9), (Value.bool q10)]⟩))) 21 (sB (q9))) 22 (sB (q10))) 6 (sB (q9))) 7 (sB (q10))) (upd V0 3 (75, k3)) hp))))))))) := by kernel_rfl
theorem F49_r5 (e : Env) (x6 : Bool) (k3 : List Value) (hp : HP) (K : Env → PV → HP → Prop) : RW Try.prog 33 [3] (opsAt Try.f49 [1, 1, 1, 0, 0, 0]) (List.range 2) (upd e 6 (sB (x6))) (upd V0 3 (75, k3)) hp K =
    (K (upd (upd (upd e 6 (sB (x6))) 24 (sB (x6))) 23 (sB (x6))) (upd V0 3 (75, k3)) hp) := by kernel_rfl
theorem F49_r6 (e : Env) (hp : HP) (K : Env → PV → HP → Prop) : RW Try.prog 33 [3] (opsAt Try.f49 [1, 1, 1, 0, 0, 1, 0, 0]) (List.range 1) e V0 hp K =
    (K (upd e 4 (sI (11))) V0 hp) := by kernel_rfl
theorem F49_r7 (e : Env) (x7 : Bool) (k3 : List Value) (hp : HP) (K : Env → PV → HP → Prop) : RW Try.prog 33 [3] (opsAt Try.f49 [1, 1, 1, 0, 0, 1, 1, 0]) (List.range 3) (upd e 7 (sB (x7))) (upd V0 3 (75, k3)) hp K =
    (K (upd (upd (upd (upd e 7 (sB (x7))) 26 (sB (x7))) 27 (sB ((!x7)))) 25 (sB ((!x7)))) (upd V0 3 (75, k3)) hp) := by kernel_rfl
theorem F49_r8 (e : Env) (hp : HP) (K : Env → PV → HP → Prop) : RW Try.prog 33 [3] (opsAt Try.f49 [1, 1, 1, 0, 0, 1, 1, 1, 0, 0]) (List.range 1) e V0 hp K =
    (K (upd e 4 (sI (4))) V0 hp) := by kernel_rfl
theorem F49_r9 (e : Env) (x0 : Option Addr) (k3 : List Value) (hp : HP) (K : Env → PV → HP → Prop) : RW Try.prog 33 [3] (opsAt Try.f49 [1, 1, 1, 1, 0]) (List.range 6) (upd (upd e 3 (SV.priv 3 0)) 0 (sV (Value.pointer x0))) (upd V0 3 (75, k3)) hp K =
    (ptrN x0 fun b1 o2 => (ldV (HP.cell hp b1 (o2 + 3)) fun v3 => (mapV v3 fun m4 => (ldL (cellsN k3 0 5) fun l5 => (opS Try.prog (Builtin.delete_ #[158, 75] 0 ⟨[(Value.map m4), (Value.agg ⟨l5⟩)]⟩) hp fun u6 h7 => (K (upd (upd (upd (upd (upd (upd (upd e 3 (SV.priv 3 0)) 0 (sV (Value.pointer x0))) 28 (sV (Value.pointer x0))) 29 (sV (ptr b1 o2))) 30 (sV (ptr b1 (o2 + 3)))) 31 (sV (Value.map m4))) 32 (sV (Value.agg ⟨l5⟩))) (upd V0 3 (75, k3)) h7)))))) := by kernel_rfl
theorem F49_r10 (e : Env) (hp : HP) (K : Env → PV → HP → Prop) : RW Try.prog 33 [3] (opsAt Try.f49 [1, 1, 1, 1, 1, 0]) (List.range 1) e V0 hp K =
    (K (upd e 4 (sI (0))) V0 hp) := by kernel_rfl
def F49 (x0 : Option Addr) (x1 : List Value) (hp : HP) (K : Value → HP → Prop) : Prop :=
  (ldL (cellsN x1 0 5) fun l_1 => (CF Try.prog 100 [(Value.pointer x0), (Value.agg ⟨l_1⟩)] hp fun u_2 h_3 => (intV u_2 .i64 fun i_4 => (ite2 ((i_4 : Int) != 0) (K (Value.int .i64 i_4) h_3) (ptrN x0 fun b_5 o_6 => (ldV (HP.cell h_3 b_5 (o_6 + 3)) fun v_7 => (mapV v_7 fun m_8 => (ldL (cellsN x1 0 5) fun l_9 => (rdS Try.prog (Instr.lookup 158 (Value.map m_8) (Value.agg ⟨l_9⟩) true) h_3 fun u_10 => (tup2V u_10 fun u_11 u_12 => (boolV u_11 fun q_13 => (boolV u_12 fun q_14 => (ite2 q_13 (K (Value.int .i64 11) h_3) (ite2 (!q_14) (K (Value.int .i64 4) h_3) (ptrN x0 fun b_15 o_16 => (ldV (HP.cell h_3 b_15 (o_16 + 3)) fun v_17 => (mapV v_17 fun m_18 => (ldL (cellsN x1 0 5) fun l_19 => (opS Try.prog (Builtin.delete_ #[158, 75] 0 ⟨[(Value.map m_18), (Value.agg ⟨l_19⟩)]⟩) h_3 fun u_20 h_21 => (K (Value.int .i64 0) h_21))))))))))))))))))))
noncomputable def F49_code : Code := (.seq (.region 0 (opsAt Try.f49 [0]) false) (.seq (.seq (.region 1 (opsAt Try.f49 [1, 0, 0]) false) (.seq (.region 2 (opsAt Try.f49 [1, 0, 1, 0]) false) (.cond (.tmp 12) (.seq (.region 3 (opsAt Try.f49 [1, 0, 1, 1, 0, 0]) false) .ret) .skip))) (.seq (.region 4 (opsAt Try.f49 [1, 1, 0]) true) (.seq (.block 0 (.seq (.region 5 (opsAt Try.f49 [1, 1, 1, 0, 0, 0]) false) (.cond (.tmp 23) (.seq (.region 6 (opsAt Try.f49 [1, 1, 1, 0, 0, 1, 0, 0]) false) .ret) (.seq (.region 7 (opsAt Try.f49 [1, 1, 1, 0, 0, 1, 1, 0]) false) (.cond (.tmp 25) (.seq (.region 8 (opsAt Try.f49 [1, 1, 1, 0, 0, 1, 1, 1, 0, 0]) false) .ret) .skip))))) (.seq (.region 9 (opsAt Try.f49 [1, 1, 1, 1, 0]) true) (.seq (.region 10 (opsAt Try.f49 [1, 1, 1, 1, 1, 0]) false) .ret))))))
theorem F49_body : Try.f49.body = some F49_code := by kernel_rfl
theorem F49_ok (x0 : Option Addr) (x1 : List Value) (hp : HP) (K : Value → HP → Prop) (h : F49 x0 x1 hp K) : CF Try.prog 49 [(Value.pointer x0), (Value.agg ⟨x1⟩)] hp K := by
 refine .inl ⟨by kernel_rfl, AC.intro (N := 33) Try.func49 F49_body rfl (Nat.le_of_ble_eq_true rfl) ?_⟩
 unfold F49 at h
 unfold F49_code
 refine AWP.seq' ?_
 refine AWP.rgn (F49_r0 (upd E0 0 (sV (Value.pointer x0))) x1 hp _) ?_ (Rv 1 _ (Rv 0 _ (Rn))) (Sc rfl (Sc rfl (Sn))) (Sn)
 refine AWP.seq' ?_
 refine AWP.seq' ?_
 refine AWP.rgn (F49_r1 E0 x0 x1 hp _) ?_ (Rv 0 _ (RefOk.p 3 3 0 (Rn) (fun e => by cases e))) (Sc rfl (Sc rfl (Sn))) (Sc rfl (Sn))
 refine ldL_mono h (fun l_1 h => ?_)
 refine CF_mono h (fun u_2 h_3 h => ?_)
 refine intV_mono h (fun i_4 h => ?_)
 refine AWP.seq' ?_
 refine AWP.rgn (F49_r2 (upd (upd E0 3 (SV.priv 3 0)) 0 (sV (Value.pointer x0))) i_4 x1 h_3 _) ?_ (Rv 5 _ (Rv 0 _ (RefOk.p 3 3 0 (Rn) (fun e => by cases e)))) (Sc rfl (Sc rfl (Sc rfl (Sn)))) (Sc rfl (Sn))
 refine AWP.cond (t := ((i_4 : Int) != 0)) rfl (fun e => ?_) (fun e => ?_)
 ·replace h := ite2_t h e
  refine AWP.seq' ?_
  refine AWP.rgn (F49_r3 E0 i_4 h_3 _) ?_ (Rv 5 _ (Rn)) (Sc rfl (Sn)) (Sn)
  refine AWP.ret ?_
  exact h
 ·replace h := ite2_f h e
  refine AWP.skip ?_
  refine AWP.seq' ?_
  refine AWP.rgnD (by kernel_rfl) (by kernel_rfl) (F49_r4 E0 x0 x1 h_3 _) ?_ (Rv 0 _ (RefOk.p 3 3 0 (Rn) (fun e => by cases e))) (Sc rfl (Sc rfl (Sn))) (Sc rfl (Sn))
  refine ptrN_mono h (fun b_5 o_6 h => ?_)
  refine ldV_mono h (fun v_7 h => ?_)
  refine mapV_mono h (fun m_8 h => ?_)
  refine ldL_mono h (fun l_9 h => ?_)
  refine rdS_mono h (fun u_10 h => ?_)
  refine tup2V_mono h (fun u_11 u_12 h => ?_)
  refine boolV_mono h (fun q_13 h => ?_)
  refine boolV_mono h (fun q_14 h => ?_)
  refine AWP.seq' ?_
  refine AWP.block ?_
  refine AWP.seq' ?_
  refine AWP.rgn (F49_r5 (upd (upd (upd E0 7 (sB (q_14))) 3 (SV.priv 3 0)) 0 (sV (Value.pointer x0))) q_13 x1 h_3 _) ?_ (Rv 6 _ (Rv 0 _ (RefOk.p 3 3 0 (Rv 7 _ (Rn)) (fun e => by cases e)))) (Sc rfl (Sc rfl (Sc rfl (Sc rfl (Sn))))) (Sc rfl (Sn))
  refine AWP.cond (t := q_13) rfl (fun e => ?_) (fun e => ?_)
  ·replace h := ite2_t h e
   refine AWP.seq' ?_
   refine AWP.rgn (F49_r6 E0  h_3 _) ?_ (Rn) (Sn) (Sn)
   refine AWP.ret ?_
   exact h
  ·replace h := ite2_f h e
   refine AWP.seq' ?_
   refine AWP.rgn (F49_r7 (upd (upd E0 3 (SV.priv 3 0)) 0 (sV (Value.pointer x0))) q_14 x1 h_3 _) ?_ (Rv 7 _ (Rv 0 _ (RefOk.p 3 3 0 (Rn) (fun e => by cases e)))) (Sc rfl (Sc rfl (Sc rfl (Sn)))) (Sc rfl (Sn))
   refine AWP.cond (t := (!q_14)) rfl (fun e => ?_) (fun e => ?_)
   ·replace h := ite2_t h e
    refine AWP.seq' ?_
    refine AWP.rgn (F49_r8 E0  h_3 _) ?_ (Rn) (Sn) (Sn)
    refine AWP.ret ?_
    exact h
   ·replace h := ite2_f h e
    refine AWP.skip ?_
    refine AWP.seq' ?_
    refine AWP.rgnD (by kernel_rfl) (by kernel_rfl) (F49_r9 E0 x0 x1 h_3 _) ?_ (Rv 0 _ (RefOk.p 3 3 0 (Rn) (fun e => by cases e))) (Sc rfl (Sc rfl (Sn))) (Sc rfl (Sn))
    refine ptrN_mono h (fun b_15 o_16 h => ?_)
    refine ldV_mono h (fun v_17 h => ?_)
    refine mapV_mono h (fun m_18 h => ?_)
    refine ldL_mono h (fun l_19 h => ?_)
    refine opS_mono h (fun u_20 h_21 h => ?_)
    refine AWP.seq' ?_
    refine AWP.rgn (F49_r10 E0  h_21 _) ?_ (Rn) (Sn) (Sn)
    refine AWP.ret ?_
    exact h
-- 50 (*interpreter/pool.Pool).Reserve
theorem F50_r0 (e : Env) (x1 : List Value) (hp : HP) (K : Env → PV → HP → Prop) : RW Try.prog 29 [3] (opsAt Try.f50 [0]) (List.range 2) (upd e 1 (sV (Value.agg ⟨x1⟩))) V0 hp K =
    (K (upd (upd (upd e 1 (sV (Value.agg ⟨x1⟩))) 3 (SV.priv 3 0)) 4 (sI (0))) (upd V0 3 (75, x1)) hp) := by kernel_rfl
theorem F50_r1 (e : Env) (x0 : Option Addr) (k3 : List Value) (hp : HP) (K : Env → PV → HP → Prop) : RW Try.prog 29 [3] (opsAt Try.f50 [1, 0, 0]) (List.range 4) (upd (upd e 3 (SV.priv 3 0)) 0 (sV (Value.pointer x0))) (upd V0 3 (75, k3)) hp K =
    (ldL (cellsN k3 0 5) fun l1 => (CF Try.prog 100 [(Value.pointer x0), (Value.agg ⟨l1⟩)] hp fun u2 h3 => (intV u2 .i64 fun i4 => (K (upd (upd (upd (upd (upd (upd e 3 (SV.priv 3 0)) 0 (sV (Value.pointer x0))) 8 (sV (Value.pointer x0))) 9 (sV (Value.agg ⟨l1⟩))) 10 (sI (i4))) 5 (sI (i4))) (upd V0 3 (75, k3)) h3)))) := by kernel_rfl
theorem F50_r2 (e : Env) (x5 : Int) (k3 : List Value) (hp : HP) (K : Env → PV → HP → Prop) : RW Try.prog 29 [3] (opsAt Try.f50 [1, 0, 1, 0]) (List.range 2) (upd e 5 (sI (x5))) (upd V0 3 (75, k3)) hp K =
    (K (upd (upd (upd e 5 (sI (x5))) 11 (sI (x5))) 12 (sB (((x5 : Int) != 0)))) (upd V0 3 (75, k3)) hp) := by kernel_rfl
theorem F50_r3 (e : Env) (x5 : Int) (hp : HP) (K : Env → PV → HP → Prop) : RW Try.prog 29 [3] (opsAt Try.f50 [1, 0, 1, 1, 0, 0]) (List.range 2) (upd e 5 (sI (x5))) V0 hp K =
    (K (upd (upd (upd e 5 (sI (x5))) 13 (sI (x5))) 4 (sI (x5))) V0 hp) := by kernel_rfl
theorem F50_r4 (e : Env) (x0 : Option Addr) (k3 : List Value) (hp : HP) (K : Env → PV → HP → Prop) : RW Try.prog 29 [3] (opsAt Try.f50 [1, 1, 0, 0]) (List.range 11) (upd (upd e 3 (SV.priv 3 0)) 0 (sV (Value.pointer x0))) (upd V0 3 (75, k3)) hp K =
    (ptrN x0 fun b1 o2 => (ldV (HP.cell hp b1 (o2 + 3)) fun v3 => (mapV v3 fun m4 => (ldL (cellsN k3 0 5) fun l5 => (rdS Try.prog (Instr.lookup 158 (Value.map m4) (Value.agg ⟨l5⟩) true) hp fun u6 => (tup2V u6 fun u7 u8 => (boolV u7 fun q9 => (boolV u8 fun q10 => (K (upd (upd (upd (upd (upd (upd (upd (upd (upd (upd (upd (upd (upd e 3 (SV.priv 3 0)) 0 (sV (Value.pointer x0))) 15 (sV (Value.pointer x0))) 16 (sV (ptr b1 o2))) 17 (sV (ptr b1 (o2 + 3)))) 18 (sV (Value.map m4))) 19 (sV (Value.agg ⟨l5⟩))) 20 (sV (Value.tuple ⟨[(Value.bool q9), (Value.bool q10)]⟩))) 14 (sV (Value.tuple ⟨[(Value.bool q9), (Value.bool q10)]⟩))) 21 (sB (q9))) 22 (sB (q10))) 6 (sB (q9))) 7 (sB (q10))) (upd V0 3 (75, k3)) hp))))))))) := by kernel_rfl
theorem F50_r5 (e : Env) (x7 : Bool) (k3 : List Value) (hp : HP) (K : Env → PV → HP → Prop) : RW Try.prog 29 [3] (opsAt Try.f50 [1, 1, 0, 1, 0]) (List.range 1) (upd e 7 (sB (x7))) (upd V0 3 (75, k3)) hp K =
    (K (upd (upd e 7 (sB (x7))) 23 (sB (x7))) (upd V0 3 (75, k3)) hp) := by kernel_rfl
theorem F50_r6 (e : Env) (hp : HP) (K : Env → PV → HP → Prop) : RW Try.prog 29 [3] (opsAt Try.f50 [1, 1, 0, 1, 1, 0, 0]) (List.range 1) e V0 hp K =
    (K (upd e 4 (sI (5))) V0 hp) := by kernel_rfl
theorem F50_r7 (e : Env) (x0 : Option Addr) (k3 : List Value) (hp : HP) (K : Env → PV → HP → Prop) : RW Try.prog 29 [3] (opsAt Try.f50 [1, 1, 1, 0]) (List.range 6) (upd (upd e 3 (SV.priv 3 0)) 0 (sV (Value.pointer x0))) (upd V0 3 (75, k3)) hp K =
    (ptrN x0 fun b1 o2 => (ldV (HP.cell hp b1 (o2 + 3)) fun v3 => (mapV v3 fun m4 => (ldL (cellsN k3 0 5) fun l5 => (opS Try.prog (Instr.mapUpdate 158 (Value.map m4) (Value.agg ⟨l5⟩) (Value.bool true)) hp fun u6 h7 => (K (upd (upd (upd (upd (upd (upd (upd e 3 (SV.priv 3 0)) 0 (sV (Value.pointer x0))) 24 (sV (Value.pointer x0))) 25 (sV (ptr b1 o2))) 26 (sV (ptr b1 (o2 + 3)))) 27 (sV (Value.map m4))) 28 (sV (Value.agg ⟨l5⟩))) (upd V0 3 (75, k3)) h7)))))) := by kernel_rfl
theorem F50_r8 (e : Env) (hp : HP) (K : Env → PV → HP → Prop) : RW Try.prog 29 [3] (opsAt Try.f50 [1, 1, 1, 1, 0]) (List.range 1) e V0 hp K =
    (K (upd e 4 (sI (0))) V0 hp) := by kernel_rfl
def F50 (x0 : Option Addr) (x1 : List Value) (hp : HP) (K : Value → HP → Prop) : Prop :=
  (ldL (cellsN x1 0 5) fun l_1 => (CF Try.prog 100 [(Value.pointer x0), (Value.agg ⟨l_1⟩)] hp fun u_2 h_3 => (intV u_2 .i64 fun i_4 => (ite2 ((i_4 : Int) != 0) (K (Value.int .i64 i_4) h_3) (ptrN x0 fun b_5 o_6 => (ldV (HP.cell h_3 b_5 (o_6 + 3)) fun v_7 => (mapV v_7 fun m_8 => (ldL (cellsN x1 0 5) fun l_9 => (rdS Try.prog (Instr.lookup 158 (Value.map m_8) (Value.agg ⟨l_9⟩) true) h_3 fun u_10 => (tup2V u_10 fun u_11 u_12 => (boolV u_11 fun q_13 => (boolV u_12 fun q_14 => (ite2 q_14 (K (Value.int .i64 5) h_3) (ptrN x0 fun b_15 o_16 => (ldV (HP.cell h_3 b_15 (o_16 + 3)) fun v_17 => (mapV v_17 fun m_18 => (ldL (cellsN x1 0 5) fun l_19 => (opS Try.prog (Instr.mapUpdate 158 (Value.map m_18) (Value.agg ⟨l_19⟩) (Value.bool true)) h_3 fun u_20 h_21 => (K (Value.int .i64 0) h_21)))))))))))))))))))
noncomputable def F50_code : Code := (.seq (.region 0 (opsAt Try.f50 [0]) false) (.seq (.seq (.region 1 (opsAt Try.f50 [1, 0, 0]) false) (.seq (.region 2 (opsAt Try.f50 [1, 0, 1, 0]) false) (.cond (.tmp 12) (.seq (.region 3 (opsAt Try.f50 [1, 0, 1, 1, 0, 0]) false) .ret) .skip))) (.seq (.seq (.region 4 (opsAt Try.f50 [1, 1, 0, 0]) true) (.seq (.region 5 (opsAt Try.f50 [1, 1, 0, 1, 0]) false) (.cond (.tmp 23) (.seq (.region 6 (opsAt Try.f50 [1, 1, 0, 1, 1, 0, 0]) false) .ret) .skip))) (.seq (.region 7 (opsAt Try.f50 [1, 1, 1, 0]) true) (.seq (.region 8 (opsAt Try.f50 [1, 1, 1, 1, 0]) false) .ret)))))
theorem F50_body : Try.f50.body = some F50_code := by kernel_rfl
theorem F50_ok (x0 : Option Addr) (x1 : List Value) (hp : HP) (K : Value → HP → Prop) (h : F50 x0 x1 hp K) : CF Try.prog 50 [(Value.pointer x0), (Value.agg ⟨x1⟩)] hp K := by
 refine .inl ⟨by kernel_rfl, AC.intro (N := 29) Try.func50 F50_body rfl (Nat.le_of_ble_eq_true rfl) ?_⟩
 unfold F50 at h
 unfold F50_code
 refine AWP.seq' ?_
 refine AWP.rgn (F50_r0 (upd E0 0 (sV (Value.pointer x0))) x1 hp _) ?_ (Rv 1 _ (Rv 0 _ (Rn))) (Sc rfl (Sc rfl (Sn))) (Sn)
 refine AWP.seq' ?_
 refine AWP.seq' ?_
 refine AWP.rgn (F50_r1 E0 x0 x1 hp _) ?_ (Rv 0 _ (RefOk.p 3 3 0 (Rn) (fun e => by cases e))) (Sc rfl (Sc rfl (Sn))) (Sc rfl (Sn))
 refine ldL_mono h (fun l_1 h => ?_)
 refine CF_mono h (fun u_2 h_3 h => ?_)
 refine intV_mono h (fun i_4 h => ?_)
 refine AWP.seq' ?_
 refine AWP.rgn (F50_r2 (upd (upd E0 3 (SV.priv 3 0)) 0 (sV (Value.pointer x0))) i_4 x1 h_3 _) ?_ (Rv 5 _ (Rv 0 _ (RefOk.p 3 3 0 (Rn) (fun e => by cases e)))) (Sc rfl (Sc rfl (Sc rfl (Sn)))) (Sc rfl (Sn))
 refine AWP.cond (t := ((i_4 : Int) != 0)) rfl (fun e => ?_) (fun e => ?_)
 ·replace h := ite2_t h e
  refine AWP.seq' ?_
  refine AWP.rgn (F50_r3 E0 i_4 h_3 _) ?_ (Rv 5 _ (Rn)) (Sc rfl (Sn)) (Sn)
  refine AWP.ret ?_
  exact h
 ·replace h := ite2_f h e
  refine AWP.skip ?_
  refine AWP.seq' ?_
  refine AWP.seq' ?_
  refine AWP.rgnD (by kernel_rfl) (by kernel_rfl) (F50_r4 E0 x0 x1 h_3 _) ?_ (Rv 0 _ (RefOk.p 3 3 0 (Rn) (fun e => by cases e))) (Sc rfl (Sc rfl (Sn))) (Sc rfl (Sn))
  refine ptrN_mono h (fun b_5 o_6 h => ?_)
  refine ldV_mono h (fun v_7 h => ?_)
  refine mapV_mono h (fun m_8 h => ?_)
  refine ldL_mono h (fun l_9 h => ?_)
  refine rdS_mono h (fun u_10 h => ?_)
  refine tup2V_mono h (fun u_11 u_12 h => ?_)
  refine boolV_mono h (fun q_13 h => ?_)
  refine boolV_mono h (fun q_14 h => ?_)
  refine AWP.seq' ?_
  refine AWP.rgn (F50_r5 (upd (upd E0 3 (SV.priv 3 0)) 0 (sV (Value.pointer x0))) q_14 x1 h_3 _) ?_ (Rv 7 _ (Rv 0 _ (RefOk.p 3 3 0 (Rn) (fun e => by cases e)))) (Sc rfl (Sc rfl (Sc rfl (Sn)))) (Sc rfl (Sn))
  refine AWP.cond (t := q_14) rfl (fun e => ?_) (fun e => ?_)
  ·replace h := ite2_t h e
   refine AWP.seq' ?_
   refine AWP.rgn (F50_r6 E0  h_3 _) ?_ (Rn) (Sn) (Sn)
   refine AWP.ret ?_
   exact h
  ·replace h := ite2_f h e
   refine AWP.skip ?_
   refine AWP.seq' ?_
   refine AWP.rgnD (by kernel_rfl) (by kernel_rfl) (F50_r7 E0 x0 x1 h_3 _) ?_ (Rv 0 _ (RefOk.p 3 3 0 (Rn) (fun e => by cases e))) (Sc rfl (Sc rfl (Sn))) (Sc rfl (Sn))
   refine ptrN_mono h (fun b_15 o_16 h => ?_)
   refine ldV_mono h (fun v_17 h => ?_)
   refine mapV_mono h (fun m_18 h => ?_)
   refine ldL_mono h (fun l_19 h => ?_)
   refine opS_mono h (fun u_20 h_21 h => ?_)
   refine AWP.seq' ?_
   refine AWP.rgn (F50_r8 E0  h_21 _) ?_ (Rn) (Sn) (Sn)
   refine AWP.ret ?_
   exact h
-- 51 (*interpreter/pool.Pool).Release
theorem F51_r0 (e : Env) (x1 : List Value) (hp : HP) (K : Env → PV → HP → Prop) : RW Try.prog 24 [3] (opsAt Try.f51 [0]) (List.range 2) (upd e 1 (sV (Value.agg ⟨x1⟩))) V0 hp K =
    (K (upd (upd (upd e 1 (sV (Value.agg ⟨x1⟩))) 3 (SV.priv 3 0)) 4 (sI (0))) (upd V0 3 (75, x1)) hp) := by kernel_rfl
theorem F51_r1 (e : Env) (x0 : Option Addr) (k3 : List Value) (hp : HP) (K : Env → PV → HP → Prop) : RW Try.prog 24 [3] (opsAt Try.f51 [1, 0, 0]) (List.range 4) (upd (upd e 3 (SV.priv 3 0)) 0 (sV (Value.pointer x0))) (upd V0 3 (75, k3)) hp K =
    (ldL (cellsN k3 0 5) fun l1 => (CF Try.prog 100 [(Value.pointer x0), (Value.agg ⟨l1⟩)] hp fun u2 h3 => (intV u2 .i64 fun i4 => (K (upd (upd (upd (upd (upd (upd e 3 (SV.priv 3 0)) 0 (sV (Value.pointer x0))) 6 (sV (Value.pointer x0))) 7 (sV (Value.agg ⟨l1⟩))) 8 (sI (i4))) 5 (sI (i4))) (upd V0 3 (75, k3)) h3)))) := by kernel_rfl
theorem F51_r2 (e : Env) (x5 : Int) (k3 : List Value) (hp : HP) (K : Env → PV → HP → Prop) : RW Try.prog 24 [3] (opsAt Try.f51 [1, 0, 1, 0]) (List.range 2) (upd e 5 (sI (x5))) (upd V0 3 (75, k3)) hp K =
    (K (upd (upd (upd e 5 (sI (x5))) 9 (sI (x5))) 10 (sB (((x5 : Int) != 0)))) (upd V0 3 (75, k3)) hp) := by kernel_rfl
theorem F51_r3 (e : Env) (x5 : Int) (hp : HP) (K : Env → PV → HP → Prop) : RW Try.prog 24 [3] (opsAt Try.f51 [1, 0, 1, 1, 0, 0]) (List.range 2) (upd e 5 (sI (x5))) V0 hp K =
    (K (upd (upd (upd e 5 (sI (x5))) 11 (sI (x5))) 4 (sI (x5))) V0 hp) := by kernel_rfl
theorem F51_r4 (e : Env) (x0 : Option Addr) (k3 : List Value) (hp : HP) (K : Env → PV → HP → Prop) : RW Try.prog 24 [3] (opsAt Try.f51 [1, 1, 0, 0]) (List.range 7) (upd (upd e 3 (SV.priv 3 0)) 0 (sV (Value.pointer x0))) (upd V0 3 (75, k3)) hp K =
    (ptrN x0 fun b1 o2 => (ldV (HP.cell hp b1 (o2 + 3)) fun v3 => (mapV v3 fun m4 => (ldL (cellsN k3 0 5) fun l5 => (rdS Try.prog (Instr.lookup 158 (Value.map m4) (Value.agg ⟨l5⟩) false) hp fun u6 => (boolV u6 fun q7 => (K (upd (upd (upd (upd (upd (upd (upd (upd (upd e 3 (SV.priv 3 0)) 0 (sV (Value.pointer x0))) 12 (sV (Value.pointer x0))) 13 (sV (ptr b1 o2))) 14 (sV (ptr b1 (o2 + 3)))) 15 (sV (Value.map m4))) 16 (sV (Value.agg ⟨l5⟩))) 17 (sB (q7))) 18 (sB ((!q7)))) (upd V0 3 (75, k3)) hp))))))) := by kernel_rfl
theorem F51_r5 (e : Env) (hp : HP) (K : Env → PV → HP → Prop) : RW Try.prog 24 [3] (opsAt Try.f51 [1, 1, 0, 1, 0, 0]) (List.range 1) e V0 hp K =
    (K (upd e 4 (sI (4))) V0 hp) := by kernel_rfl
theorem F51_r6 (e : Env) (x0 : Option Addr) (k3 : List Value) (hp : HP) (K : Env → PV → HP → Prop) : RW Try.prog 24 [3] (opsAt Try.f51 [1, 1, 1, 0]) (List.range 6) (upd (upd e 3 (SV.priv 3 0)) 0 (sV (Value.pointer x0))) (upd V0 3 (75, k3)) hp K =
    (ptrN x0 fun b1 o2 => (ldV (HP.cell hp b1 (o2 + 3)) fun v3 => (mapV v3 fun m4 => (ldL (cellsN k3 0 5) fun l5 => (opS Try.prog (Builtin.delete_ #[158, 75] 0 ⟨[(Value.map m4), (Value.agg ⟨l5⟩)]⟩) hp fun u6 h7 => (K (upd (upd (upd (upd (upd (upd (upd e 3 (SV.priv 3 0)) 0 (sV (Value.pointer x0))) 19 (sV (Value.pointer x0))) 20 (sV (ptr b1 o2))) 21 (sV (ptr b1 (o2 + 3)))) 22 (sV (Value.map m4))) 23 (sV (Value.agg ⟨l5⟩))) (upd V0 3 (75, k3)) h7)))))) := by kernel_rfl
theorem F51_r7 (e : Env) (hp : HP) (K : Env → PV → HP → Prop) : RW Try.prog 24 [3] (opsAt Try.f51 [1, 1, 1, 1, 0]) (List.range 1) e V0 hp K =
    (K (upd e 4 (sI (0))) V0 hp) := by kernel_rfl
def F51 (x0 : Option Addr) (x1 : List Value) (hp : HP) (K : Value → HP → Prop) : Prop :=
  (ldL (cellsN x1 0 5) fun l_1 => (CF Try.prog 100 [(Value.pointer x0), (Value.agg ⟨l_1⟩)] hp fun u_2 h_3 => (intV u_2 .i64 fun i_4 => (ite2 ((i_4 : Int) != 0) (K (Value.int .i64 i_4) h_3) (ptrN x0 fun b_5 o_6 => (ldV (HP.cell h_3 b_5 (o_6 + 3)) fun v_7 => (mapV v_7 fun m_8 => (ldL (cellsN x1 0 5) fun l_9 => (rdS Try.prog (Instr.lookup 158 (Value.map m_8) (Value.agg ⟨l_9⟩) false) h_3 fun u_10 => (boolV u_10 fun q_11 => (ite2 (!q_11) (K (Value.int .i64 4) h_3) (ptrN x0 fun b_12 o_13 => (ldV (HP.cell h_3 b_12 (o_13 + 3)) fun v_14 => (mapV v_14 fun m_15 => (ldL (cellsN x1 0 5) fun l_16 => (opS Try.prog (Builtin.delete_ #[158, 75] 0 ⟨[(Value.map m_15), (Value.agg ⟨l_16⟩)]⟩) h_3 fun u_17 h_18 => (K (Value.int .i64 0) h_18)))))))))))))))))
noncomputable def F51_code : Code := (.seq (.region 0 (opsAt Try.f51 [0]) false) (.seq (.seq (.region 1 (opsAt Try.f51 [1, 0, 0]) false) (.seq (.region 2 (opsAt Try.f51 [1, 0, 1, 0]) false) (.cond (.tmp 10) (.seq (.region 3 (opsAt Try.f51 [1, 0, 1, 1, 0, 0]) false) .ret) .skip))) (.seq (.seq (.region 4 (opsAt Try.f51 [1, 1, 0, 0]) true) (.cond (.tmp 18) (.seq (.region 5 (opsAt Try.f51 [1, 1, 0, 1, 0, 0]) false) .ret) .skip)) (.seq (.region 6 (opsAt Try.f51 [1, 1, 1, 0]) true) (.seq (.region 7 (opsAt Try.f51 [1, 1, 1, 1, 0]) false) .ret)))))
theorem F51_body : Try.f51.body = some F51_code := by kernel_rfl
theorem F51_ok (x0 : Option Addr) (x1 : List Value) (hp : HP) (K : Value → HP → Prop) (h : F51 x0 x1 hp K) : CF Try.prog 51 [(Value.pointer x0), (Value.agg ⟨x1⟩)] hp K := by
 refine .inl ⟨by kernel_rfl, AC.intro (N := 24) Try.func51 F51_body rfl (Nat.le_of_ble_eq_true rfl) ?_⟩
 unfold F51 at h
 unfold F51_code
 refine AWP.seq' ?_
 refine AWP.rgn (F51_r0 (upd E0 0 (sV (Value.pointer x0))) x1 hp _) ?_ (Rv 1 _ (Rv 0 _ (Rn))) (Sc rfl (Sc rfl (Sn))) (Sn)
 refine AWP.seq' ?_
 refine AWP.seq' ?_
 refine AWP.rgn (F51_r1 E0 x0 x1 hp _) ?_ (Rv 0 _ (RefOk.p 3 3 0 (Rn) (fun e => by cases e))) (Sc rfl (Sc rfl (Sn))) (Sc rfl (Sn))
 refine ldL_mono h (fun l_1 h => ?_)
 refine CF_mono h (fun u_2 h_3 h => ?_)
 refine intV_mono h (fun i_4 h => ?_)
 refine AWP.seq' ?_
 refine AWP.rgn (F51_r2 (upd (upd E0 3 (SV.priv 3 0)) 0 (sV (Value.pointer x0))) i_4 x1 h_3 _) ?_ (Rv 5 _ (Rv 0 _ (RefOk.p 3 3 0 (Rn) (fun e => by cases e)))) (Sc rfl (Sc rfl (Sc rfl (Sn)))) (Sc rfl (Sn))
 refine AWP.cond (t := ((i_4 : Int) != 0)) rfl (fun e => ?_) (fun e => ?_)
 ·replace h := ite2_t h e
  refine AWP.seq' ?_
  refine AWP.rgn (F51_r3 E0 i_4 h_3 _) ?_ (Rv 5 _ (Rn)) (Sc rfl (Sn)) (Sn)
  refine AWP.ret ?_
  exact h
 ·replace h := ite2_f h e
  refine AWP.skip ?_
  refine AWP.seq' ?_
  refine AWP.seq' ?_
  refine AWP.rgnD (by kernel_rfl) (by kernel_rfl) (F51_r4 E0 x0 x1 h_3 _) ?_ (Rv 0 _ (RefOk.p 3 3 0 (Rn) (fun e => by cases e))) (Sc rfl (Sc rfl (Sn))) (Sc rfl (Sn))
  refine ptrN_mono h (fun b_5 o_6 h => ?_)
  refine ldV_mono h (fun v_7 h => ?_)
  refine mapV_mono h (fun m_8 h => ?_)
  refine ldL_mono h (fun l_9 h => ?_)
  refine rdS_mono h (fun u_10 h => ?_)
  refine boolV_mono h (fun q_11 h => ?_)
  refine AWP.cond (t := (!q_11)) rfl (fun e => ?_) (fun e => ?_)
  ·replace h := ite2_t h e
   refine AWP.seq' ?_
   refine AWP.rgn (F51_r5 E0  h_3 _) ?_ (Rn) (Sn) (Sn)
   refine AWP.ret ?_
   exact h
  ·replace h := ite2_f h e
   refine AWP.skip ?_
   refine AWP.seq' ?_
   refine AWP.rgnD (by kernel_rfl) (by kernel_rfl) (F51_r6 E0 x0 x1 h_3 _) ?_ (Rv 0 _ (RefOk.p 3 3 0 (Rn) (fun e => by cases e))) (Sc rfl (Sc rfl (Sn))) (Sc rfl (Sn))
   refine ptrN_mono h (fun b_12 o_13 h => ?_)
   refine ldV_mono h (fun v_14 h => ?_)
   refine mapV_mono h (fun m_15 h => ?_)
   refine ldL_mono h (fun l_16 h => ?_)
   refine opS_mono h (fun u_17 h_18 h => ?_)
   refine AWP.seq' ?_
   refine AWP.rgn (F51_r7 E0  h_18 _) ?_ (Rn) (Sn) (Sn)
   refine AWP.ret ?_
   exact h
-- 54 (*interpreter/pool.Pool).Free
theorem F54_r0 (e : Env) (hp : HP) (K : Env → PV → HP → Prop) : RW Try.prog 58 [4, 39, 47] (opsAt Try.f54 [0]) (List.range 1) e V0 hp K =
    (K (upd e 2 (sI (0))) V0 hp) := by kernel_rfl
theorem F54_r1 (e : Env) (hp : HP) (K : Env → PV → HP → Prop) : RW Try.prog 58 [4, 39, 47] (opsAt Try.f54 [1, 0, 1, 0, 0]) (List.range 1) e V0 hp K =
    (K (upd e 2 (sI (0))) V0 hp) := by kernel_rfl
theorem F54_r2 (e : Env) (x0 : Option Addr) (hp : HP) (K : Env → PV → HP → Prop) : RW Try.prog 58 [4, 39, 47] (opsAt Try.f54 [1, 1, 0]) (List.range 17) (upd e 0 (sV (Value.pointer x0))) V0 hp K =
    (ptrN x0 fun b1 o2 => (ldV (HP.cell hp b1 (o2 + 0)) fun v3 => (slcV v3 fun a4 n5 c6 => (ptrN x0 fun b7 o8 => (ldV (HP.cell hp b7 (o8 + 2)) fun v9 => (intV v9 .i64 fun i10 => (ptrN x0 fun b11 o12 => (ldV (HP.cell hp b11 (o12 + 1)) fun v13 => (intV v13 .i64 fun i14 => (K (upd (upd (upd (upd (upd (upd (upd (upd (upd (upd (upd (upd (upd (upd (upd (upd (upd (upd e 0 (sV (Value.pointer x0))) 14 (sV (Value.pointer x0))) 15 (sV (ptr b1 o2))) 16 (sV (ptr b1 (o2 + 0)))) 17 (sV (Value.slice a4 n5 c6))) 18 (sI ((n5 : Nat)))) 19 (sV (Value.pointer x0))) 20 (sV (ptr b7 o8))) 21 (sV (ptr b7 (o8 + 2)))) 22 (sI (i10))) 23 (sV (Value.pointer x0))) 24 (sV (ptr b11 o12))) 25 (sV (ptr b11 (o12 + 1)))) 26 (sI (i14))) 27 (sI ((IntKind.wrap .i64 (i10 - i14))))) 28 (sI ((IntKind.wrap .i64 ((IntKind.wrap .i64 (i10 - i14)) + 1))))) 29 (sI ((IntKind.wrap .i64 ((n5 : Nat) * (IntKind.wrap .i64 ((IntKind.wrap .i64 (i10 - i14)) + 1))))))) 3 (sI ((IntKind.wrap .i64 ((n5 : Nat) * (IntKind.wrap .i64 ((IntKind.wrap .i64 (i10 - i14)) + 1))))))) V0 hp)))))))))) := by kernel_rfl
theorem F54_r3 (e : Env) (x3 : Int) (hp : HP) (K : Env → PV → HP → Prop) : RW Try.prog 58 [4, 39, 47] (opsAt Try.f54 [1, 1, 1, 1, 0]) (List.range 2) (upd e 3 (sI (x3))) V0 hp K =
    (K (upd (upd (upd e 3 (sI (x3))) 57 (sI (x3))) 2 (sI (x3))) V0 hp) := by kernel_rfl
def F54_j2 (x3 : Int) (hp : HP) (K : Value → HP → Prop) : Prop :=
  (K (Value.int .i64 x3) hp)
theorem F54_r4 (e : Env) (x34 : Value) (hp : HP) (K : Env → PV → HP → Prop) : RW Try.prog 58 [4, 39, 47] (opsAt Try.f54 [1, 1, 1, 0, 1, 0, 0, 0]) (List.range 2) (upd e 34 (sV x34)) V0 hp K =
    (opS Try.prog (Instr.next x34 false 0) hp fun u1 h2 => (tupI u1 0 fun v3 => (boolV v3 fun q4 => (K (upd (upd (upd e 34 (sV x34)) 35 (sV u1)) 36 (sB (q4))) V0 h2)))) := by kernel_rfl
theorem F54_r5 (e : Env) (x34 : Value) (hp : HP) (K : Env → PV → HP → Prop) : RW Try.prog 58 [4, 39, 47] (opsAt Try.f54 [1, 1, 1, 0, 1, 0, 0, 1, 1, 0, 0]) (List.range 4) (upd e 34 (sV x34)) V0 hp K =
    (rdS Try.prog (Instr.entry x34) hp fun u1 => (tupI u1 0 fun v2 => (aggV v2 fun l3 => (if List.length l3 = 5 then (if List.all l3 one = true then (if 0 + List.length l3 ≤ List.length [(Value.int .u8 0), (Value.int .u8 0), (Value.int .u8 0), (Value.int .u8 0), (Value.int .i64 0)] then (K (upd (upd (upd (upd e 34 (sV x34)) 37 (sV u1)) 38 (sV (Value.agg ⟨l3⟩))) 4 (SV.priv 4 0)) (upd (upd V0 4 (75, [(Value.int .u8 0), (Value.int .u8 0), (Value.int .u8 0), (Value.int .u8 0), (Value.int .i64 0)])) 4 (75, (splice [(Value.int .u8 0), (Value.int .u8 0), (Value.int .u8 0), (Value.int .u8 0), (Value.int .i64 0)] 0 l3))) hp) else False) else False) else False)))) := by kernel_rfl
theorem F54_r6 (e : Env) (x3 : Int) (hp : HP) (K : Env → PV → HP → Prop) : RW Try.prog 58 [4, 39, 47] (opsAt Try.f54 [1, 1, 1, 0, 1, 0, 0, 1, 1, 0, 1, 1, 0]) (List.range 3) (upd e 3 (sI (x3))) V0 hp K =
    (K (upd (upd (upd (upd e 3 (sI (x3))) 55 (sI (x3))) 56 (sI ((IntKind.wrap .i64 (x3 - 1))))) 3 (sI ((IntKind.wrap .i64 (x3 - 1))))) V0 hp) := by kernel_rfl
def F54_j5 (x0 : Option Addr) (x3 : Int) (x34 : Value) (x54 : Bool) (hp : HP) (I4 : (Int) → HP → Prop) (K : Value → HP → Prop) : Prop :=
  (ite2 x54 (I4 (IntKind.wrap .i64 (x3 - 1)) hp) (I4 x3 hp))
theorem F54_r7 (e : Env) (x0 : Option Addr) (k4 : List Value) (hp : HP) (K : Env → PV → HP → Prop) : RW Try.prog 58 [4, 39, 47] (opsAt Try.f54 [1, 1, 1, 0, 1, 0, 0, 1, 1, 0, 1, 0]) (List.range 16) (upd (upd e 4 (SV.priv 4 0)) 0 (sV (Value.pointer x0))) (upd V0 4 (75, k4)) hp K =
    (ldV (k4)[4]? fun v1 => (intV v1 .i64 fun i2 => (ptrN x0 fun b3 o4 => (ldV (HP.cell hp b3 (o4 + 1)) fun v5 => (intV v5 .i64 fun i6 => (ite2 (decide ((i2 : Int) ≥ i6)) (ldV (k4)[4]? fun v7 => (intV v7 .i64 fun i8 => (ptrN x0 fun b9 o10 => (ldV (HP.cell hp b9 (o10 + 2)) fun v11 => (intV v11 .i64 fun i12 => (K (upd (upd (upd (upd (upd (upd (upd (upd (upd (upd (upd (upd (upd (upd (upd (upd (upd (upd e 4 (SV.priv 4 0)) 0 (sV (Value.pointer x0))) 39 (SV.priv 4 4)) 40 (sI (i2))) 41 (sV (Value.pointer x0))) 42 (sV (ptr b3 o4))) 43 (sV (ptr b3 (o4 + 1)))) 44 (sI (i6))) 45 (sB ((decide ((i2 : Int) ≥ i6))))) 46 (sB (true))) 47 (SV.priv 4 4)) 48 (sI (i8))) 49 (sV (Value.pointer x0))) 50 (sV (ptr b9 o10))) 51 (sV (ptr b9 (o10 + 2)))) 52 (sI (i12))) 53 (sB ((decide ((i8 : Int) ≤ i12))))) 54 (sB ((decide ((i8 : Int) ≤ i12))))) (upd V0 4 (75, k4)) hp)))))) (K (upd (upd (upd (upd (upd (upd (upd (upd (upd (upd (upd (upd (upd (upd (upd (upd (upd (upd e 4 (SV.priv 4 0)) 0 (sV (Value.pointer x0))) 39 (SV.priv 4 4)) 40 (sI (i2))) 41 (sV (Value.pointer x0))) 42 (sV (ptr b3 o4))) 43 (sV (ptr b3 (o4 + 1)))) 44 (sI (i6))) 45 (sB ((decide ((i2 : Int) ≥ i6))))) 46 (sB (false))) 47 (sV undef)) 48 (sV undef)) 49 (sV undef)) 50 (sV undef)) 51 (sV undef)) 52 (sV undef)) 53 (sV undef)) 54 (sB (false))) (upd V0 4 (75, k4)) hp))))))) := by kernel_rfl
def F54_l4 (x0 : Option Addr) (x34 : Value) (K : Value → HP → Prop) (I4 : (Int) → HP → Prop) (x3 : Int) (hp : HP) : Prop :=
  (opS Try.prog (Instr.next x34 false 0) hp fun u_15 h_16 => (tupI u_15 0 fun v_17 => (boolV v_17 fun q_18 => (ite2 q_18 (rdS Try.prog (Instr.entry x34) h_16 fun u_19 => (tupI u_19 0 fun v_20 => (aggV v_20 fun l_21 => (if List.length l_21 = 5 then (if List.all l_21 one = true then (if 0 + List.length l_21 ≤ List.length [(Value.int .u8 0), (Value.int .u8 0), (Value.int .u8 0), (Value.int .u8 0), (Value.int .i64 0)] then (ldV ((splice [(Value.int .u8 0), (Value.int .u8 0), (Value.int .u8 0), (Value.int .u8 0), (Value.int .i64 0)] 0 l_21))[4]? fun v_22 => (intV v_22 .i64 fun i_23 => (ptrN x0 fun b_24 o_25 => (ldV (HP.cell h_16 b_24 (o_25 + 1)) fun v_26 => (intV v_26 .i64 fun i_27 => (ite2 (decide ((i_23 : Int) ≥ i_27)) (ldV ((splice [(Value.int .u8 0), (Value.int .u8 0), (Value.int .u8 0), (Value.int .u8 0), (Value.int .i64 0)] 0 l_21))[4]? fun v_28 => (intV v_28 .i64 fun i_29 => (ptrN x0 fun b_30 o_31 => (ldV (HP.cell h_16 b_30 (o_31 + 2)) fun v_32 => (intV v_32 .i64 fun i_33 => (F54_j5 x0 x3 x34 (decide ((i_29 : Int) ≤ i_33)) h_16 I4 K)))))) (F54_j5 x0 x3 x34 false h_16 I4 K))))))) else False) else False) else False)))) (F54_j2 x3 h_16  K)))))
def F54_j3 (x0 : Option Addr) (x3 : Int) (x34 : Value) (hp : HP) (K : Value → HP → Prop) : Prop :=
  (LoopP (σ := Int) (fun I s hp => F54_l4 x0 x34  K I s hp) x3 hp)
theorem F54_r8 (e : Env) (x0 : Option Addr) (hp : HP) (K : Env → PV → HP → Prop) : RW Try.prog 58 [4, 39, 47] (opsAt Try.f54 [1, 1, 1, 0, 0]) (List.range 5) (upd e 0 (sV (Value.pointer x0))) V0 hp K =
    (ptrN x0 fun b1 o2 => (ldV (HP.cell hp b1 (o2 + 3)) fun v3 => (mapV v3 fun m4 => (opS Try.prog (Instr.range 158 (Value.map m4)) hp fun u5 h6 => (K (upd (upd (upd (upd (upd (upd e 0 (sV (Value.pointer x0))) 30 (sV (Value.pointer x0))) 31 (sV (ptr b1 o2))) 32 (sV (ptr b1 (o2 + 3)))) 33 (sV (Value.map m4))) 34 (sV u5)) V0 h6))))) := by kernel_rfl
def F54_j1 (x0 : Option Addr) (x13 : Bool) (hp : HP) (K : Value → HP → Prop) : Prop :=
  (ite2 x13 (K (Value.int .i64 0) hp) (ptrN x0 fun b_1 o_2 => (ldV (HP.cell hp b_1 (o_2 + 0)) fun v_3 => (slcV v_3 fun a_4 n_5 c_6 => (ptrN x0 fun b_7 o_8 => (ldV (HP.cell hp b_7 (o_8 + 2)) fun v_9 => (intV v_9 .i64 fun i_10 => (ptrN x0 fun b_11 o_12 => (ldV (HP.cell hp b_11 (o_12 + 1)) fun v_13 => (intV v_13 .i64 fun i_14 => (ptrN x0 fun b_34 o_35 => (ldV (HP.cell hp b_34 (o_35 + 3)) fun v_36 => (mapV v_36 fun m_37 => (opS Try.prog (Instr.range 158 (Value.map m_37)) hp fun u_38 h_39 => (F54_j3 x0 (IntKind.wrap .i64 ((n_5 : Nat) * (IntKind.wrap .i64 ((IntKind.wrap .i64 (i_10 - i_14)) + 1)))) u_38 h_39  K)))))))))))))))
theorem F54_r9 (e : Env) (x0 : Option Addr) (hp : HP) (K : Env → PV → HP → Prop) : RW Try.prog 58 [4, 39, 47] (opsAt Try.f54 [1, 0, 0]) (List.range 9) (upd e 0 (sV (Value.pointer x0))) V0 hp K =
    (ite2 (Option.isNone x0) (K (upd (upd (upd (upd (upd (upd (upd (upd (upd (upd e 0 (sV (Value.pointer x0))) 5 (sV (Value.pointer x0))) 6 (sB ((Option.isNone x0)))) 7 (sB (true))) 8 (sV undef)) 9 (sV undef)) 10 (sV undef)) 11 (sV undef)) 12 (sV undef)) 13 (sB (true))) V0 hp) (ptrN x0 fun b1 o2 => (ldV (HP.cell hp b1 (o2 + 3)) fun v3 => (mapV v3 fun m4 => (K (upd (upd (upd (upd (upd (upd (upd (upd (upd (upd e 0 (sV (Value.pointer x0))) 5 (sV (Value.pointer x0))) 6 (sB ((Option.isNone x0)))) 7 (sB (false))) 8 (sV (Value.pointer x0))) 9 (sV (ptr b1 o2))) 10 (sV (ptr b1 (o2 + 3)))) 11 (sV (Value.map m4))) 12 (sB ((Option.isNone m4)))) 13 (sB ((Option.isNone m4)))) V0 hp))))) := by kernel_rfl
def F54 (x0 : Option Addr) (hp : HP) (K : Value → HP → Prop) : Prop :=
  (ite2 (Option.isNone x0) (F54_j1 x0 true hp  K) (ptrN x0 fun b_40 o_41 => (ldV (HP.cell hp b_40 (o_41 + 3)) fun v_42 => (mapV v_42 fun m_43 => (F54_j1 x0 (Option.isNone m_43) hp  K)))))
noncomputable def F54_code : Code := (.seq (.region 0 (opsAt Try.f54 [0]) false) (.seq (.seq (.region 1 (opsAt Try.f54 [1, 0, 0]) false) (.cond (.tmp 13) (.seq (.region 2 (opsAt Try.f54 [1, 0, 1, 0, 0]) false) .ret) .skip)) (.seq (.region 3 (opsAt Try.f54 [1, 1, 0]) true) (.seq (.seq (.region 4 (opsAt Try.f54 [1, 1, 1, 0, 0]) false) (.block 0 (.loop (.seq (.region 5 (opsAt Try.f54 [1, 1, 1, 0, 1, 0, 0, 0]) false) (.seq (.cond (.tmp 36) .skip (.exit 0)) (.block 1 (.seq (.region 6 (opsAt Try.f54 [1, 1, 1, 0, 1, 0, 0, 1, 1, 0, 0]) false) (.seq (.region 7 (opsAt Try.f54 [1, 1, 1, 0, 1, 0, 0, 1, 1, 0, 1, 0]) true) (.cond (.tmp 54) (.region 8 (opsAt Try.f54 [1, 1, 1, 0, 1, 0, 0, 1, 1, 0, 1, 1, 0]) false) .skip))))))))) (.seq (.region 9 (opsAt Try.f54 [1, 1, 1, 1, 0]) false) .ret)))))
theorem F54_body : Try.f54.body = some F54_code := by kernel_rfl
theorem F54_ok (x0 : Option Addr) (hp : HP) (K : Value → HP → Prop) (h : F54 x0 hp K) : CF Try.prog 54 [(Value.pointer x0)] hp K := by
 refine .inl ⟨by kernel_rfl, AC.intro (N := 58) Try.func54 F54_body rfl (Nat.le_of_ble_eq_true rfl) ?_⟩
 unfold F54 at h
 unfold F54_code
 refine AWP.seq' ?_
 refine AWP.rgn (F54_r0 (upd E0 0 (sV (Value.pointer x0)))  hp _) ?_ (Rv 0 _ (Rn)) (Sc rfl (Sn)) (Sn)
 refine AWP.seq' ?_
 refine AWP.seq (fun env pv hp => ∃ (x0 : Option Addr) (x13 : Bool), Sub (upd (upd E0 13 (sB (x13))) 0 (sV (Value.pointer x0))) env ∧ Sub V0 pv ∧ (F54_j1 x0 x13 hp  K)) ?_ ?_
 ·refine AWP.rgn (F54_r9 E0 x0 hp _) ?_ (Rv 0 _ (Rn)) (Sc rfl (Sn)) (Sn)
  refine ite2_mono h (fun h => ?_) (fun h => ?_)
  ·exact ⟨x0, true, (Sc rfl (Sc rfl (Sn))), (Sn), h⟩
  ·refine ptrN_mono h (fun b_40 o_41 h => ?_)
   refine ldV_mono h (fun v_42 h => ?_)
   refine mapV_mono h (fun m_43 h => ?_)
   exact ⟨x0, (Option.isNone m_43), (Sc rfl (Sc rfl (Sn))), (Sn), h⟩
 ·rintro env pv hp ⟨x0, x13, he, hv, h⟩
  refine AWP.sub (env' := (upd (upd E0 13 (sB (x13))) 0 (sV (Value.pointer x0)))) (pv' := V0) ?_ (Rv 0 _ (Rv 13 _ (Rn))) he hv (HSub.refl _)
  clear he hv
  unfold F54_j1 at h
  refine AWP.cond (t := x13) rfl (fun e => ?_) (fun e => ?_)
  ·replace h := ite2_t h e
   refine AWP.seq' ?_
   refine AWP.rgn (F54_r1 E0  hp _) ?_ (Rn) (Sn) (Sn)
   refine AWP.ret ?_
   exact h
  ·replace h := ite2_f h e
   refine AWP.skip ?_
   refine AWP.seq' ?_
   refine AWP.rgnD (by kernel_rfl) (by kernel_rfl) (F54_r2 E0 x0 hp _) ?_ (Rv 0 _ (Rn)) (Sc rfl (Sn)) (Sn)
   refine ptrN_mono h (fun b_1 o_2 h => ?_)
   refine ldV_mono h (fun v_3 h => ?_)
   refine slcV_mono h (fun a_4 n_5 c_6 h => ?_)
   refine ptrN_mono h (fun b_7 o_8 h => ?_)
   refine ldV_mono h (fun v_9 h => ?_)
   refine intV_mono h (fun i_10 h => ?_)
   refine ptrN_mono h (fun b_11 o_12 h => ?_)
   refine ldV_mono h (fun v_13 h => ?_)
   refine intV_mono h (fun i_14 h => ?_)
   refine AWP.seq (fun env pv hp => ∃ (x3 : Int), Sub (upd E0 3 (sI (x3))) env ∧ Sub V0 pv ∧ (F54_j2 x3 hp  K)) ?_ ?_
   ·refine AWP.seq (fun env pv hp => ∃ (x0 : Option Addr) (x3 : Int) (x34 : Value), Sub (upd (upd (upd E0 34 (sV x34)) 3 (sI (x3))) 0 (sV (Value.pointer x0))) env ∧ Sub V0 pv ∧ (F54_j3 x0 x3 x34 hp  K)) ?_ ?_
    ·refine AWP.rgn (F54_r8 (upd E0 3 (sI ((IntKind.wrap .i64 ((n_5 : Nat) * (IntKind.wrap .i64 ((IntKind.wrap .i64 (i_10 - i_14)) + 1))))))) x0 hp _) ?_ (Rv 0 _ (Rv 3 _ (Rn))) (Sc rfl (Sc rfl (Sn))) (Sn)
     refine ptrN_mono h (fun b_34 o_35 h => ?_)
     refine ldV_mono h (fun v_36 h => ?_)
     refine mapV_mono h (fun m_37 h => ?_)
     refine opS_mono h (fun u_38 h_39 h => ?_)
     exact ⟨x0, (IntKind.wrap .i64 ((n_5 : Nat) * (IntKind.wrap .i64 ((IntKind.wrap .i64 (i_10 - i_14)) + 1)))), u_38, (Sc rfl (Sc rfl (Sc rfl (Sn)))), (Sn), h⟩
    ·rintro env pv hp ⟨x0, x3, x34, he, hv, h⟩
     refine AWP.sub (env' := (upd (upd (upd E0 34 (sV x34)) 3 (sI (x3))) 0 (sV (Value.pointer x0)))) (pv' := V0) ?_ (Rv 0 _ (Rv 3 _ (Rv 34 _ (Rn)))) he hv (HSub.refl _)
     clear he hv
     unfold F54_j3 at h
     refine AWP.block ?_
     refine AWP.loop (σ := Int) (fun I s hp => F54_l4 x0 x34  K I s hp) (fun s => (upd (upd (upd E0 34 (sV x34)) 3 (sI (s))) 0 (sV (Value.pointer x0)))) (fun s => V0) x3 h (fun s => (Rv 0 _ (Rv 3 _ (Rv 34 _ (Rn))))) (Sc rfl (Sc rfl (Sc rfl (Sn)))) (Sn) ?_
     intro I4 s hp h
     obtain ⟨x3, hs⟩ : ∃ x, x = s := ⟨s, rfl⟩
     subst hs
     replace h : F54_l4 x0 x34  K I4 x3 hp := h
     unfold F54_l4 at h
     refine AWP.seq' ?_
     refine AWP.rgn (F54_r4 (upd (upd E0 3 (sI (x3))) 0 (sV (Value.pointer x0))) x34 hp _) ?_ (Rv 34 _ (Rv 0 _ (Rv 3 _ (Rn)))) (Sc rfl (Sc rfl (Sc rfl (Sn)))) (Sn)
     refine opS_mono h (fun u_15 h_16 h => ?_)
     refine tupI_mono h (fun v_17 h => ?_)
     refine boolV_mono h (fun q_18 h => ?_)
     refine AWP.seq' ?_
     refine AWP.cond (t := q_18) rfl (fun e => ?_) (fun e => ?_)
     ·replace h := ite2_t h e
      refine AWP.skip ?_
      refine AWP.block ?_
      refine AWP.seq' ?_
      refine AWP.rgn (F54_r5 (upd (upd E0 3 (sI (x3))) 0 (sV (Value.pointer x0))) x34 h_16 _) ?_ (Rv 34 _ (Rv 0 _ (Rv 3 _ (Rn)))) (Sc rfl (Sc rfl (Sc rfl (Sn)))) (Sn)
      refine rdS_mono h (fun u_19 h => ?_)
      refine tupI_mono h (fun v_20 h => ?_)
      refine aggV_mono h (fun l_21 h => ?_)
      refine if_mono h (fun h => ?_)
      refine if_mono h (fun h => ?_)
      refine if_mono h (fun h => ?_)
      refine AWP.seq (fun env pv hp => ∃ (x3 : Int) (x54 : Bool), Sub (upd (upd (upd (upd E0 54 (sB (x54))) 34 (sV x34)) 3 (sI (x3))) 0 (sV (Value.pointer x0))) env ∧ Sub V0 pv ∧ (F54_j5 x0 x3 x34 x54 hp I4 K)) ?_ ?_
      ·refine AWP.rgnD (by kernel_rfl) (by kernel_rfl) (F54_r7 (upd (upd E0 34 (sV x34)) 3 (sI (x3))) x0 (splice [(Value.int .u8 0), (Value.int .u8 0), (Value.int .u8 0), (Value.int .u8 0), (Value.int .i64 0)] 0 l_21) h_16 _) ?_ (Rv 0 _ (RefOk.p 4 4 0 (Rv 3 _ (Rv 34 _ (Rn))) (fun e => by cases e))) (Sc rfl (Sc rfl (Sc rfl (Sc rfl (Sn))))) (Sc rfl (Sn))
       refine ldV_mono h (fun v_22 h => ?_)
       refine intV_mono h (fun i_23 h => ?_)
       refine ptrN_mono h (fun b_24 o_25 h => ?_)
       refine ldV_mono h (fun v_26 h => ?_)
       refine intV_mono h (fun i_27 h => ?_)
       refine ite2_mono h (fun h => ?_) (fun h => ?_)
       ·refine ldV_mono h (fun v_28 h => ?_)
        refine intV_mono h (fun i_29 h => ?_)
        refine ptrN_mono h (fun b_30 o_31 h => ?_)
        refine ldV_mono h (fun v_32 h => ?_)
        refine intV_mono h (fun i_33 h => ?_)
        exact ⟨x3, (decide ((i_29 : Int) ≤ i_33)), (Sc rfl (Sc rfl (Sc rfl (Sc rfl (Sn))))), (Sn), h⟩
       ·exact ⟨x3, false, (Sc rfl (Sc rfl (Sc rfl (Sc rfl (Sn))))), (Sn), h⟩
      ·rintro env pv hp ⟨x3, x54, he, hv, h⟩
       refine AWP.sub (env' := (upd (upd (upd (upd E0 54 (sB (x54))) 34 (sV x34)) 3 (sI (x3))) 0 (sV (Value.pointer x0)))) (pv' := V0) ?_ (Rv 0 _ (Rv 3 _ (Rv 34 _ (Rv 54 _ (Rn))))) he hv (HSub.refl _)
       clear he hv
       unfold F54_j5 at h
       refine AWP.cond (t := x54) rfl (fun e => ?_) (fun e => ?_)
       ·replace h := ite2_t h e
        refine AWP.rgn (F54_r6 (upd (upd E0 34 (sV x34)) 0 (sV (Value.pointer x0))) x3 hp _) ?_ (Rv 3 _ (Rv 0 _ (Rv 34 _ (Rn)))) (Sc rfl (Sc rfl (Sc rfl (Sn)))) (Sn)
        exact ⟨(IntKind.wrap .i64 (x3 - 1)), (Sc rfl (Sc rfl (Sc rfl (Sn)))), (Sn), h⟩
       ·replace h := ite2_f h e
        refine AWP.skip ?_
        exact ⟨x3, (Sc rfl (Sc rfl (Sc rfl (Sn)))), (Sn), h⟩
     ·replace h := ite2_f h e
      refine AWP.exit ?_
      exact ⟨x3, (Sc rfl (Sn)), (Sn), h⟩
   ·rintro env pv hp ⟨x3, he, hv, h⟩
    refine AWP.sub (env' := (upd E0 3 (sI (x3)))) (pv' := V0) ?_ (Rv 3 _ (Rn)) he hv (HSub.refl _)
    clear he hv
    unfold F54_j2 at h
    refine AWP.seq' ?_
    refine AWP.rgn (F54_r3 E0 x3 hp _) ?_ (Rv 3 _ (Rn)) (Sc rfl (Sn)) (Sn)
    refine AWP.ret ?_
    exact h
-- 100 (*interpreter/pool.Pool).may
theorem F100_r0 (e : Env) (x1 : List Value) (hp : HP) (K : Env → PV → HP → Prop) : RW Try.prog 30 [3, 16, 25] (opsAt Try.f100 [0]) (List.range 2) (upd e 1 (sV (Value.agg ⟨x1⟩))) V0 hp K =
    (K (upd (upd (upd e 1 (sV (Value.agg ⟨x1⟩))) 3 (SV.priv 3 0)) 4 (sI (0))) (upd V0 3 (75, x1)) hp) := by kernel_rfl
theorem F100_r1 (e : Env) (hp : HP) (K : Env → PV → HP → Prop) : RW Try.prog 30 [3, 16, 25] (opsAt Try.f100 [1, 0, 0, 1, 0, 0]) (List.range 1) e V0 hp K =
    (K (upd e 4 (sI (2))) V0 hp) := by kernel_rfl
theorem F100_r2 (e : Env) (hp : HP) (K : Env → PV → HP → Prop) : RW Try.prog 30 [3, 16, 25] (opsAt Try.f100 [1, 0, 0, 1, 1, 1, 0, 0]) (List.range 1) e V0 hp K =
    (K (upd e 4 (sI (1))) V0 hp) := by kernel_rfl
theorem F100_r3 (e : Env) (hp : HP) (K : Env → PV → HP → Prop) : RW Try.prog 30 [3, 16, 25] (opsAt Try.f100 [1, 1, 0]) (List.range 1) e V0 hp K =
    (K (upd e 4 (sI (0))) V0 hp) := by kernel_rfl
def F100_j2 (x15 : Bool) (hp : HP) (K : Value → HP → Prop) : Prop :=
  (ite2 x15 (K (Value.int .i64 1) hp) (K (Value.int .i64 0) hp))
theorem F100_r4 (e : Env) (x0 : Option Addr) (k3 : List Value) (hp : HP) (K : Env → PV → HP → Prop) : RW Try.prog 30 [3, 16, 25] (opsAt Try.f100 [1, 0, 0, 1, 1, 0]) (List.range 15) (upd (upd e 3 (SV.priv 3 0)) 0 (sV (Value.pointer x0))) (upd V0 3 (75, k3)) hp K =
    (ldV (k3)[4]? fun v1 => (intV v1 .i64 fun i2 => (CF Try.prog 74 [(Value.int .i64 i2)] hp fun u3 h4 => (boolV u3 fun q5 => (ite2 (!q5) (K (upd (upd (upd (upd (upd (upd (upd (upd (upd (upd (upd (upd (upd (upd (upd (upd (upd e 3 (SV.priv 3 0)) 0 (sV (Value.pointer x0))) 16 (SV.priv 3 4)) 17 (sI (i2))) 18 (sB (q5))) 19 (sB ((!q5)))) 20 (sB (true))) 21 (sV undef)) 22 (sV undef)) 23 (sV undef)) 24 (sV undef)) 25 (sV undef)) 26 (sV undef)) 27 (sV undef)) 28 (sV undef)) 29 (sB (true))) 15 (sB (true))) (upd V0 3 (75, k3)) h4) (ptrN x0 fun b6 o7 => (ldV (HP.cell h4 b6 (o7 + 0)) fun v8 => (slcV v8 fun a9 n10 c11 => (ldL (cellsN k3 0 4) fun l12 => (CF Try.prog 92 [(Value.slice a9 n10 c11), (Value.agg ⟨l12⟩)] h4 fun u13 h14 => (boolV u13 fun q15 => (K (upd (upd (upd (upd (upd (upd (upd (upd (upd (upd (upd (upd (upd (upd (upd (upd (upd e 3 (SV.priv 3 0)) 0 (sV (Value.pointer x0))) 16 (SV.priv 3 4)) 17 (sI (i2))) 18 (sB (q5))) 19 (sB ((!q5)))) 20 (sB (false))) 21 (sV (Value.pointer x0))) 22 (sV (ptr b6 o7))) 23 (sV (ptr b6 (o7 + 0)))) 24 (sV (Value.slice a9 n10 c11))) 25 (SV.priv 3 0)) 26 (sV (Value.agg ⟨l12⟩))) 27 (sB (q15))) 28 (sB ((!q15)))) 29 (sB ((!q15)))) 15 (sB ((!q15)))) (upd V0 3 (75, k3)) h14)))))))))))) := by kernel_rfl
def F100_j1 (x0 : Option Addr) (x5 : Bool) (k3 : List Value) (hp : HP) (K : Value → HP → Prop) : Prop :=
  (ite2 x5 (K (Value.int .i64 2) hp) (ldV (k3)[4]? fun v_1 => (intV v_1 .i64 fun i_2 => (CF Try.prog 74 [(Value.int .i64 i_2)] hp fun u_3 h_4 => (boolV u_3 fun q_5 => (ite2 (!q_5) (F100_j2 true h_4  K) (ptrN x0 fun b_6 o_7 => (ldV (HP.cell h_4 b_6 (o_7 + 0)) fun v_8 => (slcV v_8 fun a_9 n_10 c_11 => (ldL (cellsN k3 0 4) fun l_12 => (CF Try.prog 92 [(Value.slice a_9 n_10 c_11), (Value.agg ⟨l_12⟩)] h_4 fun u_13 h_14 => (boolV u_13 fun q_15 => (F100_j2 (!q_15) h_14  K)))))))))))))
theorem F100_r5 (e : Env) (x0 : Option Addr) (k3 : List Value) (hp : HP) (K : Env → PV → HP → Prop) : RW Try.prog 30 [3, 16, 25] (opsAt Try.f100 [1, 0, 0, 0]) (List.range 10) (upd e 0 (sV (Value.pointer x0))) (upd V0 3 (75, k3)) hp K =
    (ite2 (Option.isNone x0) (K (upd (upd (upd (upd (upd (upd (upd (upd (upd (upd (upd e 0 (sV (Value.pointer x0))) 6 (sV (Value.pointer x0))) 7 (sB ((Option.isNone x0)))) 8 (sB (true))) 9 (sV undef)) 10 (sV undef)) 11 (sV undef)) 12 (sV undef)) 13 (sV undef)) 14 (sB (true))) 5 (sB (true))) (upd V0 3 (75, k3)) hp) (ptrN x0 fun b1 o2 => (ldV (HP.cell hp b1 (o2 + 3)) fun v3 => (mapV v3 fun m4 => (K (upd (upd (upd (upd (upd (upd (upd (upd (upd (upd (upd e 0 (sV (Value.pointer x0))) 6 (sV (Value.pointer x0))) 7 (sB ((Option.isNone x0)))) 8 (sB (false))) 9 (sV (Value.pointer x0))) 10 (sV (ptr b1 o2))) 11 (sV (ptr b1 (o2 + 3)))) 12 (sV (Value.map m4))) 13 (sB ((Option.isNone m4)))) 14 (sB ((Option.isNone m4)))) 5 (sB ((Option.isNone m4)))) (upd V0 3 (75, k3)) hp))))) := by kernel_rfl
def F100 (x0 : Option Addr) (x1 : List Value) (hp : HP) (K : Value → HP → Prop) : Prop :=
  (ite2 (Option.isNone x0) (F100_j1 x0 true x1 hp  K) (ptrN x0 fun b_16 o_17 => (ldV (HP.cell hp b_16 (o_17 + 3)) fun v_18 => (mapV v_18 fun m_19 => (F100_j1 x0 (Option.isNone m_19) x1 hp  K)))))
noncomputable def F100_code : Code := (.seq (.region 0 (opsAt Try.f100 [0]) false) (.seq (.block 0 (.seq (.region 1 (opsAt Try.f100 [1, 0, 0, 0]) false) (.cond (.tmp 5) (.seq (.region 2 (opsAt Try.f100 [1, 0, 0, 1, 0, 0]) false) .ret) (.seq (.region 3 (opsAt Try.f100 [1, 0, 0, 1, 1, 0]) true) (.cond (.tmp 15) (.seq (.region 4 (opsAt Try.f100 [1, 0, 0, 1, 1, 1, 0, 0]) false) .ret) .skip))))) (.seq (.region 5 (opsAt Try.f100 [1, 1, 0]) false) .ret)))
theorem F100_body : Try.f100.body = some F100_code := by kernel_rfl
theorem F100_ok (x0 : Option Addr) (x1 : List Value) (hp : HP) (K : Value → HP → Prop) (h : F100 x0 x1 hp K) : CF Try.prog 100 [(Value.pointer x0), (Value.agg ⟨x1⟩)] hp K := by
 refine .inl ⟨by kernel_rfl, AC.intro (N := 30) Try.func100 F100_body rfl (Nat.le_of_ble_eq_true rfl) ?_⟩
 unfold F100 at h
 unfold F100_code
 refine AWP.seq' ?_
 refine AWP.rgn (F100_r0 (upd E0 0 (sV (Value.pointer x0))) x1 hp _) ?_ (Rv 1 _ (Rv 0 _ (Rn))) (Sc rfl (Sc rfl (Sn))) (Sn)
 refine AWP.seq' ?_
 refine AWP.block ?_
 refine AWP.seq (fun env pv hp => ∃ (x0 : Option Addr) (x5 : Bool) (k3 : List Value), Sub (upd (upd (upd E0 5 (sB (x5))) 3 (SV.priv 3 0)) 0 (sV (Value.pointer x0))) env ∧ Sub (upd V0 3 (75, k3)) pv ∧ (F100_j1 x0 x5 k3 hp  K)) ?_ ?_
 ·refine AWP.rgn (F100_r5 (upd E0 3 (SV.priv 3 0)) x0 x1 hp _) ?_ (Rv 0 _ (RefOk.p 3 3 0 (Rn) (fun e => by cases e))) (Sc rfl (Sc rfl (Sn))) (Sc rfl (Sn))
  refine ite2_mono h (fun h => ?_) (fun h => ?_)
  ·exact ⟨x0, true, x1, (Sc rfl (Sc rfl (Sc rfl (Sn)))), (Sc rfl (Sn)), h⟩
  ·refine ptrN_mono h (fun b_16 o_17 h => ?_)
   refine ldV_mono h (fun v_18 h => ?_)
   refine mapV_mono h (fun m_19 h => ?_)
   exact ⟨x0, (Option.isNone m_19), x1, (Sc rfl (Sc rfl (Sc rfl (Sn)))), (Sc rfl (Sn)), h⟩
 ·rintro env pv hp ⟨x0, x5, k3, he, hv, h⟩
  refine AWP.sub (env' := (upd (upd (upd E0 5 (sB (x5))) 3 (SV.priv 3 0)) 0 (sV (Value.pointer x0)))) (pv' := (upd V0 3 (75, k3))) ?_ (Rv 0 _ (RefOk.p 3 3 0 (Rv 5 _ (Rn)) (fun e => by cases e))) he hv (HSub.refl _)
  clear he hv
  unfold F100_j1 at h
  refine AWP.cond (t := x5) rfl (fun e => ?_) (fun e => ?_)
  ·replace h := ite2_t h e
   refine AWP.seq' ?_
   refine AWP.rgn (F100_r1 E0  hp _) ?_ (Rn) (Sn) (Sn)
   refine AWP.ret ?_
   exact h
  ·replace h := ite2_f h e
   refine AWP.seq (fun env pv hp => ∃ (x15 : Bool), Sub (upd E0 15 (sB (x15))) env ∧ Sub V0 pv ∧ (F100_j2 x15 hp  K)) ?_ ?_
   ·refine AWP.rgnD (by kernel_rfl) (by kernel_rfl) (F100_r4 E0 x0 k3 hp _) ?_ (Rv 0 _ (RefOk.p 3 3 0 (Rn) (fun e => by cases e))) (Sc rfl (Sc rfl (Sn))) (Sc rfl (Sn))
    refine ldV_mono h (fun v_1 h => ?_)
    refine intV_mono h (fun i_2 h => ?_)
    refine CF_mono h (fun u_3 h_4 h => ?_)
    refine boolV_mono h (fun q_5 h => ?_)
    refine ite2_mono h (fun h => ?_) (fun h => ?_)
    ·exact ⟨true, (Sc rfl (Sn)), (Sn), h⟩
    ·refine ptrN_mono h (fun b_6 o_7 h => ?_)
     refine ldV_mono h (fun v_8 h => ?_)
     refine slcV_mono h (fun a_9 n_10 c_11 h => ?_)
     refine ldL_mono h (fun l_12 h => ?_)
     refine CF_mono h (fun u_13 h_14 h => ?_)
     refine boolV_mono h (fun q_15 h => ?_)
     exact ⟨(!q_15), (Sc rfl (Sn)), (Sn), h⟩
   ·rintro env pv hp ⟨x15, he, hv, h⟩
    refine AWP.sub (env' := (upd E0 15 (sB (x15)))) (pv' := V0) ?_ (Rv 15 _ (Rn)) he hv (HSub.refl _)
    clear he hv
    unfold F100_j2 at h
    refine AWP.cond (t := x15) rfl (fun e => ?_) (fun e => ?_)
    ·replace h := ite2_t h e
     refine AWP.seq' ?_
     refine AWP.rgn (F100_r2 E0  hp _) ?_ (Rn) (Sn) (Sn)
     refine AWP.ret ?_
     exact h
    ·replace h := ite2_f h e
     refine AWP.skip ?_
     refine AWP.seq' ?_
     refine AWP.rgn (F100_r3 E0  hp _) ?_ (Rn) (Sn) (Sn)
     refine AWP.ret ?_
     exact h
end Go.Proofs

set_option linter.unusedVariables false
set_option maxRecDepth 20000
namespace Go.Proofs
open Go Go.HL

def zq : List Value := [.int .u8 0, .int .u8 0, .int .u8 0, .int .u8 0]
def zt : List Value := [.int .u8 0, .int .u8 0, .int .u8 0, .int .u8 0, .int .i64 0]

/-- Why nothing can be done with a transport address. -/
def mayQ (l : List Q) (t : Q × Int) : Int := if isPort t.2 ∧ t.1 ∈ l then 0 else 1

theorem C100 {p m : Nat} {l : List Q} {low high : Int} {held} {t : Q × Int} {hp : HP} {K : Value → HP → Prop} (hr : PoolR hp p l low high held m) (hlen : l.length ≤ 4)
    (h : K (.int .i64 (mayQ l t)) hp) : CF Try.prog 100 [ptr p 0, .agg ⟨t4 t⟩] hp K := by
  refine F100_ok _ (t4 t) hp K ?_
  unfold F100
  obtain ⟨a, c, h1, h2, h3⟩ := hr
  have h1c : ∀ o, hp.cell p o = [Value.slice a l.length c, .int .i64 low, .int .i64 high, .map (some m)][o]? := fun o => HP.cell_of h1
  simp only [Option.isNone_some, ite2_false, ptrN_some, h1c, Nat.zero_add, List.getElem?_cons_succ, List.getElem?_cons_zero, ldV_some, mapV_map]
  unfold F100_j1
  rw [ite2_false]
  show ldV (some (.int .i64 t.2)) _
  rw [ldV_some, intV_int]
  refine C74 ?_
  rw [boolV_bool]
  unfold mayQ at h
  cases hx : isPort t.2
  · simp only [hx, Bool.false_eq_true, false_and, if_false] at h
    simp only [Bool.not_false, ite2_true]
    unfold F100_j2
    exact h
  · simp only [Bool.not_true, ite2_false, ptrN_some, h1c, Nat.zero_add, List.getElem?_cons_zero, ldV_some, slcV_slice]
    show ldL (some (v4 t.1)) _
    rw [ldL_some]
    refine C92 h2.shows rfl (by omega) ?_
    rw [boolV_bool]
    unfold F100_j2
    by_cases hm : t.1 ∈ l
    · simp only [hx, hm, and_self, if_true] at h
      simpa [hm] using h
    · simp only [hm, and_false, if_false] at h
      simpa [hm] using h

/-! A nil pool. -/
/-! The document's answer. -/
theorem cls59 (x y : Int) : cls x y = (decide (0 ≤ x) && decide (x ≤ 65535) && decide (0 ≤ y) && decide (y ≤ 65535) && (x.tmod 2 == y.tmod 2) && (if x < 1024 then decide (y < 1024) else decide (y ≥ 1024))) := by
  unfold cls isPort
  rw [Bool.eq_iff_iff]
  simp only [Bool.and_eq_true, decide_eq_true_eq, beq_iff_eq]
  split
  · simp only [decide_eq_true_eq]
    constructor
    · rintro ⟨⟨⟨a, b⟩, c⟩, d⟩
      have : decide (x < 1024) = true := decide_eq_true (by assumption)
      rw [this] at c
      exact ⟨⟨⟨⟨⟨a.1, a.2⟩, b.1⟩, b.2⟩, d⟩, by simpa using c.symm⟩
    · rintro ⟨⟨⟨⟨⟨a, b⟩, c⟩, d⟩, e⟩, f⟩
      exact ⟨⟨⟨⟨a, b⟩, ⟨c, d⟩⟩, by rw [decide_eq_true (by assumption : x < 1024), decide_eq_true f]⟩, e⟩
  · simp only [decide_eq_true_eq]
    constructor
    · rintro ⟨⟨⟨a, b⟩, c⟩, d⟩
      have : decide (x < 1024) = false := decide_eq_false (by assumption)
      rw [this] at c
      have c' := of_decide_eq_false c.symm
      exact ⟨⟨⟨⟨⟨a.1, a.2⟩, b.1⟩, b.2⟩, d⟩, by omega⟩
    · rintro ⟨⟨⟨⟨⟨a, b⟩, c⟩, d⟩, e⟩, f⟩
      exact ⟨⟨⟨⟨a, b⟩, ⟨c, d⟩⟩, by rw [decide_eq_false (by assumption : ¬ x < 1024), decide_eq_false (by omega)]⟩, e⟩

end Go.Proofs

set_option linter.unusedVariables false
set_option maxRecDepth 20000
namespace Go.Proofs
open Go Go.HL

section
variable {p m : Nat} {l : List Q} {low high : Int} {held : List ((Q × Int) × Bool)} {t : Q × Int} {hp : HP} {K : Value → HP → Prop}

theorem PoolR.cellM (hr : PoolR hp p l low high held m) : hp.cell p (0 + 3) = some (.map (some m)) := by
  obtain ⟨a, c, h1, _, _⟩ := hr
  rw [HP.cell_of h1]; rfl
theorem PoolR.mapM (hr : PoolR hp p l low high held m) : MapE t4k vb held (hp m) := by
  obtain ⟨a, c, _, _, h3⟩ := hr
  exact h3

theorem mayQ_cases (l : List Q) (t : Q × Int) : mayQ l t = 0 ∨ mayQ l t = 1 := by
  unfold mayQ; split
  · exact .inl rfl
  · exact .inr rfl

/-- What Is tells. -/
def isQ (l : List Q) (held : List ((Q × Int) × Bool)) (t : Q × Int) : Bool × Bool :=
  if mayQ l t ≠ 0 then (false, false) else match getL t held with | none => (false, false) | some r => (!r, r)

/-- What Give, Reserve, Release answer. -/
def giveQ (l : List Q) (held : List ((Q × Int) × Bool)) (t : Q × Int) : Int :=
  if mayQ l t ≠ 0 then 1 else match getL t held with | none => 4 | some true => 11 | some false => 0
def reserveQ (l : List Q) (held : List ((Q × Int) × Bool)) (t : Q × Int) : Int :=
  if mayQ l t ≠ 0 then 1 else if (getL t held).isSome then 5 else 0
def releaseQ (l : List Q) (held : List ((Q × Int) × Bool)) (t : Q × Int) : Int :=
  if mayQ l t ≠ 0 then 1 else match getL t held with | some true => 0 | _ => 4

theorem C49 (hr : PoolR hp p l low high held m) (hlen : l.length ≤ 4)
    (hno : giveQ l held t ≠ 0 → K (.int .i64 (giveQ l held t)) hp)
    (hyes : giveQ l held t = 0 → ∀ e, MapE t4k vb (delL t held) e → K (.int .i64 0) (hp.set m e)) : CF Try.prog 49 [ptr p 0, .agg ⟨t4 t⟩] hp K := by
  refine F49_ok _ (t4 t) hp K ?_
  unfold F49
  rw [cellsN_all (t4_len t), ldL_some]
  refine C100 hr hlen ?_
  rw [intV_int]
  unfold giveQ at hno hyes
  rcases mayQ_cases l t with hm | hm
  · rw [hm] at hno hyes ⊢
    show ite2 false _ _
    rw [ite2_false, ptrN_some, hr.cellM, ldV_some, mapV_map, ldL_some]
    refine rdS_lookup u158 enc75 z4 hr.mapM t ?_
    simp only [if_true, tup2V_mk]
    cases hg : getL t held with
    | none => simpa [hg] using hno
    | some r =>
      cases r
      · simp only [Option.map_some, Option.getD_some, vb, boolV_bool, ite2_false, Option.isSome_some, Bool.not_true, ptrN_some, hr.cellM, ldV_some, mapV_map, ldL_some]
        refine opS_delete u158 enc75 hr.mapM t ?_
        intro e he
        exact hyes (by simp [hg]) e he
      · simpa [hg, vb] using hno
  · rw [hm] at hno ⊢
    exact hno (by simp)

theorem C50 (hr : PoolR hp p l low high held m) (hlen : l.length ≤ 4)
    (hno : reserveQ l held t ≠ 0 → K (.int .i64 (reserveQ l held t)) hp)
    (hyes : reserveQ l held t = 0 → ∀ e, MapE t4k vb (putL t true held) e → K (.int .i64 0) (hp.set m e)) : CF Try.prog 50 [ptr p 0, .agg ⟨t4 t⟩] hp K := by
  refine F50_ok _ (t4 t) hp K ?_
  unfold F50
  rw [cellsN_all (t4_len t), ldL_some]
  refine C100 hr hlen ?_
  rw [intV_int]
  unfold reserveQ at hno hyes
  rcases mayQ_cases l t with hm | hm
  · rw [hm] at hno hyes ⊢
    show ite2 false _ _
    rw [ite2_false, ptrN_some, hr.cellM, ldV_some, mapV_map, ldL_some]
    refine rdS_lookup u158 enc75 z4 hr.mapM t ?_
    simp only [if_true, tup2V_mk]
    cases hg : getL t held with
    | none =>
      simp only [Option.map_none, Option.getD_none, boolV_bool, Option.isSome_none, ite2_false, ptrN_some, hr.cellM, ldV_some, mapV_map, ldL_some]
      refine opS_mapUpdate u158 enc75 hr.mapM t true (ev := vb) ?_
      intro e he
      exact hyes (by simp [hg]) e he
    | some r => simpa [hg, vb] using hno
  · rw [hm] at hno ⊢
    exact hno (by simp)

theorem C51 (hr : PoolR hp p l low high held m) (hlen : l.length ≤ 4)
    (hno : releaseQ l held t ≠ 0 → K (.int .i64 (releaseQ l held t)) hp)
    (hyes : releaseQ l held t = 0 → ∀ e, MapE t4k vb (delL t held) e → K (.int .i64 0) (hp.set m e)) : CF Try.prog 51 [ptr p 0, .agg ⟨t4 t⟩] hp K := by
  refine F51_ok _ (t4 t) hp K ?_
  unfold F51
  rw [cellsN_all (t4_len t), ldL_some]
  refine C100 hr hlen ?_
  rw [intV_int]
  unfold releaseQ at hno hyes
  rcases mayQ_cases l t with hm | hm
  · rw [hm] at hno hyes ⊢
    show ite2 false _ _
    rw [ite2_false, ptrN_some, hr.cellM, ldV_some, mapV_map, ldL_some]
    refine rdS_lookup u158 enc75 z4 hr.mapM t ?_
    simp only [Bool.false_eq_true, if_false]
    cases hg : getL t held with
    | none => simpa [hg] using hno
    | some r =>
      cases r
      · simpa [hg, vb] using hno
      · simp only [Option.map_some, Option.getD_some, vb, boolV_bool, Bool.not_true, ite2_false, ptrN_some, hr.cellM, ldV_some, mapV_map, ldL_some]
        refine opS_delete u158 enc75 hr.mapM t ?_
        intro e he
        exact hyes (by simp [hg]) e he
  · rw [hm] at hno ⊢
    exact hno (by simp)
end
end Go.Proofs

namespace Go.HL
open Go

/-- The comparison that a sort is handed: whatever the row holds. -/
def CmpOk {α : Type} [Inhabited α] (P : Program) (f : FuncId) (ga gb : List Value) (hp0 : HP) (b : Nat) (e : TypeId) (sp : Nat) (en : α → List Value) (n : Nat) (cf : α → α → Int) : Prop :=
  ∀ (d : Array α) (x y : α) (K : Value → HP → Prop), d.size = n → K (.int .i64 (cf x y)) (HA hp0 b e sp en d) → CF P f (ga ++ [.agg ⟨en x⟩, .agg ⟨en y⟩] ++ gb) (HA hp0 b e sp en d) K

def ltC {α : Type} (cf : α → α → Int) (x y : α) : Bool := decide (cf x y < 0)
theorem swp_size {α : Type} [Inhabited α] (d : Array α) (i j : Nat) : (Sort.swp d i j).size = d.size := by simp [Sort.swp]
end Go.HL

set_option linter.unusedVariables false
namespace Go.Proofs
open Go Go.HL

theorem perm_of_map {α β : Type} {f : α → β} (hf : ∀ a b, f a = f b → a = b) : ∀ {l l' : List α}, (l.map f).Perm (l'.map f) → l.Perm l'
  | [], l', h => by
    have := h.length_eq
    simp at this
    rw [List.eq_nil_of_length_eq_zero this.symm]
  | a :: l, l', h => by
    classical
    have hm : f a ∈ l'.map f := h.mem_iff.1 (by simp)
    obtain ⟨a', ha', e⟩ := List.mem_map.1 hm
    have := hf _ _ e
    subst this
    have hp := List.perm_cons_erase ha'
    refine List.Perm.trans ?_ hp.symm
    refine List.Perm.cons _ (perm_of_map hf ?_)
    have h2 := h.trans (hp.map f)
    simp only [List.map_cons] at h2
    exact h2.cons_inv

/-- The lesser first, of two numbers. -/
def cmpI (x y : Int) : Int := if x < y then -1 else if x > y then 1 else 0
/-- The order of transport addresses: by where the address stands, then by port. -/
def cmpT (l : List Q) (a b : Q × Int) : Int := if cmpI (idx a.1 l) (idx b.1 l) ≠ 0 then cmpI (idx a.1 l) (idx b.1 l) else cmpI a.2 b.2

theorem cmpT_lt {l : List Q} {a b : Q × Int} : ltC (cmpT l) a b = true ↔ idx a.1 l < idx b.1 l ∨ (idx a.1 l = idx b.1 l ∧ a.2 < b.2) := by
  unfold ltC cmpT cmpI
  rw [decide_eq_true_iff]
  repeat' split
  all_goals omega

theorem cmpT_ltf {l : List Q} {a b : Q × Int} : ltC (cmpT l) a b = false ↔ ¬ (idx a.1 l < idx b.1 l ∨ (idx a.1 l = idx b.1 l ∧ a.2 < b.2)) := by
  rw [← cmpT_lt]; simp

theorem swo_cmpT (l : List Q) : Sort.SWO (ltC (cmpT l)) where
  irrefl x := by rw [cmpT_ltf]; omega
  trans x y z := by simp only [cmpT_lt]; omega
  ntrans x y z := by simp only [cmpT_ltf]; omega

/-- How many of a range are free. -/
def freeQ (l : List Q) (low high : Int) (held : List ((Q × Int) × Bool)) : Int :=
  l.length * (high - low + 1) - (held.filter (fun kv => decide (low ≤ kv.1.2) && decide (kv.1.2 ≤ high))).length
end Go.Proofs

set_option linter.unusedVariables false
set_option maxRecDepth 20000
namespace Go.Proofs
open Go Go.HL
-- 95 (*interpreter/pool.Pool).All$1
theorem F95_r0 (e : Env) (x0 : List Value) (x1 : List Value) (hp : HP) (K : Env → PV → HP → Prop) : RW Try.prog 28 [3, 4, 10, 17, 21, 23] (opsAt Try.f95 [0]) (List.range 3) (upd (upd e 1 (sV (Value.agg ⟨x1⟩))) 0 (sV (Value.agg ⟨x0⟩))) V0 hp K =
    (K (upd (upd (upd (upd (upd e 1 (sV (Value.agg ⟨x1⟩))) 0 (sV (Value.agg ⟨x0⟩))) 3 (SV.priv 3 0)) 4 (SV.priv 4 0)) 5 (sI (0))) (upd (upd V0 3 (75, x0)) 4 (75, x1)) hp) := by kernel_rfl
theorem F95_r1 (e : Env) (x2 : Option Addr) (k3 : List Value) (k4 : List Value) (hp : HP) (K : Env → PV → HP → Prop) : RW Try.prog 28 [3, 4, 10, 17, 21, 23] (opsAt Try.f95 [1, 0]) [0, 1, 2, 3, 4, 5, 6, 7, 8, 9, 10, 11, 12, 13, 14, 15, 16, 17, 18, 19, 20, 21, 22] (upd (upd (upd e 4 (SV.priv 4 0)) 3 (SV.priv 3 0)) 2 (sV (Value.pointer x2))) (upd (upd V0 4 (75, k4)) 3 (75, k3)) hp K =
    (ptrN x2 fun b1 o2 => (ldV (HP.cell hp b1 o2) fun v3 => (ptrV v3 fun p4 => (ptrN p4 fun b5 o6 => (ldV (HP.cell hp b5 (o6 + 0)) fun v7 => (slcV v7 fun a8 n9 c10 => (ldL (cellsN k3 0 4) fun l11 => (CF Try.prog 98 [(Value.slice a8 n9 c10), (Value.agg ⟨l11⟩)] hp fun u12 h13 => (intV u12 .i64 fun i14 => (ptrN x2 fun b15 o16 => (ldV (HP.cell h13 b15 o16) fun v17 => (ptrV v17 fun p18 => (ptrN p18 fun b19 o20 => (ldV (HP.cell h13 b19 (o20 + 0)) fun v21 => (slcV v21 fun a22 n23 c24 => (ldL (cellsN k4 0 4) fun l25 => (CF Try.prog 98 [(Value.slice a22 n23 c24), (Value.agg ⟨l25⟩)] h13 fun u26 h27 => (intV u26 .i64 fun i28 => (CF Try.prog 97 [(Value.int .i64 i14), (Value.int .i64 i28)] h27 fun u29 h30 => (intV u29 .i64 fun i31 => (ldV (k3)[4]? fun v32 => (intV v32 .i64 fun i33 => (ldV (k4)[4]? fun v34 => (intV v34 .i64 fun i35 => (CF Try.prog 97 [(Value.int .i64 i33), (Value.int .i64 i35)] h30 fun u36 h37 => (intV u36 .i64 fun i38 => (∀ b39 : Nat, h37 b39 = .none → (CF Try.prog 96 [(Value.slice (some ⟨b39, 0, none⟩) 2 2)] (HP.set h37 b39 (.cells 3 [(Value.int .i64 i31), (Value.int .i64 i38)] 0)) fun u40 h41 => (intV u40 .i64 fun i42 => (K (upd (upd (upd (upd (upd (upd (upd (upd (upd (upd (upd (upd (upd (upd (upd (upd (upd (upd (upd (upd (upd (upd (upd (upd (upd (upd e 4 (SV.priv 4 0)) 3 (SV.priv 3 0)) 2 (sV (Value.pointer x2))) 6 (sV (Value.pointer p4))) 7 (sV (ptr b5 o6))) 8 (sV (ptr b5 (o6 + 0)))) 9 (sV (Value.slice a8 n9 c10))) 10 (SV.priv 3 0)) 11 (sV (Value.agg ⟨l11⟩))) 12 (sI (i14))) 13 (sV (Value.pointer p18))) 14 (sV (ptr b19 o20))) 15 (sV (ptr b19 (o20 + 0)))) 16 (sV (Value.slice a22 n23 c24))) 17 (SV.priv 4 0)) 18 (sV (Value.agg ⟨l25⟩))) 19 (sI (i28))) 20 (sI (i31))) 21 (SV.priv 3 4)) 22 (sI (i33))) 23 (SV.priv 4 4)) 24 (sI (i35))) 25 (sI (i38))) 26 (sV (Value.slice (some ⟨b39, 0, none⟩) 2 2))) 27 (sI (i42))) 5 (sI (i42))) (upd (upd V0 4 (75, k4)) 3 (75, k3)) h41)))))))))))))))))))))))))))))) := by kernel_rfl
theorem F95_r2 (e : Env) (x2 : Option Addr) (k3 : List Value) (k4 : List Value) (hp : HP) (K : Env → PV → HP → Prop) : RW Try.prog 28 [3, 4, 10, 17, 21, 23] (opsAt Try.f95 [1, 0]) [0, 1, 2, 3, 4, 5, 7, 6, 8, 9, 10, 11, 12, 13, 14, 15, 16, 17, 18, 19, 20, 21, 22] (upd (upd (upd e 4 (SV.priv 4 0)) 3 (SV.priv 3 0)) 2 (sV (Value.pointer x2))) (upd (upd V0 4 (75, k4)) 3 (75, k3)) hp K =
    (ptrN x2 fun b1 o2 => (ldV (HP.cell hp b1 o2) fun v3 => (ptrV v3 fun p4 => (ptrN p4 fun b5 o6 => (ldV (HP.cell hp b5 (o6 + 0)) fun v7 => (slcV v7 fun a8 n9 c10 => (ldL (cellsN k3 0 4) fun l11 => (ptrN x2 fun b12 o13 => (ldV (HP.cell hp b12 o13) fun v14 => (ptrV v14 fun p15 => (CF Try.prog 98 [(Value.slice a8 n9 c10), (Value.agg ⟨l11⟩)] hp fun u16 h17 => (intV u16 .i64 fun i18 => (ptrN p15 fun b19 o20 => (ldV (HP.cell h17 b19 (o20 + 0)) fun v21 => (slcV v21 fun a22 n23 c24 => (ldL (cellsN k4 0 4) fun l25 => (CF Try.prog 98 [(Value.slice a22 n23 c24), (Value.agg ⟨l25⟩)] h17 fun u26 h27 => (intV u26 .i64 fun i28 => (CF Try.prog 97 [(Value.int .i64 i18), (Value.int .i64 i28)] h27 fun u29 h30 => (intV u29 .i64 fun i31 => (ldV (k3)[4]? fun v32 => (intV v32 .i64 fun i33 => (ldV (k4)[4]? fun v34 => (intV v34 .i64 fun i35 => (CF Try.prog 97 [(Value.int .i64 i33), (Value.int .i64 i35)] h30 fun u36 h37 => (intV u36 .i64 fun i38 => (∀ b39 : Nat, h37 b39 = .none → (CF Try.prog 96 [(Value.slice (some ⟨b39, 0, none⟩) 2 2)] (HP.set h37 b39 (.cells 3 [(Value.int .i64 i31), (Value.int .i64 i38)] 0)) fun u40 h41 => (intV u40 .i64 fun i42 => (K (upd (upd (upd (upd (upd (upd (upd (upd (upd (upd (upd (upd (upd (upd (upd (upd (upd (upd (upd (upd (upd (upd (upd (upd (upd (upd e 4 (SV.priv 4 0)) 3 (SV.priv 3 0)) 2 (sV (Value.pointer x2))) 6 (sV (Value.pointer p4))) 7 (sV (ptr b5 o6))) 8 (sV (ptr b5 (o6 + 0)))) 9 (sV (Value.slice a8 n9 c10))) 10 (SV.priv 3 0)) 11 (sV (Value.agg ⟨l11⟩))) 13 (sV (Value.pointer p15))) 12 (sI (i18))) 14 (sV (ptr b19 o20))) 15 (sV (ptr b19 (o20 + 0)))) 16 (sV (Value.slice a22 n23 c24))) 17 (SV.priv 4 0)) 18 (sV (Value.agg ⟨l25⟩))) 19 (sI (i28))) 20 (sI (i31))) 21 (SV.priv 3 4)) 22 (sI (i33))) 23 (SV.priv 4 4)) 24 (sI (i35))) 25 (sI (i38))) 26 (sV (Value.slice (some ⟨b39, 0, none⟩) 2 2))) 27 (sI (i42))) 5 (sI (i42))) (upd (upd V0 4 (75, k4)) 3 (75, k3)) h41)))))))))))))))))))))))))))))) := by kernel_rfl
theorem F95_r3 (e : Env) (x2 : Option Addr) (k3 : List Value) (k4 : List Value) (hp : HP) (K : Env → PV → HP → Prop) : RW Try.prog 28 [3, 4, 10, 17, 21, 23] (opsAt Try.f95 [1, 0]) [0, 1, 2, 3, 4, 5, 7, 8, 9, 10, 6, 11, 12, 13, 14, 15, 16, 17, 18, 19, 20, 21, 22] (upd (upd (upd e 4 (SV.priv 4 0)) 3 (SV.priv 3 0)) 2 (sV (Value.pointer x2))) (upd (upd V0 4 (75, k4)) 3 (75, k3)) hp K =
    (ptrN x2 fun b1 o2 => (ldV (HP.cell hp b1 o2) fun v3 => (ptrV v3 fun p4 => (ptrN p4 fun b5 o6 => (ldV (HP.cell hp b5 (o6 + 0)) fun v7 => (slcV v7 fun a8 n9 c10 => (ldL (cellsN k3 0 4) fun l11 => (ptrN x2 fun b12 o13 => (ldV (HP.cell hp b12 o13) fun v14 => (ptrV v14 fun p15 => (ptrN p15 fun b16 o17 => (ldV (HP.cell hp b16 (o17 + 0)) fun v18 => (slcV v18 fun a19 n20 c21 => (CF Try.prog 98 [(Value.slice a8 n9 c10), (Value.agg ⟨l11⟩)] hp fun u22 h23 => (intV u22 .i64 fun i24 => (ldL (cellsN k4 0 4) fun l25 => (CF Try.prog 98 [(Value.slice a19 n20 c21), (Value.agg ⟨l25⟩)] h23 fun u26 h27 => (intV u26 .i64 fun i28 => (CF Try.prog 97 [(Value.int .i64 i24), (Value.int .i64 i28)] h27 fun u29 h30 => (intV u29 .i64 fun i31 => (ldV (k3)[4]? fun v32 => (intV v32 .i64 fun i33 => (ldV (k4)[4]? fun v34 => (intV v34 .i64 fun i35 => (CF Try.prog 97 [(Value.int .i64 i33), (Value.int .i64 i35)] h30 fun u36 h37 => (intV u36 .i64 fun i38 => (∀ b39 : Nat, h37 b39 = .none → (CF Try.prog 96 [(Value.slice (some ⟨b39, 0, none⟩) 2 2)] (HP.set h37 b39 (.cells 3 [(Value.int .i64 i31), (Value.int .i64 i38)] 0)) fun u40 h41 => (intV u40 .i64 fun i42 => (K (upd (upd (upd (upd (upd (upd (upd (upd (upd (upd (upd (upd (upd (upd (upd (upd (upd (upd (upd (upd (upd (upd (upd (upd (upd (upd e 4 (SV.priv 4 0)) 3 (SV.priv 3 0)) 2 (sV (Value.pointer x2))) 6 (sV (Value.pointer p4))) 7 (sV (ptr b5 o6))) 8 (sV (ptr b5 (o6 + 0)))) 9 (sV (Value.slice a8 n9 c10))) 10 (SV.priv 3 0)) 11 (sV (Value.agg ⟨l11⟩))) 13 (sV (Value.pointer p15))) 14 (sV (ptr b16 o17))) 15 (sV (ptr b16 (o17 + 0)))) 16 (sV (Value.slice a19 n20 c21))) 12 (sI (i24))) 17 (SV.priv 4 0)) 18 (sV (Value.agg ⟨l25⟩))) 19 (sI (i28))) 20 (sI (i31))) 21 (SV.priv 3 4)) 22 (sI (i33))) 23 (SV.priv 4 4)) 24 (sI (i35))) 25 (sI (i38))) 26 (sV (Value.slice (some ⟨b39, 0, none⟩) 2 2))) 27 (sI (i42))) 5 (sI (i42))) (upd (upd V0 4 (75, k4)) 3 (75, k3)) h41)))))))))))))))))))))))))))))) := by kernel_rfl
def F95 (x0 : List Value) (x1 : List Value) (x2 : Option Addr) (hp : HP) (K : Value → HP → Prop) : Prop :=
  ((ptrN x2 fun b_1 o_2 => (ldV (HP.cell hp b_1 o_2) fun v_3 => (ptrV v_3 fun p_4 => (ptrN p_4 fun b_5 o_6 => (ldV (HP.cell hp b_5 (o_6 + 0)) fun v_7 => (slcV v_7 fun a_8 n_9 c_10 => (ldL (cellsN x0 0 4) fun l_11 => (CF Try.prog 98 [(Value.slice a_8 n_9 c_10), (Value.agg ⟨l_11⟩)] hp fun u_12 h_13 => (intV u_12 .i64 fun i_14 => (ptrN x2 fun b_15 o_16 => (ldV (HP.cell h_13 b_15 o_16) fun v_17 => (ptrV v_17 fun p_18 => (ptrN p_18 fun b_19 o_20 => (ldV (HP.cell h_13 b_19 (o_20 + 0)) fun v_21 => (slcV v_21 fun a_22 n_23 c_24 => (ldL (cellsN x1 0 4) fun l_25 => (CF Try.prog 98 [(Value.slice a_22 n_23 c_24), (Value.agg ⟨l_25⟩)] h_13 fun u_26 h_27 => (intV u_26 .i64 fun i_28 => (CF Try.prog 97 [(Value.int .i64 i_14), (Value.int .i64 i_28)] h_27 fun u_29 h_30 => (intV u_29 .i64 fun i_31 => (ldV (x0)[4]? fun v_32 => (intV v_32 .i64 fun i_33 => (ldV (x1)[4]? fun v_34 => (intV v_34 .i64 fun i_35 => (CF Try.prog 97 [(Value.int .i64 i_33), (Value.int .i64 i_35)] h_30 fun u_36 h_37 => (intV u_36 .i64 fun i_38 => (∀ b_39 : Nat, h_37 b_39 = .none → (CF Try.prog 96 [(Value.slice (some ⟨b_39, 0, none⟩) 2 2)] (HP.set h_37 b_39 (.cells 3 [(Value.int .i64 i_31), (Value.int .i64 i_38)] 0)) fun u_40 h_41 => (intV u_40 .i64 fun i_42 => (K (Value.int .i64 i_42) h_41)))))))))))))))))))))))))))))) ∧ (ptrN x2 fun b_43 o_44 => (ldV (HP.cell hp b_43 o_44) fun v_45 => (ptrV v_45 fun p_46 => (ptrN p_46 fun b_47 o_48 => (ldV (HP.cell hp b_47 (o_48 + 0)) fun v_49 => (slcV v_49 fun a_50 n_51 c_52 => (ldL (cellsN x0 0 4) fun l_53 => (ptrN x2 fun b_54 o_55 => (ldV (HP.cell hp b_54 o_55) fun v_56 => (ptrV v_56 fun p_57 => (CF Try.prog 98 [(Value.slice a_50 n_51 c_52), (Value.agg ⟨l_53⟩)] hp fun u_58 h_59 => (intV u_58 .i64 fun i_60 => (ptrN p_57 fun b_61 o_62 => (ldV (HP.cell h_59 b_61 (o_62 + 0)) fun v_63 => (slcV v_63 fun a_64 n_65 c_66 => (ldL (cellsN x1 0 4) fun l_67 => (CF Try.prog 98 [(Value.slice a_64 n_65 c_66), (Value.agg ⟨l_67⟩)] h_59 fun u_68 h_69 => (intV u_68 .i64 fun i_70 => (CF Try.prog 97 [(Value.int .i64 i_60), (Value.int .i64 i_70)] h_69 fun u_71 h_72 => (intV u_71 .i64 fun i_73 => (ldV (x0)[4]? fun v_74 => (intV v_74 .i64 fun i_75 => (ldV (x1)[4]? fun v_76 => (intV v_76 .i64 fun i_77 => (CF Try.prog 97 [(Value.int .i64 i_75), (Value.int .i64 i_77)] h_72 fun u_78 h_79 => (intV u_78 .i64 fun i_80 => (∀ b_81 : Nat, h_79 b_81 = .none → (CF Try.prog 96 [(Value.slice (some ⟨b_81, 0, none⟩) 2 2)] (HP.set h_79 b_81 (.cells 3 [(Value.int .i64 i_73), (Value.int .i64 i_80)] 0)) fun u_82 h_83 => (intV u_82 .i64 fun i_84 => (K (Value.int .i64 i_84) h_83)))))))))))))))))))))))))))))) ∧ (ptrN x2 fun b_85 o_86 => (ldV (HP.cell hp b_85 o_86) fun v_87 => (ptrV v_87 fun p_88 => (ptrN p_88 fun b_89 o_90 => (ldV (HP.cell hp b_89 (o_90 + 0)) fun v_91 => (slcV v_91 fun a_92 n_93 c_94 => (ldL (cellsN x0 0 4) fun l_95 => (ptrN x2 fun b_96 o_97 => (ldV (HP.cell hp b_96 o_97) fun v_98 => (ptrV v_98 fun p_99 => (ptrN p_99 fun b_100 o_101 => (ldV (HP.cell hp b_100 (o_101 + 0)) fun v_102 => (slcV v_102 fun a_103 n_104 c_105 => (CF Try.prog 98 [(Value.slice a_92 n_93 c_94), (Value.agg ⟨l_95⟩)] hp fun u_106 h_107 => (intV u_106 .i64 fun i_108 => (ldL (cellsN x1 0 4) fun l_109 => (CF Try.prog 98 [(Value.slice a_103 n_104 c_105), (Value.agg ⟨l_109⟩)] h_107 fun u_110 h_111 => (intV u_110 .i64 fun i_112 => (CF Try.prog 97 [(Value.int .i64 i_108), (Value.int .i64 i_112)] h_111 fun u_113 h_114 => (intV u_113 .i64 fun i_115 => (ldV (x0)[4]? fun v_116 => (intV v_116 .i64 fun i_117 => (ldV (x1)[4]? fun v_118 => (intV v_118 .i64 fun i_119 => (CF Try.prog 97 [(Value.int .i64 i_117), (Value.int .i64 i_119)] h_114 fun u_120 h_121 => (intV u_120 .i64 fun i_122 => (∀ b_123 : Nat, h_121 b_123 = .none → (CF Try.prog 96 [(Value.slice (some ⟨b_123, 0, none⟩) 2 2)] (HP.set h_121 b_123 (.cells 3 [(Value.int .i64 i_115), (Value.int .i64 i_122)] 0)) fun u_124 h_125 => (intV u_124 .i64 fun i_126 => (K (Value.int .i64 i_126) h_125)))))))))))))))))))))))))))))))
noncomputable def F95_code : Code := (.seq (.region 0 (opsAt Try.f95 [0]) false) (.seq (.region 1 (opsAt Try.f95 [1, 0]) true) .ret))
theorem F95_body : Try.f95.body = some F95_code := by kernel_rfl
theorem F95_ok (x0 : List Value) (x1 : List Value) (x2 : Option Addr) (hp : HP) (K : Value → HP → Prop) (h : F95 x0 x1 x2 hp K) : CF Try.prog 95 [(Value.agg ⟨x0⟩), (Value.agg ⟨x1⟩), (Value.pointer x2)] hp K := by
 refine .inl ⟨by kernel_rfl, AC.intro (N := 28) Try.func95 F95_body rfl (Nat.le_of_ble_eq_true rfl) ?_⟩
 unfold F95 at h
 unfold F95_code
 refine AWP.seq' ?_
 refine AWP.rgn (F95_r0 (upd E0 2 (sV (Value.pointer x2))) x0 x1 hp _) ?_ (Rv 0 _ (Rv 1 _ (Rv 2 _ (Rn)))) (Sc rfl (Sc rfl (Sc rfl (Sn)))) (Sn)
 refine AWP.seq' ?_
 refine AWP.rgnC (cf := [(6, 7), (6, 10)]) (c := [([true, true], true, [0, 1, 2, 3, 4, 5, 6, 7, 8, 9, 10, 11, 12, 13, 14, 15, 16, 17, 18, 19, 20, 21, 22]), ([true, false], false, [6, 7, 8, 9, 10, 6]), ([false, true], true, [0, 1, 2, 3, 4, 5, 7, 6, 8, 9, 10, 11, 12, 13, 14, 15, 16, 17, 18, 19, 20, 21, 22]), ([false, false], true, [0, 1, 2, 3, 4, 5, 7, 8, 9, 10, 6, 11, 12, 13, 14, 15, 16, 17, 18, 19, 20, 21, 22])]) (by kernel_rfl) (by kernel_rfl) (by kernel_rfl) (by kernel_rfl) (allO_t (Eq.mpr (F95_r1 E0 x2 x0 x1 hp _) ?_) (allO_f (allO_t (Eq.mpr (F95_r2 E0 x2 x0 x1 hp _) ?_) (allO_t (Eq.mpr (F95_r3 E0 x2 x0 x1 hp _) ?_) trivial)))) (Rv 2 _ (RefOk.p 3 3 0 (RefOk.p 4 4 0 (Rn) (fun e => by cases e)) (fun e => by cases e))) (Sc rfl (Sc rfl (Sc rfl (Sn)))) (Sc rfl (Sc rfl (Sn)))
 ·replace h := h.1
  refine ptrN_mono h (fun b_1 o_2 h => ?_)
  refine ldV_mono h (fun v_3 h => ?_)
  refine ptrV_mono h (fun p_4 h => ?_)
  refine ptrN_mono h (fun b_5 o_6 h => ?_)
  refine ldV_mono h (fun v_7 h => ?_)
  refine slcV_mono h (fun a_8 n_9 c_10 h => ?_)
  refine ldL_mono h (fun l_11 h => ?_)
  refine CF_mono h (fun u_12 h_13 h => ?_)
  refine intV_mono h (fun i_14 h => ?_)
  refine ptrN_mono h (fun b_15 o_16 h => ?_)
  refine ldV_mono h (fun v_17 h => ?_)
  refine ptrV_mono h (fun p_18 h => ?_)
  refine ptrN_mono h (fun b_19 o_20 h => ?_)
  refine ldV_mono h (fun v_21 h => ?_)
  refine slcV_mono h (fun a_22 n_23 c_24 h => ?_)
  refine ldL_mono h (fun l_25 h => ?_)
  refine CF_mono h (fun u_26 h_27 h => ?_)
  refine intV_mono h (fun i_28 h => ?_)
  refine CF_mono h (fun u_29 h_30 h => ?_)
  refine intV_mono h (fun i_31 h => ?_)
  refine ldV_mono h (fun v_32 h => ?_)
  refine intV_mono h (fun i_33 h => ?_)
  refine ldV_mono h (fun v_34 h => ?_)
  refine intV_mono h (fun i_35 h => ?_)
  refine CF_mono h (fun u_36 h_37 h => ?_)
  refine intV_mono h (fun i_38 h => ?_)
  refine fun b_39 hb_b_39 => ?_
  replace h := h b_39 hb_b_39
  refine CF_mono h (fun u_40 h_41 h => ?_)
  refine intV_mono h (fun i_42 h => ?_)
  refine AWP.ret ?_
  exact h
 ·replace h := h.2.1
  refine ptrN_mono h (fun b_43 o_44 h => ?_)
  refine ldV_mono h (fun v_45 h => ?_)
  refine ptrV_mono h (fun p_46 h => ?_)
  refine ptrN_mono h (fun b_47 o_48 h => ?_)
  refine ldV_mono h (fun v_49 h => ?_)
  refine slcV_mono h (fun a_50 n_51 c_52 h => ?_)
  refine ldL_mono h (fun l_53 h => ?_)
  refine ptrN_mono h (fun b_54 o_55 h => ?_)
  refine ldV_mono h (fun v_56 h => ?_)
  refine ptrV_mono h (fun p_57 h => ?_)
  refine CF_mono h (fun u_58 h_59 h => ?_)
  refine intV_mono h (fun i_60 h => ?_)
  refine ptrN_mono h (fun b_61 o_62 h => ?_)
  refine ldV_mono h (fun v_63 h => ?_)
  refine slcV_mono h (fun a_64 n_65 c_66 h => ?_)
  refine ldL_mono h (fun l_67 h => ?_)
  refine CF_mono h (fun u_68 h_69 h => ?_)
  refine intV_mono h (fun i_70 h => ?_)
  refine CF_mono h (fun u_71 h_72 h => ?_)
  refine intV_mono h (fun i_73 h => ?_)
  refine ldV_mono h (fun v_74 h => ?_)
  refine intV_mono h (fun i_75 h => ?_)
  refine ldV_mono h (fun v_76 h => ?_)
  refine intV_mono h (fun i_77 h => ?_)
  refine CF_mono h (fun u_78 h_79 h => ?_)
  refine intV_mono h (fun i_80 h => ?_)
  refine fun b_81 hb_b_81 => ?_
  replace h := h b_81 hb_b_81
  refine CF_mono h (fun u_82 h_83 h => ?_)
  refine intV_mono h (fun i_84 h => ?_)
  refine AWP.ret ?_
  exact h
 ·replace h := h.2.2
  refine ptrN_mono h (fun b_85 o_86 h => ?_)
  refine ldV_mono h (fun v_87 h => ?_)
  refine ptrV_mono h (fun p_88 h => ?_)
  refine ptrN_mono h (fun b_89 o_90 h => ?_)
  refine ldV_mono h (fun v_91 h => ?_)
  refine slcV_mono h (fun a_92 n_93 c_94 h => ?_)
  refine ldL_mono h (fun l_95 h => ?_)
  refine ptrN_mono h (fun b_96 o_97 h => ?_)
  refine ldV_mono h (fun v_98 h => ?_)
  refine ptrV_mono h (fun p_99 h => ?_)
  refine ptrN_mono h (fun b_100 o_101 h => ?_)
  refine ldV_mono h (fun v_102 h => ?_)
  refine slcV_mono h (fun a_103 n_104 c_105 h => ?_)
  refine CF_mono h (fun u_106 h_107 h => ?_)
  refine intV_mono h (fun i_108 h => ?_)
  refine ldL_mono h (fun l_109 h => ?_)
  refine CF_mono h (fun u_110 h_111 h => ?_)
  refine intV_mono h (fun i_112 h => ?_)
  refine CF_mono h (fun u_113 h_114 h => ?_)
  refine intV_mono h (fun i_115 h => ?_)
  refine ldV_mono h (fun v_116 h => ?_)
  refine intV_mono h (fun i_117 h => ?_)
  refine ldV_mono h (fun v_118 h => ?_)
  refine intV_mono h (fun i_119 h => ?_)
  refine CF_mono h (fun u_120 h_121 h => ?_)
  refine intV_mono h (fun i_122 h => ?_)
  refine fun b_123 hb_b_123 => ?_
  replace h := h b_123 hb_b_123
  refine CF_mono h (fun u_124 h_125 h => ?_)
  refine intV_mono h (fun i_126 h => ?_)
  refine AWP.ret ?_
  exact h
-- 96 cmp.Or[int]
theorem F96_r0 (e : Env) (hp : HP) (K : Env → PV → HP → Prop) : RW Try.prog 18 [] (opsAt Try.f96 [0]) (List.range 1) e V0 hp K =
    (K (upd e 2 (sI (0))) V0 hp) := by kernel_rfl
theorem F96_r1 (e : Env) (hp : HP) (K : Env → PV → HP → Prop) : RW Try.prog 18 [] (opsAt Try.f96 [1, 0]) (List.range 1) e V0 hp K =
    (K (upd e 3 (sI (0))) V0 hp) := by kernel_rfl
theorem F96_r2 (e : Env) (x3 : Int) (hp : HP) (K : Env → PV → HP → Prop) : RW Try.prog 18 [] (opsAt Try.f96 [1, 1, 1, 0]) (List.range 2) (upd e 3 (sI (x3))) V0 hp K =
    (K (upd (upd (upd e 3 (sI (x3))) 17 (sI (x3))) 2 (sI (x3))) V0 hp) := by kernel_rfl
def F96_j1 (x3 : Int) (hp : HP) (K : Value → HP → Prop) : Prop :=
  (K (Value.int .i64 x3) hp)
theorem F96_r3 (e : Env) (x7 : Int) (x8 : Int) (hp : HP) (K : Env → PV → HP → Prop) : RW Try.prog 18 [] (opsAt Try.f96 [1, 1, 0, 1, 0, 0, 0]) (List.range 1) (upd (upd e 8 (sI (x8))) 7 (sI (x7))) V0 hp K =
    (K (upd (upd (upd e 8 (sI (x8))) 7 (sI (x7))) 9 (sB ((decide ((x8 : Int) < x7))))) V0 hp) := by kernel_rfl
theorem F96_r4 (e : Env) (x6a : Option Addr) (x6n : Nat) (x6c : Nat) (x8 : Int) (hp : HP) (K : Env → PV → HP → Prop) : RW Try.prog 18 [] (opsAt Try.f96 [1, 1, 0, 1, 0, 0, 1, 1, 0, 0, 0]) (List.range 3) (upd (upd e 8 (sI (x8))) 6 (sV (Value.slice x6a x6n x6c))) V0 hp K =
    ((0 ≤ (x8 : Int)) ∧ ((x8 : Int) < (x6n : Nat)) ∧ (ptrN x6a fun b1 o2 => (ldV (HP.cell hp b1 (o2 + Int.toNat x8 * 1)) fun v3 => (intV v3 .i64 fun i4 => (K (upd (upd (upd (upd (upd e 8 (sI (x8))) 6 (sV (Value.slice x6a x6n x6c))) 10 (sV (ptr b1 (o2 + Int.toNat x8 * 1)))) 11 (sI (i4))) 5 (sI (i4))) V0 hp))))) := by kernel_rfl
theorem F96_r5 (e : Env) (x3 : Int) (x5 : Int) (hp : HP) (K : Env → PV → HP → Prop) : RW Try.prog 18 [] (opsAt Try.f96 [1, 1, 0, 1, 0, 0, 1, 1, 0, 0, 1, 0]) (List.range 3) (upd (upd e 5 (sI (x5))) 3 (sI (x3))) V0 hp K =
    (K (upd (upd (upd (upd (upd e 5 (sI (x5))) 3 (sI (x3))) 12 (sI (x5))) 13 (sI (x3))) 14 (sB (((x5 : Int) != x3)))) V0 hp) := by kernel_rfl
theorem F96_r6 (e : Env) (x5 : Int) (hp : HP) (K : Env → PV → HP → Prop) : RW Try.prog 18 [] (opsAt Try.f96 [1, 1, 0, 1, 0, 0, 1, 1, 0, 0, 1, 1, 0, 0]) (List.range 2) (upd e 5 (sI (x5))) V0 hp K =
    (K (upd (upd (upd e 5 (sI (x5))) 15 (sI (x5))) 2 (sI (x5))) V0 hp) := by kernel_rfl
theorem F96_r7 (e : Env) (x8 : Int) (hp : HP) (K : Env → PV → HP → Prop) : RW Try.prog 18 [] (opsAt Try.f96 [1, 1, 0, 1, 0, 0, 1, 1, 1]) (List.range 2) (upd e 8 (sI (x8))) V0 hp K =
    (K (upd (upd (upd e 8 (sI (x8))) 16 (sI ((IntKind.wrap .i64 (x8 + 1))))) 8 (sI ((IntKind.wrap .i64 (x8 + 1))))) V0 hp) := by kernel_rfl
def F96_l3 (x3 : Int) (x6a : Option Addr) (x6n : Nat) (x6c : Nat) (x7 : Int) (K : Value → HP → Prop) (I3 : (Int) → HP → Prop) (x8 : Int) (hp : HP) : Prop :=
  (ite2 (decide ((x8 : Int) < x7)) ((0 ≤ (x8 : Int)) ∧ ((x8 : Int) < (x6n : Nat)) ∧ (ptrN x6a fun b_1 o_2 => (ldV (HP.cell hp b_1 (o_2 + Int.toNat x8 * 1)) fun v_3 => (intV v_3 .i64 fun i_4 => (ite2 ((i_4 : Int) != x3) (K (Value.int .i64 i_4) hp) (I3 (IntKind.wrap .i64 (x8 + 1)) hp)))))) (F96_j1 x3 hp  K))
def F96_j2 (x3 : Int) (x6a : Option Addr) (x6n : Nat) (x6c : Nat) (x7 : Int) (x8 : Int) (hp : HP) (K : Value → HP → Prop) : Prop :=
  (LoopP (σ := Int) (fun I s hp => F96_l3 x3 x6a x6n x6c x7  K I s hp) x8 hp)
theorem F96_r8 (e : Env) (x0a : Option Addr) (x0n : Nat) (x0c : Nat) (hp : HP) (K : Env → PV → HP → Prop) : RW Try.prog 18 [] (opsAt Try.f96 [1, 1, 0, 0]) (List.range 3) (upd e 0 (sV (Value.slice x0a x0n x0c))) V0 hp K =
    (K (upd (upd (upd (upd e 0 (sV (Value.slice x0a x0n x0c))) 6 (sV (Value.slice x0a x0n x0c))) 7 (sI ((x0n : Nat)))) 8 (sI (0))) V0 hp) := by kernel_rfl
def F96 (x0a : Option Addr) (x0n : Nat) (x0c : Nat) (hp : HP) (K : Value → HP → Prop) : Prop :=
  (F96_j2 0 x0a x0n x0c (x0n : Nat) 0 hp  K)
noncomputable def F96_code : Code := (.seq (.region 0 (opsAt Try.f96 [0]) false) (.seq (.region 1 (opsAt Try.f96 [1, 0]) false) (.seq (.seq (.region 2 (opsAt Try.f96 [1, 1, 0, 0]) false) (.block 0 (.loop (.seq (.region 3 (opsAt Try.f96 [1, 1, 0, 1, 0, 0, 0]) false) (.seq (.cond (.tmp 9) .skip (.exit 0)) (.seq (.block 1 (.seq (.region 4 (opsAt Try.f96 [1, 1, 0, 1, 0, 0, 1, 1, 0, 0, 0]) false) (.seq (.region 5 (opsAt Try.f96 [1, 1, 0, 1, 0, 0, 1, 1, 0, 0, 1, 0]) false) (.cond (.tmp 14) (.seq (.region 6 (opsAt Try.f96 [1, 1, 0, 1, 0, 0, 1, 1, 0, 0, 1, 1, 0, 0]) false) .ret) .skip)))) (.region 7 (opsAt Try.f96 [1, 1, 0, 1, 0, 0, 1, 1, 1]) false))))))) (.seq (.region 8 (opsAt Try.f96 [1, 1, 1, 0]) false) .ret))))
theorem F96_body : Try.f96.body = some F96_code := by kernel_rfl
theorem F96_ok (x0a : Option Addr) (x0n : Nat) (x0c : Nat) (hp : HP) (K : Value → HP → Prop) (h : F96 x0a x0n x0c hp K) : CF Try.prog 96 [(Value.slice x0a x0n x0c)] hp K := by
 refine .inl ⟨by kernel_rfl, AC.intro (N := 18) Try.func96 F96_body rfl (Nat.le_of_ble_eq_true rfl) ?_⟩
 unfold F96 at h
 unfold F96_code
 refine AWP.seq' ?_
 refine AWP.rgn (F96_r0 (upd E0 0 (sV (Value.slice x0a x0n x0c)))  hp _) ?_ (Rv 0 _ (Rn)) (Sc rfl (Sn)) (Sn)
 refine AWP.seq' ?_
 refine AWP.rgn (F96_r1 (upd E0 0 (sV (Value.slice x0a x0n x0c)))  hp _) ?_ (Rv 0 _ (Rn)) (Sc rfl (Sn)) (Sn)
 refine AWP.seq (fun env pv hp => ∃ (x3 : Int), Sub (upd E0 3 (sI (x3))) env ∧ Sub V0 pv ∧ (F96_j1 x3 hp  K)) ?_ ?_
 ·refine AWP.seq (fun env pv hp => ∃ (x3 : Int) (x6a : Option Addr) (x6n : Nat) (x6c : Nat) (x7 : Int) (x8 : Int), Sub (upd (upd (upd (upd E0 8 (sI (x8))) 7 (sI (x7))) 6 (sV (Value.slice x6a x6n x6c))) 3 (sI (x3))) env ∧ Sub V0 pv ∧ (F96_j2 x3 x6a x6n x6c x7 x8 hp  K)) ?_ ?_
  ·refine AWP.rgn (F96_r8 (upd E0 3 (sI (0))) x0a x0n x0c hp _) ?_ (Rv 0 _ (Rv 3 _ (Rn))) (Sc rfl (Sc rfl (Sn))) (Sn)
   exact ⟨0, x0a, x0n, x0c, (x0n : Nat), 0, (Sc rfl (Sc rfl (Sc rfl (Sc rfl (Sn))))), (Sn), h⟩
  ·rintro env pv hp ⟨x3, x6a, x6n, x6c, x7, x8, he, hv, h⟩
   refine AWP.sub (env' := (upd (upd (upd (upd E0 8 (sI (x8))) 7 (sI (x7))) 6 (sV (Value.slice x6a x6n x6c))) 3 (sI (x3)))) (pv' := V0) ?_ (Rv 3 _ (Rv 6 _ (Rv 7 _ (Rv 8 _ (Rn))))) he hv (HSub.refl _)
   clear he hv
   unfold F96_j2 at h
   refine AWP.block ?_
   refine AWP.loop (σ := Int) (fun I s hp => F96_l3 x3 x6a x6n x6c x7  K I s hp) (fun s => (upd (upd (upd (upd E0 8 (sI (s))) 7 (sI (x7))) 6 (sV (Value.slice x6a x6n x6c))) 3 (sI (x3)))) (fun s => V0) x8 h (fun s => (Rv 3 _ (Rv 6 _ (Rv 7 _ (Rv 8 _ (Rn)))))) (Sc rfl (Sc rfl (Sc rfl (Sc rfl (Sn))))) (Sn) ?_
   intro I3 s hp h
   obtain ⟨x8, hs⟩ : ∃ x, x = s := ⟨s, rfl⟩
   subst hs
   replace h : F96_l3 x3 x6a x6n x6c x7  K I3 x8 hp := h
   unfold F96_l3 at h
   refine AWP.seq' ?_
   refine AWP.rgn (F96_r3 (upd (upd E0 6 (sV (Value.slice x6a x6n x6c))) 3 (sI (x3))) x7 x8 hp _) ?_ (Rv 7 _ (Rv 8 _ (Rv 3 _ (Rv 6 _ (Rn))))) (Sc rfl (Sc rfl (Sc rfl (Sc rfl (Sn))))) (Sn)
   refine AWP.seq' ?_
   refine AWP.cond (t := (decide ((x8 : Int) < x7))) rfl (fun e => ?_) (fun e => ?_)
   ·replace h := ite2_t h e
    refine AWP.skip ?_
    refine AWP.seq' ?_
    refine AWP.block ?_
    refine AWP.seq' ?_
    refine AWP.rgn (F96_r4 (upd (upd E0 7 (sI (x7))) 3 (sI (x3))) x6a x6n x6c x8 hp _) ?_ (Rv 6 _ (Rv 8 _ (Rv 3 _ (Rv 7 _ (Rn))))) (Sc rfl (Sc rfl (Sc rfl (Sc rfl (Sn))))) (Sn)
    refine ⟨h.1, h.2.1, ?_⟩
    replace h := h.2.2
    refine ptrN_mono h (fun b_1 o_2 h => ?_)
    refine ldV_mono h (fun v_3 h => ?_)
    refine intV_mono h (fun i_4 h => ?_)
    refine AWP.seq' ?_
    refine AWP.rgn (F96_r5 (upd (upd (upd E0 8 (sI (x8))) 7 (sI (x7))) 6 (sV (Value.slice x6a x6n x6c))) x3 i_4 hp _) ?_ (Rv 3 _ (Rv 5 _ (Rv 6 _ (Rv 7 _ (Rv 8 _ (Rn)))))) (Sc rfl (Sc rfl (Sc rfl (Sc rfl (Sc rfl (Sn)))))) (Sn)
    refine AWP.cond (t := ((i_4 : Int) != x3)) rfl (fun e => ?_) (fun e => ?_)
    ·replace h := ite2_t h e
     refine AWP.seq' ?_
     refine AWP.rgn (F96_r6 E0 i_4 hp _) ?_ (Rv 5 _ (Rn)) (Sc rfl (Sn)) (Sn)
     refine AWP.ret ?_
     exact h
    ·replace h := ite2_f h e
     refine AWP.skip ?_
     refine AWP.rgn (F96_r7 (upd (upd (upd E0 7 (sI (x7))) 6 (sV (Value.slice x6a x6n x6c))) 3 (sI (x3))) x8 hp _) ?_ (Rv 8 _ (Rv 3 _ (Rv 6 _ (Rv 7 _ (Rn))))) (Sc rfl (Sc rfl (Sc rfl (Sc rfl (Sn))))) (Sn)
     exact ⟨(IntKind.wrap .i64 (x8 + 1)), (Sc rfl (Sc rfl (Sc rfl (Sc rfl (Sn))))), (Sn), h⟩
   ·replace h := ite2_f h e
    refine AWP.exit ?_
    exact ⟨x3, (Sc rfl (Sn)), (Sn), h⟩
 ·rintro env pv hp ⟨x3, he, hv, h⟩
  refine AWP.sub (env' := (upd E0 3 (sI (x3)))) (pv' := V0) ?_ (Rv 3 _ (Rn)) he hv (HSub.refl _)
  clear he hv
  unfold F96_j1 at h
  refine AWP.seq' ?_
  refine AWP.rgn (F96_r2 E0 x3 hp _) ?_ (Rv 3 _ (Rn)) (Sc rfl (Sn)) (Sn)
  refine AWP.ret ?_
  exact h
-- 97 cmp.Compare[int]
theorem F97_r0 (e : Env) (hp : HP) (K : Env → PV → HP → Prop) : RW Try.prog 20 [] (opsAt Try.f97 [0]) (List.range 1) e V0 hp K =
    (K (upd e 4 (sI (0))) V0 hp) := by kernel_rfl
theorem F97_r1 (e : Env) (x0 : Int) (hp : HP) (K : Env → PV → HP → Prop) : RW Try.prog 20 [] (opsAt Try.f97 [1, 0]) (List.range 3) (upd e 0 (sI (x0))) V0 hp K =
    (CF Try.prog 131 [(Value.int .i64 x0)] hp fun u1 h2 => (boolV u1 fun q3 => (K (upd (upd (upd (upd e 0 (sI (x0))) 7 (sI (x0))) 8 (sB (q3))) 5 (sB (q3))) V0 h2))) := by kernel_rfl
theorem F97_r2 (e : Env) (x1 : Int) (hp : HP) (K : Env → PV → HP → Prop) : RW Try.prog 20 [] (opsAt Try.f97 [1, 1, 0]) (List.range 3) (upd e 1 (sI (x1))) V0 hp K =
    (CF Try.prog 131 [(Value.int .i64 x1)] hp fun u1 h2 => (boolV u1 fun q3 => (K (upd (upd (upd (upd e 1 (sI (x1))) 9 (sI (x1))) 10 (sB (q3))) 6 (sB (q3))) V0 h2))) := by kernel_rfl
theorem F97_r3 (e : Env) (x5 : Bool) (hp : HP) (K : Env → PV → HP → Prop) : RW Try.prog 20 [] (opsAt Try.f97 [1, 1, 1, 0, 0]) (List.range 1) (upd e 5 (sB (x5))) V0 hp K =
    (K (upd (upd e 5 (sB (x5))) 11 (sB (x5))) V0 hp) := by kernel_rfl
theorem F97_r4 (e : Env) (x6 : Bool) (hp : HP) (K : Env → PV → HP → Prop) : RW Try.prog 20 [] (opsAt Try.f97 [1, 1, 1, 0, 1, 0, 0, 0]) (List.range 1) (upd e 6 (sB (x6))) V0 hp K =
    (K (upd (upd e 6 (sB (x6))) 12 (sB (x6))) V0 hp) := by kernel_rfl
theorem F97_r5 (e : Env) (hp : HP) (K : Env → PV → HP → Prop) : RW Try.prog 20 [] (opsAt Try.f97 [1, 1, 1, 0, 1, 0, 0, 1, 0, 0]) (List.range 1) e V0 hp K =
    (K (upd e 4 (sI (0))) V0 hp) := by kernel_rfl
theorem F97_r6 (e : Env) (hp : HP) (K : Env → PV → HP → Prop) : RW Try.prog 20 [] (opsAt Try.f97 [1, 1, 1, 0, 1, 0, 1, 0]) (List.range 1) e V0 hp K =
    (K (upd e 4 (sI ((-1)))) V0 hp) := by kernel_rfl
theorem F97_r7 (e : Env) (x6 : Bool) (hp : HP) (K : Env → PV → HP → Prop) : RW Try.prog 20 [] (opsAt Try.f97 [1, 1, 1, 1, 0, 0]) (List.range 1) (upd e 6 (sB (x6))) V0 hp K =
    (K (upd (upd e 6 (sB (x6))) 13 (sB (x6))) V0 hp) := by kernel_rfl
theorem F97_r8 (e : Env) (hp : HP) (K : Env → PV → HP → Prop) : RW Try.prog 20 [] (opsAt Try.f97 [1, 1, 1, 1, 0, 1, 0, 0]) (List.range 1) e V0 hp K =
    (K (upd e 4 (sI (1))) V0 hp) := by kernel_rfl
theorem F97_r9 (e : Env) (x0 : Int) (x1 : Int) (hp : HP) (K : Env → PV → HP → Prop) : RW Try.prog 20 [] (opsAt Try.f97 [1, 1, 1, 1, 1, 0, 0]) (List.range 3) (upd (upd e 1 (sI (x1))) 0 (sI (x0))) V0 hp K =
    (K (upd (upd (upd (upd (upd e 1 (sI (x1))) 0 (sI (x0))) 14 (sI (x0))) 15 (sI (x1))) 16 (sB ((decide ((x0 : Int) < x1))))) V0 hp) := by kernel_rfl
theorem F97_r10 (e : Env) (hp : HP) (K : Env → PV → HP → Prop) : RW Try.prog 20 [] (opsAt Try.f97 [1, 1, 1, 1, 1, 0, 1, 0, 0]) (List.range 1) e V0 hp K =
    (K (upd e 4 (sI ((-1)))) V0 hp) := by kernel_rfl
theorem F97_r11 (e : Env) (x0 : Int) (x1 : Int) (hp : HP) (K : Env → PV → HP → Prop) : RW Try.prog 20 [] (opsAt Try.f97 [1, 1, 1, 1, 1, 1, 0, 0]) (List.range 3) (upd (upd e 1 (sI (x1))) 0 (sI (x0))) V0 hp K =
    (K (upd (upd (upd (upd (upd e 1 (sI (x1))) 0 (sI (x0))) 17 (sI (x0))) 18 (sI (x1))) 19 (sB ((decide ((x0 : Int) > x1))))) V0 hp) := by kernel_rfl
theorem F97_r12 (e : Env) (hp : HP) (K : Env → PV → HP → Prop) : RW Try.prog 20 [] (opsAt Try.f97 [1, 1, 1, 1, 1, 1, 0, 1, 0, 0]) (List.range 1) e V0 hp K =
    (K (upd e 4 (sI (1))) V0 hp) := by kernel_rfl
theorem F97_r13 (e : Env) (hp : HP) (K : Env → PV → HP → Prop) : RW Try.prog 20 [] (opsAt Try.f97 [1, 1, 1, 1, 1, 1, 1, 0]) (List.range 1) e V0 hp K =
    (K (upd e 4 (sI (0))) V0 hp) := by kernel_rfl
def F97 (x0 : Int) (x1 : Int) (hp : HP) (K : Value → HP → Prop) : Prop :=
  (CF Try.prog 131 [(Value.int .i64 x0)] hp fun u_1 h_2 => (boolV u_1 fun q_3 => (CF Try.prog 131 [(Value.int .i64 x1)] h_2 fun u_4 h_5 => (boolV u_4 fun q_6 => (ite2 q_3 (ite2 q_6 (K (Value.int .i64 0) h_5) (K (Value.int .i64 (-1)) h_5)) (ite2 q_6 (K (Value.int .i64 1) h_5) (ite2 (decide ((x0 : Int) < x1)) (K (Value.int .i64 (-1)) h_5) (ite2 (decide ((x0 : Int) > x1)) (K (Value.int .i64 1) h_5) (K (Value.int .i64 0) h_5)))))))))
noncomputable def F97_code : Code := (.seq (.region 0 (opsAt Try.f97 [0]) false) (.seq (.region 1 (opsAt Try.f97 [1, 0]) false) (.seq (.region 2 (opsAt Try.f97 [1, 1, 0]) false) (.seq (.seq (.region 3 (opsAt Try.f97 [1, 1, 1, 0, 0]) false) (.cond (.tmp 11) (.seq (.seq (.region 4 (opsAt Try.f97 [1, 1, 1, 0, 1, 0, 0, 0]) false) (.cond (.tmp 12) (.seq (.region 5 (opsAt Try.f97 [1, 1, 1, 0, 1, 0, 0, 1, 0, 0]) false) .ret) .skip)) (.seq (.region 6 (opsAt Try.f97 [1, 1, 1, 0, 1, 0, 1, 0]) false) .ret)) .skip)) (.seq (.seq (.region 7 (opsAt Try.f97 [1, 1, 1, 1, 0, 0]) false) (.cond (.tmp 13) (.seq (.region 8 (opsAt Try.f97 [1, 1, 1, 1, 0, 1, 0, 0]) false) .ret) .skip)) (.seq (.seq (.region 9 (opsAt Try.f97 [1, 1, 1, 1, 1, 0, 0]) false) (.cond (.tmp 16) (.seq (.region 10 (opsAt Try.f97 [1, 1, 1, 1, 1, 0, 1, 0, 0]) false) .ret) .skip)) (.seq (.seq (.region 11 (opsAt Try.f97 [1, 1, 1, 1, 1, 1, 0, 0]) false) (.cond (.tmp 19) (.seq (.region 12 (opsAt Try.f97 [1, 1, 1, 1, 1, 1, 0, 1, 0, 0]) false) .ret) .skip)) (.seq (.region 13 (opsAt Try.f97 [1, 1, 1, 1, 1, 1, 1, 0]) false) .ret))))))))
theorem F97_body : Try.f97.body = some F97_code := by kernel_rfl
theorem F97_ok (x0 : Int) (x1 : Int) (hp : HP) (K : Value → HP → Prop) (h : F97 x0 x1 hp K) : CF Try.prog 97 [(Value.int .i64 x0), (Value.int .i64 x1)] hp K := by
 refine .inl ⟨by kernel_rfl, AC.intro (N := 20) Try.func97 F97_body rfl (Nat.le_of_ble_eq_true rfl) ?_⟩
 unfold F97 at h
 unfold F97_code
 refine AWP.seq' ?_
 refine AWP.rgn (F97_r0 (upd (upd E0 1 (sI (x1))) 0 (sI (x0)))  hp _) ?_ (Rv 0 _ (Rv 1 _ (Rn))) (Sc rfl (Sc rfl (Sn))) (Sn)
 refine AWP.seq' ?_
 refine AWP.rgn (F97_r1 (upd E0 1 (sI (x1))) x0 hp _) ?_ (Rv 0 _ (Rv 1 _ (Rn))) (Sc rfl (Sc rfl (Sn))) (Sn)
 refine CF_mono h (fun u_1 h_2 h => ?_)
 refine boolV_mono h (fun q_3 h => ?_)
 refine AWP.seq' ?_
 refine AWP.rgn (F97_r2 (upd (upd E0 5 (sB (q_3))) 0 (sI (x0))) x1 h_2 _) ?_ (Rv 1 _ (Rv 0 _ (Rv 5 _ (Rn)))) (Sc rfl (Sc rfl (Sc rfl (Sn)))) (Sn)
 refine CF_mono h (fun u_4 h_5 h => ?_)
 refine boolV_mono h (fun q_6 h => ?_)
 refine AWP.seq' ?_
 refine AWP.seq' ?_
 refine AWP.rgn (F97_r3 (upd (upd (upd E0 6 (sB (q_6))) 1 (sI (x1))) 0 (sI (x0))) q_3 h_5 _) ?_ (Rv 5 _ (Rv 0 _ (Rv 1 _ (Rv 6 _ (Rn))))) (Sc rfl (Sc rfl (Sc rfl (Sc rfl (Sn))))) (Sn)
 refine AWP.cond (t := q_3) rfl (fun e => ?_) (fun e => ?_)
 ·replace h := ite2_t h e
  refine AWP.seq' ?_
  refine AWP.seq' ?_
  refine AWP.rgn (F97_r4 E0 q_6 h_5 _) ?_ (Rv 6 _ (Rn)) (Sc rfl (Sn)) (Sn)
  refine AWP.cond (t := q_6) rfl (fun e => ?_) (fun e => ?_)
  ·replace h := ite2_t h e
   refine AWP.seq' ?_
   refine AWP.rgn (F97_r5 E0  h_5 _) ?_ (Rn) (Sn) (Sn)
   refine AWP.ret ?_
   exact h
  ·replace h := ite2_f h e
   refine AWP.skip ?_
   refine AWP.seq' ?_
   refine AWP.rgn (F97_r6 E0  h_5 _) ?_ (Rn) (Sn) (Sn)
   refine AWP.ret ?_
   exact h
 ·replace h := ite2_f h e
  refine AWP.skip ?_
  refine AWP.seq' ?_
  refine AWP.seq' ?_
  refine AWP.rgn (F97_r7 (upd (upd E0 1 (sI (x1))) 0 (sI (x0))) q_6 h_5 _) ?_ (Rv 6 _ (Rv 0 _ (Rv 1 _ (Rn)))) (Sc rfl (Sc rfl (Sc rfl (Sn)))) (Sn)
  refine AWP.cond (t := q_6) rfl (fun e => ?_) (fun e => ?_)
  ·replace h := ite2_t h e
   refine AWP.seq' ?_
   refine AWP.rgn (F97_r8 E0  h_5 _) ?_ (Rn) (Sn) (Sn)
   refine AWP.ret ?_
   exact h
  ·replace h := ite2_f h e
   refine AWP.skip ?_
   refine AWP.seq' ?_
   refine AWP.seq' ?_
   refine AWP.rgn (F97_r9 E0 x0 x1 h_5 _) ?_ (Rv 0 _ (Rv 1 _ (Rn))) (Sc rfl (Sc rfl (Sn))) (Sn)
   refine AWP.cond (t := (decide ((x0 : Int) < x1))) rfl (fun e => ?_) (fun e => ?_)
   ·replace h := ite2_t h e
    refine AWP.seq' ?_
    refine AWP.rgn (F97_r10 E0  h_5 _) ?_ (Rn) (Sn) (Sn)
    refine AWP.ret ?_
    exact h
   ·replace h := ite2_f h e
    refine AWP.skip ?_
    refine AWP.seq' ?_
    refine AWP.seq' ?_
    refine AWP.rgn (F97_r11 E0 x0 x1 h_5 _) ?_ (Rv 0 _ (Rv 1 _ (Rn))) (Sc rfl (Sc rfl (Sn))) (Sn)
    refine AWP.cond (t := (decide ((x0 : Int) > x1))) rfl (fun e => ?_) (fun e => ?_)
    ·replace h := ite2_t h e
     refine AWP.seq' ?_
     refine AWP.rgn (F97_r12 E0  h_5 _) ?_ (Rn) (Sn) (Sn)
     refine AWP.ret ?_
     exact h
    ·replace h := ite2_f h e
     refine AWP.skip ?_
     refine AWP.seq' ?_
     refine AWP.rgn (F97_r13 E0  h_5 _) ?_ (Rn) (Sn) (Sn)
     refine AWP.ret ?_
     exact h
-- 131 cmp.isNaN[int]
theorem F131_r0 (e : Env) (hp : HP) (K : Env → PV → HP → Prop) : RW Try.prog 6 [] (opsAt Try.f131 [0]) (List.range 1) e V0 hp K =
    (K (upd e 2 (sB (false))) V0 hp) := by kernel_rfl
theorem F131_r1 (e : Env) (x0 : Int) (hp : HP) (K : Env → PV → HP → Prop) : RW Try.prog 6 [] (opsAt Try.f131 [1, 0]) (List.range 4) (upd e 0 (sI (x0))) V0 hp K =
    (K (upd (upd (upd (upd (upd e 0 (sI (x0))) 3 (sI (x0))) 4 (sI (x0))) 5 (sB (((x0 : Int) != x0)))) 2 (sB (((x0 : Int) != x0)))) V0 hp) := by kernel_rfl
def F131 (x0 : Int) (hp : HP) (K : Value → HP → Prop) : Prop :=
  (K (Value.bool ((x0 : Int) != x0)) hp)
noncomputable def F131_code : Code := (.seq (.region 0 (opsAt Try.f131 [0]) false) (.seq (.region 1 (opsAt Try.f131 [1, 0]) false) .ret))
theorem F131_body : Try.f131.body = some F131_code := by kernel_rfl
theorem F131_ok (x0 : Int) (hp : HP) (K : Value → HP → Prop) (h : F131 x0 hp K) : CF Try.prog 131 [(Value.int .i64 x0)] hp K := by
 refine .inl ⟨by kernel_rfl, AC.intro (N := 6) Try.func131 F131_body rfl (Nat.le_of_ble_eq_true rfl) ?_⟩
 unfold F131 at h
 unfold F131_code
 refine AWP.seq' ?_
 refine AWP.rgn (F131_r0 (upd E0 0 (sI (x0)))  hp _) ?_ (Rv 0 _ (Rn)) (Sc rfl (Sn)) (Sn)
 refine AWP.seq' ?_
 refine AWP.rgn (F131_r1 E0 x0 hp _) ?_ (Rv 0 _ (Rn)) (Sc rfl (Sn)) (Sn)
 refine AWP.ret ?_
 exact h
end Go.Proofs

namespace Go.HL
open Go

theorem wi {x : Int} {i : Nat} (h : x = i) (hb : i ≤ 9223372036854775807) : IntKind.wrap .i64 x = i := by rw [h]; exact w64 (by omega) (by omega)

section
variable {α : Type} {hp0 : HP} {b : Nat} {e : TypeId} {sp : Nat} {en : α → List Value} {d : Array α}
theorem HA.set_comm {r : Nat} (hr : r ≠ b) (x : Ent) : (HA hp0 b e sp en d).set r x = HA (hp0.set r x) b e sp en d := by
  unfold HA; rw [HP.set_comm _ _ _ hr]
theorem HA.ne_of_none {r : Nat} (h : HA hp0 b e sp en d r = .none) : r ≠ b ∧ hp0 r = .none := by
  have hb : r ≠ b := fun e => by unfold HA at h; rw [e, HP.set_eq] at h; cases h
  refine ⟨hb, ?_⟩
  unfold HA at h
  rwa [HP.set_ne _ _ hb] at h
theorem HA.ne {r : Nat} (h : r ≠ b) : HA hp0 b e sp en d r = hp0 r := by
  unfold HA; rw [HP.set_ne _ _ h]

end

section
variable {α : Type} [Inhabited α] {P : Program} {f : FuncId} {ga gb : List Value} {hp0 : HP} {b : Nat} {e : TypeId} {sp size : Nat} {en : α → List Value} {n : Nat} {cf : α → α → Int} {d : Array α}

theorem cmpP (hc : CmpOk P f ga gb hp0 b e sp en n cf) (he : ∀ x, (en x).length = size) {I J : Int} {i j : Nat} {X : Int → HP → Prop} (hs : d.size = n) (hI : I = i) (hJ : J = j) (hi : i < n) (hj : j < n)
    (h : X (cf d[i]! d[j]!) (HA hp0 b e sp en d)) :
    ((0 ≤ I) ∧ (I < (n : Nat)) ∧ (ptrN (some ⟨b, 0, none⟩) fun b1 o2 => (ldL (HP.cellN (HA hp0 b e sp en d) b1 (o2 + Int.toNat I * size) size) fun l3 => ((0 ≤ J) ∧ (J < (n : Nat)) ∧ (ptrN (some ⟨b, 0, none⟩) fun b4 o5 => (ldL (HP.cellN (HA hp0 b e sp en d) b4 (o5 + Int.toNat J * size) size) fun l6 =>
      (fnV (.func (.func f) ⟨ga⟩ ⟨gb⟩) fun f7 ga8 gb9 => (CF P f7 (ga8 ++ [(Value.agg ⟨l3⟩), (Value.agg ⟨l6⟩)] ++ gb9) (HA hp0 b e sp en d) fun u10 h11 => (intV u10 .i64 fun i12 => X i12 h11))))))))) := by
  subst hI hJ
  have g1 := HA.get (hp0 := hp0) (b := b) (e := e) (sp := sp) he (d := d) (i := i) (by omega)
  have g2 := HA.get (hp0 := hp0) (b := b) (e := e) (sp := sp) he (d := d) (i := j) (by omega)
  simp only [ptrN_some, Int.toNat_natCast, g1, g2, ldL_some, fnV_mk]
  refine ⟨by omega, by omega, by omega, by omega, ?_⟩
  refine hc d _ _ _ hs ?_
  rw [intV_int]
  exact h

theorem swapP (he : ∀ x, (en x).length = size) (h1 : ∀ x, (en x).all one = true) {I J : Int} {i j : Nat} {X : HP → Prop} (hs : d.size = n) (hI : I = i) (hJ : J = j) (hi : i < n) (hj : j < n)
    (h : X (HA hp0 b e sp en (Sort.swp d i j))) :
    ((0 ≤ J) ∧ (J < (n : Nat)) ∧ (ptrN (some ⟨b, 0, none⟩) fun b1 o2 => (ldL (HP.cellN (HA hp0 b e sp en d) b1 (o2 + Int.toNat J * size) size) fun l3 => ((0 ≤ I) ∧ (I < (n : Nat)) ∧ (ptrN (some ⟨b, 0, none⟩) fun b4 o5 => (ldL (HP.cellN (HA hp0 b e sp en d) b4 (o5 + Int.toNat I * size) size) fun l6 =>
      ((0 ≤ I) ∧ (I < (n : Nat)) ∧ (ptrN (some ⟨b, 0, none⟩) fun b7 o8 => ((List.length l3 = size) ∧ (HP.stN (HA hp0 b e sp en d) b7 (o8 + Int.toNat I * size) l3 fun h9 => ((0 ≤ J) ∧ (J < (n : Nat)) ∧ (ptrN (some ⟨b, 0, none⟩) fun b10 o11 => ((List.length l6 = size) ∧ (HP.stN h9 b10 (o11 + Int.toNat J * size) l6 fun h12 => X h12)))))))))))))) := by
  subst hI hJ
  have g1 := HA.get (hp0 := hp0) (b := b) (e := e) (sp := sp) he (d := d) (i := i) (by omega)
  have g2 := HA.get (hp0 := hp0) (b := b) (e := e) (sp := sp) he (d := d) (i := j) (by omega)
  simp only [ptrN_some, Int.toNat_natCast, g1, g2, ldL_some]
  refine ⟨by omega, by omega, by omega, by omega, by omega, by omega, he _, ?_⟩
  refine HA.st he h1 (by omega) _ ?_
  refine ⟨by omega, by omega, he _, ?_⟩
  refine HA.st he h1 (by rw [Array.size_setIfInBounds]; omega) _ ?_
  exact h

/-- A comparison that holds whatever else is known. -/
def CmpX (P : Program) (f : FuncId) (ga gb : List Value) (hp0 : HP) (b : Nat) (e : TypeId) (sp : Nat) (en : α → List Value) (n : Nat) (cf : α → α → Int) : Prop :=
  ∀ hp1, HSub hp0 hp1 → CmpOk P f ga gb hp1 b e sp en n cf

theorem CmpX.sub {hp1 : HP} (h : CmpX P f ga gb hp0 b e sp en n cf) (hs : HSub hp0 hp1) : CmpX P f ga gb hp1 b e sp en n cf := fun hp2 h2 => h hp2 (hs.trans h2)
theorem CmpX.ok (h : CmpX P f ga gb hp0 b e sp en n cf) : CmpOk P f ga gb hp0 b e sp en n cf := h hp0 (HSub.refl _)
end
end Go.HL

