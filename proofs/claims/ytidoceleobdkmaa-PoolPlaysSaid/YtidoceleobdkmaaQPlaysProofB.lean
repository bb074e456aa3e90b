/- Parts of the proof of PlaysProof: the logic of what is known of memory, functions' contracts. -/
import Derived.Test.YtidoceleobdkmaaQPlaysProofA
import Derived.Test.YtidoceleobdkmaaHlOrd
import Derived.Test.YtidoceleobdkmaaProg
import Derived.Test.YtidoceleobdkmaaHlSort
import Derived.Sort.LotA
import Derived.Test.YtidoceleobdkmaaHlAbb
import Derived.Test.YtidoceleobdkmaaHlLib
import Derived.Sort.LotD3
set_option linter.unusedVariables false
set_option maxRecDepth 20000
namespace Go.Proofs
open Go Go.HL
-- 45 (*interpreter/pool.Pool).All
section
variable (e : Env) (x0 x1 x3a : Option Addr) (x3n x3c : Nat) (x11 : Value) (k4 : List Value) (hp : HP) (K : Env → PV → HP → Prop)
abbrev R45 (p : List Nat) (n : Nat) := RW Try.prog 24 [4] (opsAt Try.f45 p) (List.range n)
theorem F45_r0 : R45 [0] 2 (upd e 0 (sP x0)) V0 hp K =
    (∀ b1 : Nat, hp b1 = .none → (K (upd (upd (upd e 0 (sP x0)) 1 (sQ b1 0)) 2 (sS none 0 0)) V0 (HP.set hp b1 (.cells 69 [(.pointer x0)] 0)))) := by kernel_rfl
theorem F45_r1 : R45 [1, 0, 0] 2 (upd e 1 (sP x1)) V0 hp K =
    (ptrN x1 fun b1 o2 => (ldV (HP.cell hp b1 o2) fun v3 => (ptrV v3 fun p4 => (K (upd (upd (upd e 1 (sP x1)) 5 (sP p4)) 6 (sB ((Option.isNone p4)))) V0 hp)))) := by kernel_rfl
theorem F45_r2 : R45 [1, 0, 1, 0, 0] 1 e V0 hp K =
    (K (upd e 2 (sS none 0 0)) V0 hp) := by kernel_rfl
theorem F45_r3 : R45 [1, 1, 0] 1 e V0 hp K =
    (K (upd e 3 (sS none 0 0)) V0 hp) := by kernel_rfl
theorem F45_r4 : R45 [1, 1, 1, 1, 0] 3 (upd (upd e 3 (sS x3a x3n x3c)) 1 (sP x1)) V0 hp K =
    (CF Try.prog 94 [(.slice x3a x3n x3c), (.func (.func 95) ⟨[]⟩ ⟨[(.pointer x1)]⟩)] hp fun u1 h2 => (K (upd (upd (upd (upd (upd e 3 (sS x3a x3n x3c)) 1 (sP x1)) 20 (sS x3a x3n x3c)) 21 (sV (.func (.func 95) ⟨[]⟩ ⟨[(.pointer x1)]⟩))) 22 (sV u1)) V0 h2)) := by kernel_rfl
theorem F45_r5 : R45 [1, 1, 1, 1, 1, 0] 2 (upd e 3 (sS x3a x3n x3c)) V0 hp K =
    (K (upd (upd (upd e 3 (sS x3a x3n x3c)) 23 (sS x3a x3n x3c)) 2 (sS x3a x3n x3c)) V0 hp) := by kernel_rfl
def F45_j1 (x1 : Option Addr) (x3a : Option Addr) (x3n : Nat) (x3c : Nat) (hp : HP) (K : Value → HP → Prop) : Prop :=
  (CF Try.prog 94 [(.slice x3a x3n x3c), (.func (.func 95) ⟨[]⟩ ⟨[(.pointer x1)]⟩)] hp fun u_6 h_7 => (K (.slice x3a x3n x3c) h_7))
theorem F45_r6 : R45 [1, 1, 1, 0, 1, 0, 0, 0] 2 (upd e 11 (sV x11)) V0 hp K =
    (opS Try.prog (Instr.next x11 false 0) hp fun u1 h2 => (tupI u1 0 fun v3 => (boolV v3 fun q4 => (K (upd (upd (upd e 11 (sV x11)) 12 (sV u1)) 13 (sB q4)) V0 h2)))) := by kernel_rfl
theorem F45_r7 : R45 [1, 1, 1, 0, 1, 0, 0, 1, 1, 0, 0] 4 (upd e 11 (sV x11)) V0 hp K =
    (rdS Try.prog (Instr.entry x11) hp fun u1 => (tupI u1 0 fun v2 => (aggV v2 fun l3 => (if List.length l3 = 5 then (if List.all l3 one = true then (if 0 + List.length l3 ≤ List.length [(Value.int .u8 0), .int .u8 0, .int .u8 0, .int .u8 0, .int .i64 0] then (K (upd (upd (upd (upd e 11 (sV x11)) 14 (sV u1)) 15 (sA l3)) 4 (sR 4 0)) (upd (upd V0 4 (75, [.int .u8 0, .int .u8 0, .int .u8 0, .int .u8 0, .int .i64 0])) 4 (75, (splice [.int .u8 0, .int .u8 0, .int .u8 0, .int .u8 0, .int .i64 0] 0 l3))) hp) else False) else False) else False)))) := by kernel_rfl
theorem F45_r8 : R45 [1, 1, 1, 0, 1, 0, 0, 1, 1, 0, 1] 5 (upd (upd e 4 (sR 4 0)) 3 (sS x3a x3n x3c)) (upd V0 4 (75, k4)) hp K =
    (ldL (cellsN k4 0 5) fun l1 => (if List.length l1 = 5 then (∀ b2 : Nat, hp b2 = .none → (opS Try.prog (Builtin.append_ #[79, 79] 79 ⟨[(.slice x3a x3n x3c), (.slice (some ⟨b2, 0, none⟩) 1 1)]⟩) (HP.set hp b2 (.cells 75 (splice [.int .u8 0, .int .u8 0, .int .u8 0, .int .u8 0, .int .i64 0] 0 l1) 0)) fun u3 h4 => (slcV u3 fun a5 n6 c7 => (K (upd (upd (upd (upd (upd (upd (upd e 4 (sR 4 0)) 3 (sS x3a x3n x3c)) 16 (sS x3a x3n x3c)) 17 (sA l1)) 18 (sV (.slice (some ⟨b2, 0, none⟩) 1 1))) 19 (sS a5 n6 c7)) 3 (sS a5 n6 c7)) (upd V0 4 (75, k4)) h4)))) else False)) := by kernel_rfl
def F45_l3 (x1 : Option Addr) (x11 : Value) (K : Value → HP → Prop) (I3 : ((Option Addr) × Nat × Nat) → HP → Prop) (x3a : Option Addr) (x3n : Nat) (x3c : Nat) (hp : HP) : Prop :=
  (opS Try.prog (Instr.next x11 false 0) hp fun u_8 h_9 => (tupI u_8 0 fun v_10 => (boolV v_10 fun q_11 => (ite2 q_11 (rdS Try.prog (Instr.entry x11) h_9 fun u_12 => (tupI u_12 0 fun v_13 => (aggV v_13 fun l_14 => (if List.length l_14 = 5 then (if List.all l_14 one = true then (if 0 + List.length l_14 ≤ List.length [(Value.int .u8 0), .int .u8 0, .int .u8 0, .int .u8 0, .int .i64 0] then (ldL (cellsN (splice [.int .u8 0, .int .u8 0, .int .u8 0, .int .u8 0, .int .i64 0] 0 l_14) 0 5) fun l_15 => (if List.length l_15 = 5 then (∀ b_16 : Nat, h_9 b_16 = .none → (opS Try.prog (Builtin.append_ #[79, 79] 79 ⟨[(.slice x3a x3n x3c), (.slice (some ⟨b_16, 0, none⟩) 1 1)]⟩) (HP.set h_9 b_16 (.cells 75 (splice [.int .u8 0, .int .u8 0, .int .u8 0, .int .u8 0, .int .i64 0] 0 l_15) 0)) fun u_17 h_18 => (slcV u_17 fun a_19 n_20 c_21 => (I3 (a_19, n_20, c_21) h_18)))) else False)) else False) else False) else False)))) (F45_j1 x1 x3a x3n x3c h_9  K)))))
def F45_j2 (x1 : Option Addr) (x3a : Option Addr) (x3n : Nat) (x3c : Nat) (x11 : Value) (hp : HP) (K : Value → HP → Prop) : Prop :=
  (LoopP (σ := (Option Addr) × Nat × Nat) (fun I s hp => F45_l3 x1 x11  K I s.1 s.2.1 s.2.2 hp) (x3a, x3n, x3c) hp)
theorem F45_r9 : R45 [1, 1, 1, 0, 0] 5 (upd e 1 (sP x1)) V0 hp K =
    (ptrN x1 fun b1 o2 => (ldV (HP.cell hp b1 o2) fun v3 => (ptrV v3 fun p4 => (ptrN p4 fun b5 o6 => (ldV (HP.cell hp b5 (o6 + 3)) fun v7 => (mapV v7 fun m8 => (opS Try.prog (Instr.range 158 (.map m8)) hp fun u9 h10 => (K (upd (upd (upd (upd (upd (upd e 1 (sP x1)) 7 (sP p4)) 8 (sQ b5 o6)) 9 (sQ b5 (o6 + 3))) 10 (sV (.map m8))) 11 (sV u9)) V0 h10)))))))) := by kernel_rfl
def F45 (x0 : Option Addr) (hp : HP) (K : Value → HP → Prop) : Prop :=
  (∀ b_1 : Nat, hp b_1 = .none → (ptrN (some ⟨b_1, 0, none⟩) fun b_2 o_3 => (ldV (HP.cell (HP.set hp b_1 (.cells 69 [(.pointer x0)] 0)) b_2 o_3) fun v_4 => (ptrV v_4 fun p_5 => (ite2 (Option.isNone p_5) (K (.slice none 0 0) (HP.set hp b_1 (.cells 69 [(.pointer x0)] 0))) (ptrN (some ⟨b_1, 0, none⟩) fun b_22 o_23 => (ldV (HP.cell (HP.set hp b_1 (.cells 69 [(.pointer x0)] 0)) b_22 o_23) fun v_24 => (ptrV v_24 fun p_25 => (ptrN p_25 fun b_26 o_27 => (ldV (HP.cell (HP.set hp b_1 (.cells 69 [(.pointer x0)] 0)) b_26 (o_27 + 3)) fun v_28 => (mapV v_28 fun m_29 => (opS Try.prog (Instr.range 158 (.map m_29)) (HP.set hp b_1 (.cells 69 [(.pointer x0)] 0)) fun u_30 h_31 => (F45_j2 (some ⟨b_1, 0, none⟩) none 0 0 u_30 h_31  K)))))))))))))
noncomputable def F45_code : Code := (.seq (.region 0 (opsAt Try.f45 [0]) false) (.seq (.seq (.region 1 (opsAt Try.f45 [1, 0, 0]) false) (.cond (.tmp 6) (.seq (.region 2 (opsAt Try.f45 [1, 0, 1, 0, 0]) false) .ret) .skip)) (.seq (.region 3 (opsAt Try.f45 [1, 1, 0]) false) (.seq (.seq (.region 4 (opsAt Try.f45 [1, 1, 1, 0, 0]) false) (.block 0 (.loop (.seq (.region 5 (opsAt Try.f45 [1, 1, 1, 0, 1, 0, 0, 0]) false) (.seq (.cond (.tmp 13) .skip (.exit 0)) (.block 1 (.seq (.region 6 (opsAt Try.f45 [1, 1, 1, 0, 1, 0, 0, 1, 1, 0, 0]) false) (.region 7 (opsAt Try.f45 [1, 1, 1, 0, 1, 0, 0, 1, 1, 0, 1]) false)))))))) (.seq (.region 8 (opsAt Try.f45 [1, 1, 1, 1, 0]) false) (.seq (.region 9 (opsAt Try.f45 [1, 1, 1, 1, 1, 0]) false) .ret))))))
theorem F45_body : Try.f45.body = some F45_code := by kernel_rfl
theorem F45_ok (x0 : Option Addr) (hp : HP) (K : Value → HP → Prop) (h : F45 x0 hp K) : CF Try.prog 45 [(.pointer x0)] hp K := by
 refine .inl ⟨by kernel_rfl, AC.intro (N := 24) Try.func45 F45_body rfl (Nat.le_of_ble_eq_true rfl) ?_⟩
 unfold F45 at h
 unfold F45_code
 refine AWP.seq' ?_
 refine AWP.rgn (F45_r0 E0 x0 hp _) ?_ (Ru 0 Rn) (Sc rfl Sn) Sn
 refine fun b_1 hb_b_1 => ?_
 replace h := h b_1 hb_b_1
 refine AWP.seq' ?_
 refine AWP.seq' ?_
 refine AWP.rgn (F45_r1 E0 (some ⟨b_1, 0, none⟩) (HP.set hp b_1 (.cells 69 [(.pointer x0)] 0)) _) ?_ (Ru 1 Rn) (Sc rfl Sn) Sn
 refine mN h fun b_2 o_3 h => mV h fun v_4 h => mP h fun p_5 h => ?_
 refine AWP.cond (t := (Option.isNone p_5)) rfl (fun e => ?_) (fun e => ?_)
 ·replace h := ite2_t h e
  refine AWP.seq' ?_
  refine AWP.rgn (F45_r2 E0  (HP.set hp b_1 (.cells 69 [(.pointer x0)] 0)) _) ?_ Rn Sn Sn
  refine AWP.ret ?_
  exact h
 ·replace h := ite2_f h e
  refine AWP.skip ?_
  refine AWP.seq' ?_
  refine AWP.rgn (F45_r3 (upd E0 1 (sV (.pointer (some ⟨b_1, 0, none⟩))))  (HP.set hp b_1 (.cells 69 [(.pointer x0)] 0)) _) ?_ (Ru 1 Rn) (Sc rfl Sn) Sn
  refine AWP.seq (fun env pv hp => ∃ (x1 : Option Addr) (x3a : Option Addr) (x3n : Nat) (x3c : Nat), Sub (upd (upd E0 3 (sS x3a x3n x3c)) 1 (sP x1)) env ∧ Sub V0 pv ∧ (F45_j1 x1 x3a x3n x3c hp  K)) ?_ ?_
  ·refine AWP.seq (fun env pv hp => ∃ (x1 : Option Addr) (x3a : Option Addr) (x3n : Nat) (x3c : Nat) (x11 : Value), Sub (upd (upd (upd E0 11 (sV x11)) 3 (sS x3a x3n x3c)) 1 (sP x1)) env ∧ Sub V0 pv ∧ (F45_j2 x1 x3a x3n x3c x11 hp  K)) ?_ ?_
   ·refine AWP.rgn (F45_r9 (upd E0 3 (sS none 0 0)) (some ⟨b_1, 0, none⟩) (HP.set hp b_1 (.cells 69 [(.pointer x0)] 0)) _) ?_ (Ru 1 (Ru 3 Rn)) (Sc rfl (Sc rfl Sn)) Sn
    refine mN h fun b_22 o_23 h => mV h fun v_24 h => mP h fun p_25 h => mN h fun b_26 o_27 h => mV h fun v_28 h => mM h fun m_29 h => mO h fun u_30 h_31 h => ?_
    exact ⟨(some ⟨b_1, 0, none⟩), none, 0, 0, u_30, (Sc rfl (Sc rfl (Sc rfl Sn))), Sn, h⟩
   ·rintro env pv hp ⟨x1, x3a, x3n, x3c, x11, he, hv, h⟩
    refine AWP.sub (env' := (upd (upd (upd E0 11 (sV x11)) 3 (sS x3a x3n x3c)) 1 (sP x1))) (pv' := V0) ?_ (Ru 1 (Ru 3 (Ru 11 Rn))) he hv (HSub.refl _)
    clear he hv
    unfold F45_j2 at h
    refine AWP.block ?_
    refine AWP.loop (σ := (Option Addr) × Nat × Nat) (fun I s hp => F45_l3 x1 x11  K I s.1 s.2.1 s.2.2 hp) (fun s => (upd (upd (upd E0 11 (sV x11)) 3 (sV (.slice s.1 s.2.1 s.2.2))) 1 (sP x1))) (fun s => V0) (x3a, x3n, x3c) h (fun s => (Ru 1 (Ru 3 (Ru 11 Rn)))) (Sc rfl (Sc rfl (Sc rfl Sn))) Sn ?_
    intro I3 s hp h
    obtain ⟨x3a, x3n, x3c⟩ := s
    replace h : F45_l3 x1 x11  K I3 x3a x3n x3c hp := h
    unfold F45_l3 at h
    refine AWP.seq' ?_
    refine AWP.rgn (F45_r6 (upd (upd E0 3 (sS x3a x3n x3c)) 1 (sP x1)) x11 hp _) ?_ (Ru 11 (Ru 1 (Ru 3 Rn))) (Sc rfl (Sc rfl (Sc rfl Sn))) Sn
    refine mO h fun u_8 h_9 h => tupI_mono h fun v_10 h => mB h fun q_11 h => ?_
    refine AWP.seq' ?_
    refine AWP.cond (t := q_11) rfl (fun e => ?_) (fun e => ?_)
    ·replace h := ite2_t h e
     refine AWP.skip ?_
     refine AWP.block ?_
     refine AWP.seq' ?_
     refine AWP.rgn (F45_r7 (upd (upd E0 3 (sS x3a x3n x3c)) 1 (sP x1)) x11 h_9 _) ?_ (Ru 11 (Ru 1 (Ru 3 Rn))) (Sc rfl (Sc rfl (Sc rfl Sn))) Sn
     refine mR h fun u_12 h => tupI_mono h fun v_13 h => mA h fun l_14 h => mf h fun h => mf h fun h => mf h fun h => ?_
     refine AWP.rgn (F45_r8 (upd (upd E0 11 (sV x11)) 1 (sP x1)) x3a x3n x3c (splice [.int .u8 0, .int .u8 0, .int .u8 0, .int .u8 0, .int .i64 0] 0 l_14) h_9 _) ?_ (Ru 3 (RefOk.p 4 4 0 (Ru 1 (Ru 11 Rn)) (fun e => by cases e))) (Sc rfl (Sc rfl (Sc rfl (Sc rfl Sn)))) (Sc rfl Sn)
     refine mL h fun l_15 h => mf h fun h => ?_
     refine fun b_16 hb_b_16 => ?_
     replace h := h b_16 hb_b_16
     refine mO h fun u_17 h_18 h => mS h fun a_19 n_20 c_21 h => ?_
     exact ⟨(a_19, n_20, c_21), (Sc rfl (Sc rfl (Sc rfl Sn))), Sn, h⟩
    ·replace h := ite2_f h e
     refine AWP.exit ?_
     exact ⟨x1, x3a, x3n, x3c, (Sc rfl (Sc rfl Sn)), Sn, h⟩
  ·rintro env pv hp ⟨x1, x3a, x3n, x3c, he, hv, h⟩
   refine AWP.sub (env' := (upd (upd E0 3 (sS x3a x3n x3c)) 1 (sP x1))) (pv' := V0) ?_ (Ru 1 (Ru 3 Rn)) he hv (HSub.refl _)
   clear he hv
   unfold F45_j1 at h
   refine AWP.seq' ?_
   refine AWP.rgn (F45_r4 E0 x1 x3a x3n x3c hp _) ?_ (Ru 1 (Ru 3 Rn)) (Sc rfl (Sc rfl Sn)) Sn
   refine mC h fun u_6 h_7 h => ?_
   refine AWP.seq' ?_
   refine AWP.rgn (F45_r5 E0 x3a x3n x3c h_7 _) ?_ (Ru 3 Rn) (Sc rfl Sn) Sn
   refine AWP.ret ?_
   exact h
end
-- 47 (*interpreter/pool.Pool).Is
section
variable (e : Env) (x0 : Option Addr) (x1 : List Value) (x5 x6 : Bool) (k3 : List Value) (hp : HP) (K : Env → PV → HP → Prop)
abbrev R47 (p : List Nat) (n : Nat) := RW Try.prog 26 [3] (opsAt Try.f47 p) (List.range n)
theorem F47_r0 : R47 [0] 3 (upd e 1 (sA x1)) V0 hp K =
    (K (upd (upd (upd (upd e 1 (sA x1)) 3 (sR 3 0)) 4 (sB false)) 5 (sB false)) (upd V0 3 (75, x1)) hp) := by kernel_rfl
theorem F47_r1 : R47 [1, 0, 0] 4 (upd (upd e 3 (sR 3 0)) 0 (sP x0)) (upd V0 3 (75, k3)) hp K =
    (ldL (cellsN k3 0 5) fun l1 => (CF Try.prog 100 [(.pointer x0), (.agg ⟨l1⟩)] hp fun u2 h3 => (intV u2 .i64 fun i4 => (K (upd (upd (upd (upd (upd (upd e 3 (sR 3 0)) 0 (sP x0)) 7 (sP x0)) 8 (sA l1)) 9 (sI i4)) 10 (sB ((i4 != 0)))) (upd V0 3 (75, k3)) h3)))) := by kernel_rfl
theorem F47_r2 : R47 [1, 0, 1, 0, 0] 2 e V0 hp K =
    (K (upd (upd e 4 (sB false)) 5 (sB false)) V0 hp) := by kernel_rfl
theorem F47_r3 : R47 [1, 1, 0] 11 (upd (upd e 3 (sR 3 0)) 0 (sP x0)) (upd V0 3 (75, k3)) hp K =
    (ptrN x0 fun b1 o2 => (ldV (HP.cell hp b1 (o2 + 3)) fun v3 => (mapV v3 fun m4 => (ldL (cellsN k3 0 5) fun l5 => (rdS Try.prog (Instr.lookup 158 (.map m4) (.agg ⟨l5⟩) true) hp fun u6 => (tup2V u6 fun u7 u8 => (boolV u7 fun q9 => (boolV u8 fun q10 => (K (upd (upd (upd (upd (upd (upd (upd (upd (upd (upd (upd (upd (upd e 3 (sR 3 0)) 0 (sP x0)) 12 (sP x0)) 13 (sQ b1 o2)) 14 (sQ b1 (o2 + 3))) 15 (sV (.map m4))) 16 (sA l5)) 17 (sV (.tuple ⟨[(.bool q9), (.bool q10)]⟩))) 11 (sV (.tuple ⟨[(.bool q9), (.bool q10)]⟩))) 18 (sB q9)) 19 (sB q10)) 5 (sB q9)) 6 (sB q10)) (upd V0 3 (75, k3)) hp))))))))) := by kernel_rfl
theorem F47_r4 : R47 [1, 1, 1, 0] 8 (upd (upd e 6 (sB x6)) 5 (sB x5)) V0 hp K =
    (ite2 x6 (K (upd (upd (upd (upd (upd (upd (upd (upd (upd (upd e 6 (sB x6)) 5 (sB x5)) 20 (sB x6)) 21 (sB true)) 22 (sB x5)) 23 (sB ((!x5)))) 24 (sB ((!x5)))) 25 (sB x5)) 4 (sB ((!x5)))) 5 (sB x5)) V0 hp) (K (upd (upd (upd (upd (upd (upd (upd (upd (upd (upd e 6 (sB x6)) 5 (sB x5)) 20 (sB x6)) 21 (sB false)) 22 sU) 23 sU) 24 (sB false)) 25 (sB x5)) 4 (sB false)) 5 (sB x5)) V0 hp)) := by kernel_rfl
def F47 (x0 : Option Addr) (x1 : List Value) (hp : HP) (K : Value → HP → Prop) : Prop :=
  (ldL (cellsN x1 0 5) fun l_1 => (CF Try.prog 100 [(.pointer x0), (.agg ⟨l_1⟩)] hp fun u_2 h_3 => (intV u_2 .i64 fun i_4 => (ite2 (i_4 != 0) (K (.tuple ⟨[.bool false, .bool false]⟩) h_3) (ptrN x0 fun b_5 o_6 => (ldV (HP.cell h_3 b_5 (o_6 + 3)) fun v_7 => (mapV v_7 fun m_8 => (ldL (cellsN x1 0 5) fun l_9 => (rdS Try.prog (Instr.lookup 158 (.map m_8) (.agg ⟨l_9⟩) true) h_3 fun u_10 => (tup2V u_10 fun u_11 u_12 => (boolV u_11 fun q_13 => (boolV u_12 fun q_14 => (ite2 q_14 (K (.tuple ⟨[(.bool (!q_13)), (.bool q_13)]⟩) h_3) (K (.tuple ⟨[.bool false, (.bool q_13)]⟩) h_3))))))))))))))
noncomputable def F47_code : Code := (.seq (.region 0 (opsAt Try.f47 [0]) false) (.seq (.seq (.region 1 (opsAt Try.f47 [1, 0, 0]) false) (.cond (.tmp 10) (.seq (.region 2 (opsAt Try.f47 [1, 0, 1, 0, 0]) false) .ret) .skip)) (.seq (.region 3 (opsAt Try.f47 [1, 1, 0]) true) (.seq (.region 4 (opsAt Try.f47 [1, 1, 1, 0]) false) .ret))))
theorem F47_body : Try.f47.body = some F47_code := by kernel_rfl
theorem F47_ok (x0 : Option Addr) (x1 : List Value) (hp : HP) (K : Value → HP → Prop) (h : F47 x0 x1 hp K) : CF Try.prog 47 [(.pointer x0), (.agg ⟨x1⟩)] hp K := by
 refine .inl ⟨by kernel_rfl, AC.intro (N := 26) Try.func47 F47_body rfl (Nat.le_of_ble_eq_true rfl) ?_⟩
 unfold F47 at h
 unfold F47_code
 refine AWP.seq' ?_
 refine AWP.rgn (F47_r0 (upd E0 0 (sP x0)) x1 hp _) ?_ (Ru 1 (Ru 0 Rn)) (Sc rfl (Sc rfl Sn)) Sn
 refine AWP.seq' ?_
 refine AWP.seq' ?_
 refine AWP.rgn (F47_r1 E0 x0 x1 hp _) ?_ (Ru 0 (RefOk.p 3 3 0 Rn (fun e => by cases e))) (Sc rfl (Sc rfl Sn)) (Sc rfl Sn)
 refine mL h fun l_1 h => mC h fun u_2 h_3 h => mI h fun i_4 h => ?_
 refine AWP.cond (t := (i_4 != 0)) rfl (fun e => ?_) (fun e => ?_)
 ·replace h := ite2_t h e
  refine AWP.seq' ?_
  refine AWP.rgn (F47_r2 E0  h_3 _) ?_ Rn Sn Sn
  refine AWP.ret ?_
  exact h
 ·replace h := ite2_f h e
  refine AWP.skip ?_
  refine AWP.seq' ?_
  refine AWP.rgnD (by kernel_rfl) (by kernel_rfl) (F47_r3 E0 x0 x1 h_3 _) ?_ (Ru 0 (RefOk.p 3 3 0 Rn (fun e => by cases e))) (Sc rfl (Sc rfl Sn)) (Sc rfl Sn)
  refine mN h fun b_5 o_6 h => mV h fun v_7 h => mM h fun m_8 h => mL h fun l_9 h => mR h fun u_10 h => mT h fun u_11 u_12 h => mB h fun q_13 h => mB h fun q_14 h => ?_
  refine AWP.seq' ?_
  refine AWP.rgn (F47_r4 E0 q_13 q_14 h_3 _) ?_ (Ru 5 (Ru 6 Rn)) (Sc rfl (Sc rfl Sn)) Sn
  refine mt h (fun h => ?_) (fun h => ?_)
  ·refine AWP.ret ?_
   exact h
  ·refine AWP.ret ?_
   exact h
end
-- 48 (*interpreter/pool.Pool).Has
section
variable (e : Env) (x0 : Option Addr) (x1 k3 : List Value) (hp : HP) (K : Env → PV → HP → Prop)
abbrev R48 (p : List Nat) (n : Nat) := RW Try.prog 10 [3] (opsAt Try.f48 p) (List.range n)
theorem F48_r0 : R48 [0] 2 (upd e 1 (sA x1)) V0 hp K =
    (K (upd (upd (upd e 1 (sA x1)) 3 (sR 3 0)) 4 (sB false)) (upd V0 3 (73, x1)) hp) := by kernel_rfl
theorem F48_r1 : R48 [1, 0] 6 (upd (upd e 3 (sR 3 0)) 0 (sP x0)) (upd V0 3 (73, k3)) hp K =
    (ldL (cellsN k3 0 4) fun l1 => (if List.length l1 = 4 then (CF Try.prog 100 [(.pointer x0), (.agg ⟨(splice [.int .u8 0, .int .u8 0, .int .u8 0, .int .u8 0, .int .i64 0] 0 l1)⟩)] hp fun u2 h3 => (intV u2 .i64 fun i4 => (K (upd (upd (upd (upd (upd (upd (upd (upd e 3 (sR 3 0)) 0 (sP x0)) 5 (sP x0)) 6 (sA l1)) 7 (sV (.agg ⟨(splice [.int .u8 0, .int .u8 0, .int .u8 0, .int .u8 0, .int .i64 0] 0 l1)⟩))) 8 (sI i4)) 9 (sB ((i4 == 0)))) 4 (sB ((i4 == 0)))) (upd V0 3 (73, k3)) h3))) else False)) := by kernel_rfl
def F48 (x0 : Option Addr) (x1 : List Value) (hp : HP) (K : Value → HP → Prop) : Prop :=
  (ldL (cellsN x1 0 4) fun l_1 => (if List.length l_1 = 4 then (CF Try.prog 100 [(.pointer x0), (.agg ⟨(splice [.int .u8 0, .int .u8 0, .int .u8 0, .int .u8 0, .int .i64 0] 0 l_1)⟩)] hp fun u_2 h_3 => (intV u_2 .i64 fun i_4 => (K (.bool (i_4 == 0)) h_3))) else False))
noncomputable def F48_code : Code := (.seq (.region 0 (opsAt Try.f48 [0]) false) (.seq (.region 1 (opsAt Try.f48 [1, 0]) false) .ret))
theorem F48_body : Try.f48.body = some F48_code := by kernel_rfl
theorem F48_ok (x0 : Option Addr) (x1 : List Value) (hp : HP) (K : Value → HP → Prop) (h : F48 x0 x1 hp K) : CF Try.prog 48 [(.pointer x0), (.agg ⟨x1⟩)] hp K := by
 refine .inl ⟨by kernel_rfl, AC.intro (N := 10) Try.func48 F48_body rfl (Nat.le_of_ble_eq_true rfl) ?_⟩
 unfold F48 at h
 unfold F48_code
 refine AWP.seq' ?_
 refine AWP.rgn (F48_r0 (upd E0 0 (sP x0)) x1 hp _) ?_ (Ru 1 (Ru 0 Rn)) (Sc rfl (Sc rfl Sn)) Sn
 refine AWP.seq' ?_
 refine AWP.rgn (F48_r1 E0 x0 x1 hp _) ?_ (Ru 0 (RefOk.p 3 3 0 Rn (fun e => by cases e))) (Sc rfl (Sc rfl Sn)) (Sc rfl Sn)
 refine mL h fun l_1 h => mf h fun h => mC h fun u_2 h_3 h => mI h fun i_4 h => ?_
 refine AWP.ret ?_
 exact h
end
-- 49 (*interpreter/pool.Pool).Give
section
variable (e : Env) (x0 : Option Addr) (x1 : List Value) (x5 : Int) (x6 x7 : Bool) (k3 : List Value) (hp : HP) (K : Env → PV → HP → Prop)
abbrev R49 (p : List Nat) (n : Nat) := RW Try.prog 33 [3] (opsAt Try.f49 p) (List.range n)
theorem F49_r0 : R49 [0] 2 (upd e 1 (sA x1)) V0 hp K =
    (K (upd (upd (upd e 1 (sA x1)) 3 (sR 3 0)) 4 (sI 0)) (upd V0 3 (75, x1)) hp) := by kernel_rfl
theorem F49_r1 : R49 [1, 0, 0] 4 (upd (upd e 3 (sR 3 0)) 0 (sP x0)) (upd V0 3 (75, k3)) hp K =
    (ldL (cellsN k3 0 5) fun l1 => (CF Try.prog 100 [(.pointer x0), (.agg ⟨l1⟩)] hp fun u2 h3 => (intV u2 .i64 fun i4 => (K (upd (upd (upd (upd (upd (upd e 3 (sR 3 0)) 0 (sP x0)) 8 (sP x0)) 9 (sA l1)) 10 (sI i4)) 5 (sI i4)) (upd V0 3 (75, k3)) h3)))) := by kernel_rfl
theorem F49_r2 : R49 [1, 0, 1, 0] 2 (upd e 5 (sI x5)) (upd V0 3 (75, k3)) hp K =
    (K (upd (upd (upd e 5 (sI x5)) 11 (sI x5)) 12 (sB ((x5 != 0)))) (upd V0 3 (75, k3)) hp) := by kernel_rfl
theorem F49_r3 : R49 [1, 0, 1, 1, 0, 0] 2 (upd e 5 (sI x5)) V0 hp K =
    (K (upd (upd (upd e 5 (sI x5)) 13 (sI x5)) 4 (sI x5)) V0 hp) := by kernel_rfl
theorem F49_r4 : R49 [1, 1, 0] 11 (upd (upd e 3 (sR 3 0)) 0 (sP x0)) (upd V0 3 (75, k3)) hp K =
    (ptrN x0 fun b1 o2 => (ldV (HP.cell hp b1 (o2 + 3)) fun v3 => (mapV v3 fun m4 => (ldL (cellsN k3 0 5) fun l5 => (rdS Try.prog (Instr.lookup 158 (.map m4) (.agg ⟨l5⟩) true) hp fun u6 => (tup2V u6 fun u7 u8 => (boolV u7 fun q9 => (boolV u8 fun q10 => (K (upd (upd (upd (upd (upd (upd (upd (upd (upd (upd (upd (upd (upd e 3 (sR 3 0)) 0 (sP x0)) 15 (sP x0)) 16 (sQ b1 o2)) 17 (sQ b1 (o2 + 3))) 18 (sV (.map m4))) 19 (sA l5)) 20 (sV (.tuple ⟨[(.bool q9), (.bool q10)]⟩))) 14 (sV (.tuple ⟨[(.bool q9), (.bool q10)]⟩))) 21 (sB q9)) 22 (sB q10)) 6 (sB q9)) 7 (sB q10)) (upd V0 3 (75, k3)) hp))))))))) := by kernel_rfl
theorem F49_r5 : R49 [1, 1, 1, 0, 0, 0] 2 (upd e 6 (sB x6)) (upd V0 3 (75, k3)) hp K =
    (K (upd (upd (upd e 6 (sB x6)) 24 (sB x6)) 23 (sB x6)) (upd V0 3 (75, k3)) hp) := by kernel_rfl
theorem F49_r6 : R49 [1, 1, 1, 0, 0, 1, 0, 0] 1 e V0 hp K =
    (K (upd e 4 (sI 11)) V0 hp) := by kernel_rfl
theorem F49_r7 : R49 [1, 1, 1, 0, 0, 1, 1, 0] 3 (upd e 7 (sB x7)) (upd V0 3 (75, k3)) hp K =
    (K (upd (upd (upd (upd e 7 (sB x7)) 26 (sB x7)) 27 (sB ((!x7)))) 25 (sB ((!x7)))) (upd V0 3 (75, k3)) hp) := by kernel_rfl
theorem F49_r8 : R49 [1, 1, 1, 0, 0, 1, 1, 1, 0, 0] 1 e V0 hp K =
    (K (upd e 4 (sI 4)) V0 hp) := by kernel_rfl
theorem F49_r9 : R49 [1, 1, 1, 1, 0] 6 (upd (upd e 3 (sR 3 0)) 0 (sP x0)) (upd V0 3 (75, k3)) hp K =
    (ptrN x0 fun b1 o2 => (ldV (HP.cell hp b1 (o2 + 3)) fun v3 => (mapV v3 fun m4 => (ldL (cellsN k3 0 5) fun l5 => (opS Try.prog (Builtin.delete_ #[158, 75] 0 ⟨[(.map m4), (.agg ⟨l5⟩)]⟩) hp fun u6 h7 => (K (upd (upd (upd (upd (upd (upd (upd e 3 (sR 3 0)) 0 (sP x0)) 28 (sP x0)) 29 (sQ b1 o2)) 30 (sQ b1 (o2 + 3))) 31 (sV (.map m4))) 32 (sA l5)) (upd V0 3 (75, k3)) h7)))))) := by kernel_rfl
theorem F49_r10 : R49 [1, 1, 1, 1, 1, 0] 1 e V0 hp K =
    (K (upd e 4 (sI 0)) V0 hp) := by kernel_rfl
def F49 (x0 : Option Addr) (x1 : List Value) (hp : HP) (K : Value → HP → Prop) : Prop :=
  (ldL (cellsN x1 0 5) fun l_1 => (CF Try.prog 100 [(.pointer x0), (.agg ⟨l_1⟩)] hp fun u_2 h_3 => (intV u_2 .i64 fun i_4 => (ite2 (i_4 != 0) (K (.int .i64 i_4) h_3) (ptrN x0 fun b_5 o_6 => (ldV (HP.cell h_3 b_5 (o_6 + 3)) fun v_7 => (mapV v_7 fun m_8 => (ldL (cellsN x1 0 5) fun l_9 => (rdS Try.prog (Instr.lookup 158 (.map m_8) (.agg ⟨l_9⟩) true) h_3 fun u_10 => (tup2V u_10 fun u_11 u_12 => (boolV u_11 fun q_13 => (boolV u_12 fun q_14 => (ite2 q_13 (K (.int .i64 11) h_3) (ite2 (!q_14) (K (.int .i64 4) h_3) (ptrN x0 fun b_15 o_16 => (ldV (HP.cell h_3 b_15 (o_16 + 3)) fun v_17 => (mapV v_17 fun m_18 => (ldL (cellsN x1 0 5) fun l_19 => (opS Try.prog (Builtin.delete_ #[158, 75] 0 ⟨[(.map m_18), (.agg ⟨l_19⟩)]⟩) h_3 fun u_20 h_21 => (K (.int .i64 0) h_21))))))))))))))))))))
noncomputable def F49_code : Code := (.seq (.region 0 (opsAt Try.f49 [0]) false) (.seq (.seq (.region 1 (opsAt Try.f49 [1, 0, 0]) false) (.seq (.region 2 (opsAt Try.f49 [1, 0, 1, 0]) false) (.cond (.tmp 12) (.seq (.region 3 (opsAt Try.f49 [1, 0, 1, 1, 0, 0]) false) .ret) .skip))) (.seq (.region 4 (opsAt Try.f49 [1, 1, 0]) true) (.seq (.block 0 (.seq (.region 5 (opsAt Try.f49 [1, 1, 1, 0, 0, 0]) false) (.cond (.tmp 23) (.seq (.region 6 (opsAt Try.f49 [1, 1, 1, 0, 0, 1, 0, 0]) false) .ret) (.seq (.region 7 (opsAt Try.f49 [1, 1, 1, 0, 0, 1, 1, 0]) false) (.cond (.tmp 25) (.seq (.region 8 (opsAt Try.f49 [1, 1, 1, 0, 0, 1, 1, 1, 0, 0]) false) .ret) .skip))))) (.seq (.region 9 (opsAt Try.f49 [1, 1, 1, 1, 0]) true) (.seq (.region 10 (opsAt Try.f49 [1, 1, 1, 1, 1, 0]) false) .ret))))))
theorem F49_body : Try.f49.body = some F49_code := by kernel_rfl
theorem F49_ok (x0 : Option Addr) (x1 : List Value) (hp : HP) (K : Value → HP → Prop) (h : F49 x0 x1 hp K) : CF Try.prog 49 [(.pointer x0), (.agg ⟨x1⟩)] hp K := by
 refine .inl ⟨by kernel_rfl, AC.intro (N := 33) Try.func49 F49_body rfl (Nat.le_of_ble_eq_true rfl) ?_⟩
 unfold F49 at h
 unfold F49_code
 refine AWP.seq' ?_
 refine AWP.rgn (F49_r0 (upd E0 0 (sP x0)) x1 hp _) ?_ (Ru 1 (Ru 0 Rn)) (Sc rfl (Sc rfl Sn)) Sn
 refine AWP.seq' ?_
 refine AWP.seq' ?_
 refine AWP.rgn (F49_r1 E0 x0 x1 hp _) ?_ (Ru 0 (RefOk.p 3 3 0 Rn (fun e => by cases e))) (Sc rfl (Sc rfl Sn)) (Sc rfl Sn)
 refine mL h fun l_1 h => mC h fun u_2 h_3 h => mI h fun i_4 h => ?_
 refine AWP.seq' ?_
 refine AWP.rgn (F49_r2 (upd (upd E0 3 (sR 3 0)) 0 (sP x0)) i_4 x1 h_3 _) ?_ (Ru 5 (Ru 0 (RefOk.p 3 3 0 Rn (fun e => by cases e)))) (Sc rfl (Sc rfl (Sc rfl Sn))) (Sc rfl Sn)
 refine AWP.cond (t := (i_4 != 0)) rfl (fun e => ?_) (fun e => ?_)
 ·replace h := ite2_t h e
  refine AWP.seq' ?_
  refine AWP.rgn (F49_r3 E0 i_4 h_3 _) ?_ (Ru 5 Rn) (Sc rfl Sn) Sn
  refine AWP.ret ?_
  exact h
 ·replace h := ite2_f h e
  refine AWP.skip ?_
  refine AWP.seq' ?_
  refine AWP.rgnD (by kernel_rfl) (by kernel_rfl) (F49_r4 E0 x0 x1 h_3 _) ?_ (Ru 0 (RefOk.p 3 3 0 Rn (fun e => by cases e))) (Sc rfl (Sc rfl Sn)) (Sc rfl Sn)
  refine mN h fun b_5 o_6 h => mV h fun v_7 h => mM h fun m_8 h => mL h fun l_9 h => mR h fun u_10 h => mT h fun u_11 u_12 h => mB h fun q_13 h => mB h fun q_14 h => ?_
  refine AWP.seq' ?_
  refine AWP.block ?_
  refine AWP.seq' ?_
  refine AWP.rgn (F49_r5 (upd (upd (upd E0 7 (sB q_14)) 3 (sR 3 0)) 0 (sP x0)) q_13 x1 h_3 _) ?_ (Ru 6 (Ru 0 (RefOk.p 3 3 0 (Ru 7 Rn) (fun e => by cases e)))) (Sc rfl (Sc rfl (Sc rfl (Sc rfl Sn)))) (Sc rfl Sn)
  refine AWP.cond (t := q_13) rfl (fun e => ?_) (fun e => ?_)
  ·replace h := ite2_t h e
   refine AWP.seq' ?_
   refine AWP.rgn (F49_r6 E0  h_3 _) ?_ Rn Sn Sn
   refine AWP.ret ?_
   exact h
  ·replace h := ite2_f h e
   refine AWP.seq' ?_
   refine AWP.rgn (F49_r7 (upd (upd E0 3 (sR 3 0)) 0 (sP x0)) q_14 x1 h_3 _) ?_ (Ru 7 (Ru 0 (RefOk.p 3 3 0 Rn (fun e => by cases e)))) (Sc rfl (Sc rfl (Sc rfl Sn))) (Sc rfl Sn)
   refine AWP.cond (t := (!q_14)) rfl (fun e => ?_) (fun e => ?_)
   ·replace h := ite2_t h e
    refine AWP.seq' ?_
    refine AWP.rgn (F49_r8 E0  h_3 _) ?_ Rn Sn Sn
    refine AWP.ret ?_
    exact h
   ·replace h := ite2_f h e
    refine AWP.skip ?_
    refine AWP.seq' ?_
    refine AWP.rgnD (by kernel_rfl) (by kernel_rfl) (F49_r9 E0 x0 x1 h_3 _) ?_ (Ru 0 (RefOk.p 3 3 0 Rn (fun e => by cases e))) (Sc rfl (Sc rfl Sn)) (Sc rfl Sn)
    refine mN h fun b_15 o_16 h => mV h fun v_17 h => mM h fun m_18 h => mL h fun l_19 h => mO h fun u_20 h_21 h => ?_
    refine AWP.seq' ?_
    refine AWP.rgn (F49_r10 E0  h_21 _) ?_ Rn Sn Sn
    refine AWP.ret ?_
    exact h
end
-- 50 (*interpreter/pool.Pool).Reserve
section
variable (e : Env) (x0 : Option Addr) (x1 : List Value) (x5 : Int) (x7 : Bool) (k3 : List Value) (hp : HP) (K : Env → PV → HP → Prop)
abbrev R50 (p : List Nat) (n : Nat) := RW Try.prog 29 [3] (opsAt Try.f50 p) (List.range n)
theorem F50_r0 : R50 [0] 2 (upd e 1 (sA x1)) V0 hp K =
    (K (upd (upd (upd e 1 (sA x1)) 3 (sR 3 0)) 4 (sI 0)) (upd V0 3 (75, x1)) hp) := by kernel_rfl
theorem F50_r1 : R50 [1, 0, 0] 4 (upd (upd e 3 (sR 3 0)) 0 (sP x0)) (upd V0 3 (75, k3)) hp K =
    (ldL (cellsN k3 0 5) fun l1 => (CF Try.prog 100 [(.pointer x0), (.agg ⟨l1⟩)] hp fun u2 h3 => (intV u2 .i64 fun i4 => (K (upd (upd (upd (upd (upd (upd e 3 (sR 3 0)) 0 (sP x0)) 8 (sP x0)) 9 (sA l1)) 10 (sI i4)) 5 (sI i4)) (upd V0 3 (75, k3)) h3)))) := by kernel_rfl
theorem F50_r2 : R50 [1, 0, 1, 0] 2 (upd e 5 (sI x5)) (upd V0 3 (75, k3)) hp K =
    (K (upd (upd (upd e 5 (sI x5)) 11 (sI x5)) 12 (sB ((x5 != 0)))) (upd V0 3 (75, k3)) hp) := by kernel_rfl
theorem F50_r3 : R50 [1, 0, 1, 1, 0, 0] 2 (upd e 5 (sI x5)) V0 hp K =
    (K (upd (upd (upd e 5 (sI x5)) 13 (sI x5)) 4 (sI x5)) V0 hp) := by kernel_rfl
theorem F50_r4 : R50 [1, 1, 0, 0] 11 (upd (upd e 3 (sR 3 0)) 0 (sP x0)) (upd V0 3 (75, k3)) hp K =
    (ptrN x0 fun b1 o2 => (ldV (HP.cell hp b1 (o2 + 3)) fun v3 => (mapV v3 fun m4 => (ldL (cellsN k3 0 5) fun l5 => (rdS Try.prog (Instr.lookup 158 (.map m4) (.agg ⟨l5⟩) true) hp fun u6 => (tup2V u6 fun u7 u8 => (boolV u7 fun q9 => (boolV u8 fun q10 => (K (upd (upd (upd (upd (upd (upd (upd (upd (upd (upd (upd (upd (upd e 3 (sR 3 0)) 0 (sP x0)) 15 (sP x0)) 16 (sQ b1 o2)) 17 (sQ b1 (o2 + 3))) 18 (sV (.map m4))) 19 (sA l5)) 20 (sV (.tuple ⟨[(.bool q9), (.bool q10)]⟩))) 14 (sV (.tuple ⟨[(.bool q9), (.bool q10)]⟩))) 21 (sB q9)) 22 (sB q10)) 6 (sB q9)) 7 (sB q10)) (upd V0 3 (75, k3)) hp))))))))) := by kernel_rfl
theorem F50_r5 : R50 [1, 1, 0, 1, 0] 1 (upd e 7 (sB x7)) (upd V0 3 (75, k3)) hp K =
    (K (upd (upd e 7 (sB x7)) 23 (sB x7)) (upd V0 3 (75, k3)) hp) := by kernel_rfl
theorem F50_r6 : R50 [1, 1, 0, 1, 1, 0, 0] 1 e V0 hp K =
    (K (upd e 4 (sI 5)) V0 hp) := by kernel_rfl
theorem F50_r7 : R50 [1, 1, 1, 0] 6 (upd (upd e 3 (sR 3 0)) 0 (sP x0)) (upd V0 3 (75, k3)) hp K =
    (ptrN x0 fun b1 o2 => (ldV (HP.cell hp b1 (o2 + 3)) fun v3 => (mapV v3 fun m4 => (ldL (cellsN k3 0 5) fun l5 => (opS Try.prog (Instr.mapUpdate 158 (.map m4) (.agg ⟨l5⟩) (.bool true)) hp fun u6 h7 => (K (upd (upd (upd (upd (upd (upd (upd e 3 (sR 3 0)) 0 (sP x0)) 24 (sP x0)) 25 (sQ b1 o2)) 26 (sQ b1 (o2 + 3))) 27 (sV (.map m4))) 28 (sA l5)) (upd V0 3 (75, k3)) h7)))))) := by kernel_rfl
theorem F50_r8 : R50 [1, 1, 1, 1, 0] 1 e V0 hp K =
    (K (upd e 4 (sI 0)) V0 hp) := by kernel_rfl
def F50 (x0 : Option Addr) (x1 : List Value) (hp : HP) (K : Value → HP → Prop) : Prop :=
  (ldL (cellsN x1 0 5) fun l_1 => (CF Try.prog 100 [(.pointer x0), (.agg ⟨l_1⟩)] hp fun u_2 h_3 => (intV u_2 .i64 fun i_4 => (ite2 (i_4 != 0) (K (.int .i64 i_4) h_3) (ptrN x0 fun b_5 o_6 => (ldV (HP.cell h_3 b_5 (o_6 + 3)) fun v_7 => (mapV v_7 fun m_8 => (ldL (cellsN x1 0 5) fun l_9 => (rdS Try.prog (Instr.lookup 158 (.map m_8) (.agg ⟨l_9⟩) true) h_3 fun u_10 => (tup2V u_10 fun u_11 u_12 => (boolV u_11 fun q_13 => (boolV u_12 fun q_14 => (ite2 q_14 (K (.int .i64 5) h_3) (ptrN x0 fun b_15 o_16 => (ldV (HP.cell h_3 b_15 (o_16 + 3)) fun v_17 => (mapV v_17 fun m_18 => (ldL (cellsN x1 0 5) fun l_19 => (opS Try.prog (Instr.mapUpdate 158 (.map m_18) (.agg ⟨l_19⟩) (.bool true)) h_3 fun u_20 h_21 => (K (.int .i64 0) h_21)))))))))))))))))))
noncomputable def F50_code : Code := (.seq (.region 0 (opsAt Try.f50 [0]) false) (.seq (.seq (.region 1 (opsAt Try.f50 [1, 0, 0]) false) (.seq (.region 2 (opsAt Try.f50 [1, 0, 1, 0]) false) (.cond (.tmp 12) (.seq (.region 3 (opsAt Try.f50 [1, 0, 1, 1, 0, 0]) false) .ret) .skip))) (.seq (.seq (.region 4 (opsAt Try.f50 [1, 1, 0, 0]) true) (.seq (.region 5 (opsAt Try.f50 [1, 1, 0, 1, 0]) false) (.cond (.tmp 23) (.seq (.region 6 (opsAt Try.f50 [1, 1, 0, 1, 1, 0, 0]) false) .ret) .skip))) (.seq (.region 7 (opsAt Try.f50 [1, 1, 1, 0]) true) (.seq (.region 8 (opsAt Try.f50 [1, 1, 1, 1, 0]) false) .ret)))))
theorem F50_body : Try.f50.body = some F50_code := by kernel_rfl
theorem F50_ok (x0 : Option Addr) (x1 : List Value) (hp : HP) (K : Value → HP → Prop) (h : F50 x0 x1 hp K) : CF Try.prog 50 [(.pointer x0), (.agg ⟨x1⟩)] hp K := by
 refine .inl ⟨by kernel_rfl, AC.intro (N := 29) Try.func50 F50_body rfl (Nat.le_of_ble_eq_true rfl) ?_⟩
 unfold F50 at h
 unfold F50_code
 refine AWP.seq' ?_
 refine AWP.rgn (F50_r0 (upd E0 0 (sP x0)) x1 hp _) ?_ (Ru 1 (Ru 0 Rn)) (Sc rfl (Sc rfl Sn)) Sn
 refine AWP.seq' ?_
 refine AWP.seq' ?_
 refine AWP.rgn (F50_r1 E0 x0 x1 hp _) ?_ (Ru 0 (RefOk.p 3 3 0 Rn (fun e => by cases e))) (Sc rfl (Sc rfl Sn)) (Sc rfl Sn)
 refine mL h fun l_1 h => mC h fun u_2 h_3 h => mI h fun i_4 h => ?_
 refine AWP.seq' ?_
 refine AWP.rgn (F50_r2 (upd (upd E0 3 (sR 3 0)) 0 (sP x0)) i_4 x1 h_3 _) ?_ (Ru 5 (Ru 0 (RefOk.p 3 3 0 Rn (fun e => by cases e)))) (Sc rfl (Sc rfl (Sc rfl Sn))) (Sc rfl Sn)
 refine AWP.cond (t := (i_4 != 0)) rfl (fun e => ?_) (fun e => ?_)
 ·replace h := ite2_t h e
  refine AWP.seq' ?_
  refine AWP.rgn (F50_r3 E0 i_4 h_3 _) ?_ (Ru 5 Rn) (Sc rfl Sn) Sn
  refine AWP.ret ?_
  exact h
 ·replace h := ite2_f h e
  refine AWP.skip ?_
  refine AWP.seq' ?_
  refine AWP.seq' ?_
  refine AWP.rgnD (by kernel_rfl) (by kernel_rfl) (F50_r4 E0 x0 x1 h_3 _) ?_ (Ru 0 (RefOk.p 3 3 0 Rn (fun e => by cases e))) (Sc rfl (Sc rfl Sn)) (Sc rfl Sn)
  refine mN h fun b_5 o_6 h => mV h fun v_7 h => mM h fun m_8 h => mL h fun l_9 h => mR h fun u_10 h => mT h fun u_11 u_12 h => mB h fun q_13 h => mB h fun q_14 h => ?_
  refine AWP.seq' ?_
  refine AWP.rgn (F50_r5 (upd (upd E0 3 (sR 3 0)) 0 (sP x0)) q_14 x1 h_3 _) ?_ (Ru 7 (Ru 0 (RefOk.p 3 3 0 Rn (fun e => by cases e)))) (Sc rfl (Sc rfl (Sc rfl Sn))) (Sc rfl Sn)
  refine AWP.cond (t := q_14) rfl (fun e => ?_) (fun e => ?_)
  ·replace h := ite2_t h e
   refine AWP.seq' ?_
   refine AWP.rgn (F50_r6 E0  h_3 _) ?_ Rn Sn Sn
   refine AWP.ret ?_
   exact h
  ·replace h := ite2_f h e
   refine AWP.skip ?_
   refine AWP.seq' ?_
   refine AWP.rgnD (by kernel_rfl) (by kernel_rfl) (F50_r7 E0 x0 x1 h_3 _) ?_ (Ru 0 (RefOk.p 3 3 0 Rn (fun e => by cases e))) (Sc rfl (Sc rfl Sn)) (Sc rfl Sn)
   refine mN h fun b_15 o_16 h => mV h fun v_17 h => mM h fun m_18 h => mL h fun l_19 h => mO h fun u_20 h_21 h => ?_
   refine AWP.seq' ?_
   refine AWP.rgn (F50_r8 E0  h_21 _) ?_ Rn Sn Sn
   refine AWP.ret ?_
   exact h
end
-- 51 (*interpreter/pool.Pool).Release
section
variable (e : Env) (x0 : Option Addr) (x1 : List Value) (x5 : Int) (k3 : List Value) (hp : HP) (K : Env → PV → HP → Prop)
abbrev R51 (p : List Nat) (n : Nat) := RW Try.prog 24 [3] (opsAt Try.f51 p) (List.range n)
theorem F51_r0 : R51 [0] 2 (upd e 1 (sA x1)) V0 hp K =
    (K (upd (upd (upd e 1 (sA x1)) 3 (sR 3 0)) 4 (sI 0)) (upd V0 3 (75, x1)) hp) := by kernel_rfl
theorem F51_r1 : R51 [1, 0, 0] 4 (upd (upd e 3 (sR 3 0)) 0 (sP x0)) (upd V0 3 (75, k3)) hp K =
    (ldL (cellsN k3 0 5) fun l1 => (CF Try.prog 100 [(.pointer x0), (.agg ⟨l1⟩)] hp fun u2 h3 => (intV u2 .i64 fun i4 => (K (upd (upd (upd (upd (upd (upd e 3 (sR 3 0)) 0 (sP x0)) 6 (sP x0)) 7 (sA l1)) 8 (sI i4)) 5 (sI i4)) (upd V0 3 (75, k3)) h3)))) := by kernel_rfl
theorem F51_r2 : R51 [1, 0, 1, 0] 2 (upd e 5 (sI x5)) (upd V0 3 (75, k3)) hp K =
    (K (upd (upd (upd e 5 (sI x5)) 9 (sI x5)) 10 (sB ((x5 != 0)))) (upd V0 3 (75, k3)) hp) := by kernel_rfl
theorem F51_r3 : R51 [1, 0, 1, 1, 0, 0] 2 (upd e 5 (sI x5)) V0 hp K =
    (K (upd (upd (upd e 5 (sI x5)) 11 (sI x5)) 4 (sI x5)) V0 hp) := by kernel_rfl
theorem F51_r4 : R51 [1, 1, 0, 0] 7 (upd (upd e 3 (sR 3 0)) 0 (sP x0)) (upd V0 3 (75, k3)) hp K =
    (ptrN x0 fun b1 o2 => (ldV (HP.cell hp b1 (o2 + 3)) fun v3 => (mapV v3 fun m4 => (ldL (cellsN k3 0 5) fun l5 => (rdS Try.prog (Instr.lookup 158 (.map m4) (.agg ⟨l5⟩) false) hp fun u6 => (boolV u6 fun q7 => (K (upd (upd (upd (upd (upd (upd (upd (upd (upd e 3 (sR 3 0)) 0 (sP x0)) 12 (sP x0)) 13 (sQ b1 o2)) 14 (sQ b1 (o2 + 3))) 15 (sV (.map m4))) 16 (sA l5)) 17 (sB q7)) 18 (sB ((!q7)))) (upd V0 3 (75, k3)) hp))))))) := by kernel_rfl
theorem F51_r5 : R51 [1, 1, 0, 1, 0, 0] 1 e V0 hp K =
    (K (upd e 4 (sI 4)) V0 hp) := by kernel_rfl
theorem F51_r6 : R51 [1, 1, 1, 0] 6 (upd (upd e 3 (sR 3 0)) 0 (sP x0)) (upd V0 3 (75, k3)) hp K =
    (ptrN x0 fun b1 o2 => (ldV (HP.cell hp b1 (o2 + 3)) fun v3 => (mapV v3 fun m4 => (ldL (cellsN k3 0 5) fun l5 => (opS Try.prog (Builtin.delete_ #[158, 75] 0 ⟨[(.map m4), (.agg ⟨l5⟩)]⟩) hp fun u6 h7 => (K (upd (upd (upd (upd (upd (upd (upd e 3 (sR 3 0)) 0 (sP x0)) 19 (sP x0)) 20 (sQ b1 o2)) 21 (sQ b1 (o2 + 3))) 22 (sV (.map m4))) 23 (sA l5)) (upd V0 3 (75, k3)) h7)))))) := by kernel_rfl
theorem F51_r7 : R51 [1, 1, 1, 1, 0] 1 e V0 hp K =
    (K (upd e 4 (sI 0)) V0 hp) := by kernel_rfl
def F51 (x0 : Option Addr) (x1 : List Value) (hp : HP) (K : Value → HP → Prop) : Prop :=
  (ldL (cellsN x1 0 5) fun l_1 => (CF Try.prog 100 [(.pointer x0), (.agg ⟨l_1⟩)] hp fun u_2 h_3 => (intV u_2 .i64 fun i_4 => (ite2 (i_4 != 0) (K (.int .i64 i_4) h_3) (ptrN x0 fun b_5 o_6 => (ldV (HP.cell h_3 b_5 (o_6 + 3)) fun v_7 => (mapV v_7 fun m_8 => (ldL (cellsN x1 0 5) fun l_9 => (rdS Try.prog (Instr.lookup 158 (.map m_8) (.agg ⟨l_9⟩) false) h_3 fun u_10 => (boolV u_10 fun q_11 => (ite2 (!q_11) (K (.int .i64 4) h_3) (ptrN x0 fun b_12 o_13 => (ldV (HP.cell h_3 b_12 (o_13 + 3)) fun v_14 => (mapV v_14 fun m_15 => (ldL (cellsN x1 0 5) fun l_16 => (opS Try.prog (Builtin.delete_ #[158, 75] 0 ⟨[(.map m_15), (.agg ⟨l_16⟩)]⟩) h_3 fun u_17 h_18 => (K (.int .i64 0) h_18)))))))))))))))))
noncomputable def F51_code : Code := (.seq (.region 0 (opsAt Try.f51 [0]) false) (.seq (.seq (.region 1 (opsAt Try.f51 [1, 0, 0]) false) (.seq (.region 2 (opsAt Try.f51 [1, 0, 1, 0]) false) (.cond (.tmp 10) (.seq (.region 3 (opsAt Try.f51 [1, 0, 1, 1, 0, 0]) false) .ret) .skip))) (.seq (.seq (.region 4 (opsAt Try.f51 [1, 1, 0, 0]) true) (.cond (.tmp 18) (.seq (.region 5 (opsAt Try.f51 [1, 1, 0, 1, 0, 0]) false) .ret) .skip)) (.seq (.region 6 (opsAt Try.f51 [1, 1, 1, 0]) true) (.seq (.region 7 (opsAt Try.f51 [1, 1, 1, 1, 0]) false) .ret)))))
theorem F51_body : Try.f51.body = some F51_code := by kernel_rfl
theorem F51_ok (x0 : Option Addr) (x1 : List Value) (hp : HP) (K : Value → HP → Prop) (h : F51 x0 x1 hp K) : CF Try.prog 51 [(.pointer x0), (.agg ⟨x1⟩)] hp K := by
 refine .inl ⟨by kernel_rfl, AC.intro (N := 24) Try.func51 F51_body rfl (Nat.le_of_ble_eq_true rfl) ?_⟩
 unfold F51 at h
 unfold F51_code
 refine AWP.seq' ?_
 refine AWP.rgn (F51_r0 (upd E0 0 (sP x0)) x1 hp _) ?_ (Ru 1 (Ru 0 Rn)) (Sc rfl (Sc rfl Sn)) Sn
 refine AWP.seq' ?_
 refine AWP.seq' ?_
 refine AWP.rgn (F51_r1 E0 x0 x1 hp _) ?_ (Ru 0 (RefOk.p 3 3 0 Rn (fun e => by cases e))) (Sc rfl (Sc rfl Sn)) (Sc rfl Sn)
 refine mL h fun l_1 h => mC h fun u_2 h_3 h => mI h fun i_4 h => ?_
 refine AWP.seq' ?_
 refine AWP.rgn (F51_r2 (upd (upd E0 3 (sR 3 0)) 0 (sP x0)) i_4 x1 h_3 _) ?_ (Ru 5 (Ru 0 (RefOk.p 3 3 0 Rn (fun e => by cases e)))) (Sc rfl (Sc rfl (Sc rfl Sn))) (Sc rfl Sn)
 refine AWP.cond (t := (i_4 != 0)) rfl (fun e => ?_) (fun e => ?_)
 ·replace h := ite2_t h e
  refine AWP.seq' ?_
  refine AWP.rgn (F51_r3 E0 i_4 h_3 _) ?_ (Ru 5 Rn) (Sc rfl Sn) Sn
  refine AWP.ret ?_
  exact h
 ·replace h := ite2_f h e
  refine AWP.skip ?_
  refine AWP.seq' ?_
  refine AWP.seq' ?_
  refine AWP.rgnD (by kernel_rfl) (by kernel_rfl) (F51_r4 E0 x0 x1 h_3 _) ?_ (Ru 0 (RefOk.p 3 3 0 Rn (fun e => by cases e))) (Sc rfl (Sc rfl Sn)) (Sc rfl Sn)
  refine mN h fun b_5 o_6 h => mV h fun v_7 h => mM h fun m_8 h => mL h fun l_9 h => mR h fun u_10 h => mB h fun q_11 h => ?_
  refine AWP.cond (t := (!q_11)) rfl (fun e => ?_) (fun e => ?_)
  ·replace h := ite2_t h e
   refine AWP.seq' ?_
   refine AWP.rgn (F51_r5 E0  h_3 _) ?_ Rn Sn Sn
   refine AWP.ret ?_
   exact h
  ·replace h := ite2_f h e
   refine AWP.skip ?_
   refine AWP.seq' ?_
   refine AWP.rgnD (by kernel_rfl) (by kernel_rfl) (F51_r6 E0 x0 x1 h_3 _) ?_ (Ru 0 (RefOk.p 3 3 0 Rn (fun e => by cases e))) (Sc rfl (Sc rfl Sn)) (Sc rfl Sn)
   refine mN h fun b_12 o_13 h => mV h fun v_14 h => mM h fun m_15 h => mL h fun l_16 h => mO h fun u_17 h_18 h => ?_
   refine AWP.seq' ?_
   refine AWP.rgn (F51_r7 E0  h_18 _) ?_ Rn Sn Sn
   refine AWP.ret ?_
   exact h
end
-- 54 (*interpreter/pool.Pool).Free
section
variable (e : Env) (x0 : Option Addr) (x3 : Int) (x34 : Value) (k4 : List Value) (hp : HP) (K : Env → PV → HP → Prop)
abbrev R54 (p : List Nat) (n : Nat) := RW Try.prog 58 [4, 39, 47] (opsAt Try.f54 p) (List.range n)
theorem F54_r0 : R54 [0] 1 e V0 hp K =
    (K (upd e 2 (sI 0)) V0 hp) := by kernel_rfl
theorem F54_r1 : R54 [1, 0, 1, 0, 0] 1 e V0 hp K =
    (K (upd e 2 (sI 0)) V0 hp) := by kernel_rfl
theorem F54_r2 : R54 [1, 1, 0] 17 (upd e 0 (sP x0)) V0 hp K =
    (ptrN x0 fun b1 o2 => (ldV (HP.cell hp b1 (o2 + 0)) fun v3 => (slcV v3 fun a4 n5 c6 => (ptrN x0 fun b7 o8 => (ldV (HP.cell hp b7 (o8 + 2)) fun v9 => (intV v9 .i64 fun i10 => (ptrN x0 fun b11 o12 => (ldV (HP.cell hp b11 (o12 + 1)) fun v13 => (intV v13 .i64 fun i14 => (K (upd (upd (upd (upd (upd (upd (upd (upd (upd (upd (upd (upd (upd (upd (upd (upd (upd (upd e 0 (sP x0)) 14 (sP x0)) 15 (sQ b1 o2)) 16 (sQ b1 (o2 + 0))) 17 (sS a4 n5 c6)) 18 (sI ((n5 : Nat)))) 19 (sP x0)) 20 (sQ b7 o8)) 21 (sQ b7 (o8 + 2))) 22 (sI i10)) 23 (sP x0)) 24 (sQ b11 o12)) 25 (sQ b11 (o12 + 1))) 26 (sI i14)) 27 (sI ((wr (i10 - i14))))) 28 (sI ((wr ((wr (i10 - i14)) + 1))))) 29 (sI ((wr ((n5 : Nat) * (wr ((wr (i10 - i14)) + 1))))))) 3 (sI ((wr ((n5 : Nat) * (wr ((wr (i10 - i14)) + 1))))))) V0 hp)))))))))) := by kernel_rfl
theorem F54_r3 : R54 [1, 1, 1, 1, 0] 2 (upd e 3 (sI x3)) V0 hp K =
    (K (upd (upd (upd e 3 (sI x3)) 57 (sI x3)) 2 (sI x3)) V0 hp) := by kernel_rfl
def F54_j2 (x3 : Int) (hp : HP) (K : Value → HP → Prop) : Prop :=
  (K (.int .i64 x3) hp)
theorem F54_r4 : R54 [1, 1, 1, 0, 1, 0, 0, 0] 2 (upd e 34 (sV x34)) V0 hp K =
    (opS Try.prog (Instr.next x34 false 0) hp fun u1 h2 => (tupI u1 0 fun v3 => (boolV v3 fun q4 => (K (upd (upd (upd e 34 (sV x34)) 35 (sV u1)) 36 (sB q4)) V0 h2)))) := by kernel_rfl
theorem F54_r5 : R54 [1, 1, 1, 0, 1, 0, 0, 1, 1, 0, 0] 4 (upd e 34 (sV x34)) V0 hp K =
    (rdS Try.prog (Instr.entry x34) hp fun u1 => (tupI u1 0 fun v2 => (aggV v2 fun l3 => (if List.length l3 = 5 then (if List.all l3 one = true then (if 0 + List.length l3 ≤ List.length [(Value.int .u8 0), .int .u8 0, .int .u8 0, .int .u8 0, .int .i64 0] then (K (upd (upd (upd (upd e 34 (sV x34)) 37 (sV u1)) 38 (sA l3)) 4 (sR 4 0)) (upd (upd V0 4 (75, [.int .u8 0, .int .u8 0, .int .u8 0, .int .u8 0, .int .i64 0])) 4 (75, (splice [.int .u8 0, .int .u8 0, .int .u8 0, .int .u8 0, .int .i64 0] 0 l3))) hp) else False) else False) else False)))) := by kernel_rfl
theorem F54_r6 : R54 [1, 1, 1, 0, 1, 0, 0, 1, 1, 0, 1, 1, 0] 3 (upd e 3 (sI x3)) V0 hp K =
    (K (upd (upd (upd (upd e 3 (sI x3)) 55 (sI x3)) 56 (sI ((wr (x3 - 1))))) 3 (sI ((wr (x3 - 1))))) V0 hp) := by kernel_rfl
def F54_j5 (x0 : Option Addr) (x3 : Int) (x34 : Value) (x54 : Bool) (hp : HP) (I4 : (Int) → HP → Prop) (K : Value → HP → Prop) : Prop :=
  (ite2 x54 (I4 (IntKind.wrap .i64 (x3 - 1)) hp) (I4 x3 hp))
theorem F54_r7 : R54 [1, 1, 1, 0, 1, 0, 0, 1, 1, 0, 1, 0] 16 (upd (upd e 4 (sR 4 0)) 0 (sP x0)) (upd V0 4 (75, k4)) hp K =
    (ldV (k4)[4]? fun v1 => (intV v1 .i64 fun i2 => (ptrN x0 fun b3 o4 => (ldV (HP.cell hp b3 (o4 + 1)) fun v5 => (intV v5 .i64 fun i6 => (ite2 (decide (i2 ≥ i6)) (ldV (k4)[4]? fun v7 => (intV v7 .i64 fun i8 => (ptrN x0 fun b9 o10 => (ldV (HP.cell hp b9 (o10 + 2)) fun v11 => (intV v11 .i64 fun i12 => (K (upd (upd (upd (upd (upd (upd (upd (upd (upd (upd (upd (upd (upd (upd (upd (upd (upd (upd e 4 (sR 4 0)) 0 (sP x0)) 39 (sR 4 4)) 40 (sI i2)) 41 (sP x0)) 42 (sQ b3 o4)) 43 (sQ b3 (o4 + 1))) 44 (sI i6)) 45 (sB (decide (i2 ≥ i6)))) 46 (sB true)) 47 (sR 4 4)) 48 (sI i8)) 49 (sP x0)) 50 (sQ b9 o10)) 51 (sQ b9 (o10 + 2))) 52 (sI i12)) 53 (sB (decide (i8 ≤ i12)))) 54 (sB (decide (i8 ≤ i12)))) (upd V0 4 (75, k4)) hp)))))) (K (upd (upd (upd (upd (upd (upd (upd (upd (upd (upd (upd (upd (upd (upd (upd (upd (upd (upd e 4 (sR 4 0)) 0 (sP x0)) 39 (sR 4 4)) 40 (sI i2)) 41 (sP x0)) 42 (sQ b3 o4)) 43 (sQ b3 (o4 + 1))) 44 (sI i6)) 45 (sB (decide (i2 ≥ i6)))) 46 (sB false)) 47 sU) 48 sU) 49 sU) 50 sU) 51 sU) 52 sU) 53 sU) 54 (sB false)) (upd V0 4 (75, k4)) hp))))))) := by kernel_rfl
def F54_l4 (x0 : Option Addr) (x34 : Value) (K : Value → HP → Prop) (I4 : (Int) → HP → Prop) (x3 : Int) (hp : HP) : Prop :=
  (opS Try.prog (Instr.next x34 false 0) hp fun u_15 h_16 => (tupI u_15 0 fun v_17 => (boolV v_17 fun q_18 => (ite2 q_18 (rdS Try.prog (Instr.entry x34) h_16 fun u_19 => (tupI u_19 0 fun v_20 => (aggV v_20 fun l_21 => (if List.length l_21 = 5 then (if List.all l_21 one = true then (if 0 + List.length l_21 ≤ List.length [(Value.int .u8 0), .int .u8 0, .int .u8 0, .int .u8 0, .int .i64 0] then (ldV ((splice [.int .u8 0, .int .u8 0, .int .u8 0, .int .u8 0, .int .i64 0] 0 l_21))[4]? fun v_22 => (intV v_22 .i64 fun i_23 => (ptrN x0 fun b_24 o_25 => (ldV (HP.cell h_16 b_24 (o_25 + 1)) fun v_26 => (intV v_26 .i64 fun i_27 => (ite2 (decide (i_23 ≥ i_27)) (ldV ((splice [.int .u8 0, .int .u8 0, .int .u8 0, .int .u8 0, .int .i64 0] 0 l_21))[4]? fun v_28 => (intV v_28 .i64 fun i_29 => (ptrN x0 fun b_30 o_31 => (ldV (HP.cell h_16 b_30 (o_31 + 2)) fun v_32 => (intV v_32 .i64 fun i_33 => (F54_j5 x0 x3 x34 (decide (i_29 ≤ i_33)) h_16 I4 K)))))) (F54_j5 x0 x3 x34 false h_16 I4 K))))))) else False) else False) else False)))) (F54_j2 x3 h_16  K)))))
def F54_j3 (x0 : Option Addr) (x3 : Int) (x34 : Value) (hp : HP) (K : Value → HP → Prop) : Prop :=
  (LoopP (σ := Int) (fun I s hp => F54_l4 x0 x34  K I s hp) x3 hp)
theorem F54_r8 : R54 [1, 1, 1, 0, 0] 5 (upd e 0 (sP x0)) V0 hp K =
    (ptrN x0 fun b1 o2 => (ldV (HP.cell hp b1 (o2 + 3)) fun v3 => (mapV v3 fun m4 => (opS Try.prog (Instr.range 158 (.map m4)) hp fun u5 h6 => (K (upd (upd (upd (upd (upd (upd e 0 (sP x0)) 30 (sP x0)) 31 (sQ b1 o2)) 32 (sQ b1 (o2 + 3))) 33 (sV (.map m4))) 34 (sV u5)) V0 h6))))) := by kernel_rfl
def F54_j1 (x0 : Option Addr) (x13 : Bool) (hp : HP) (K : Value → HP → Prop) : Prop :=
  (ite2 x13 (K (.int .i64 0) hp) (ptrN x0 fun b_1 o_2 => (ldV (HP.cell hp b_1 (o_2 + 0)) fun v_3 => (slcV v_3 fun a_4 n_5 c_6 => (ptrN x0 fun b_7 o_8 => (ldV (HP.cell hp b_7 (o_8 + 2)) fun v_9 => (intV v_9 .i64 fun i_10 => (ptrN x0 fun b_11 o_12 => (ldV (HP.cell hp b_11 (o_12 + 1)) fun v_13 => (intV v_13 .i64 fun i_14 => (ptrN x0 fun b_34 o_35 => (ldV (HP.cell hp b_34 (o_35 + 3)) fun v_36 => (mapV v_36 fun m_37 => (opS Try.prog (Instr.range 158 (.map m_37)) hp fun u_38 h_39 => (F54_j3 x0 (IntKind.wrap .i64 ((n_5 : Nat) * (IntKind.wrap .i64 ((IntKind.wrap .i64 (i_10 - i_14)) + 1)))) u_38 h_39  K)))))))))))))))
theorem F54_r9 : R54 [1, 0, 0] 9 (upd e 0 (sP x0)) V0 hp K =
    (ite2 (Option.isNone x0) (K (upd (upd (upd (upd (upd (upd (upd (upd (upd (upd e 0 (sP x0)) 5 (sP x0)) 6 (sB ((Option.isNone x0)))) 7 (sB true)) 8 sU) 9 sU) 10 sU) 11 sU) 12 sU) 13 (sB true)) V0 hp) (ptrN x0 fun b1 o2 => (ldV (HP.cell hp b1 (o2 + 3)) fun v3 => (mapV v3 fun m4 => (K (upd (upd (upd (upd (upd (upd (upd (upd (upd (upd e 0 (sP x0)) 5 (sP x0)) 6 (sB ((Option.isNone x0)))) 7 (sB false)) 8 (sP x0)) 9 (sQ b1 o2)) 10 (sQ b1 (o2 + 3))) 11 (sV (.map m4))) 12 (sB ((Option.isNone m4)))) 13 (sB ((Option.isNone m4)))) V0 hp))))) := by kernel_rfl
def F54 (x0 : Option Addr) (hp : HP) (K : Value → HP → Prop) : Prop :=
  (ite2 (Option.isNone x0) (F54_j1 x0 true hp  K) (ptrN x0 fun b_40 o_41 => (ldV (HP.cell hp b_40 (o_41 + 3)) fun v_42 => (mapV v_42 fun m_43 => (F54_j1 x0 (Option.isNone m_43) hp  K)))))
noncomputable def F54_code : Code := (.seq (.region 0 (opsAt Try.f54 [0]) false) (.seq (.seq (.region 1 (opsAt Try.f54 [1, 0, 0]) false) (.cond (.tmp 13) (.seq (.region 2 (opsAt Try.f54 [1, 0, 1, 0, 0]) false) .ret) .skip)) (.seq (.region 3 (opsAt Try.f54 [1, 1, 0]) true) (.seq (.seq (.region 4 (opsAt Try.f54 [1, 1, 1, 0, 0]) false) (.block 0 (.loop (.seq (.region 5 (opsAt Try.f54 [1, 1, 1, 0, 1, 0, 0, 0]) false) (.seq (.cond (.tmp 36) .skip (.exit 0)) (.block 1 (.seq (.region 6 (opsAt Try.f54 [1, 1, 1, 0, 1, 0, 0, 1, 1, 0, 0]) false) (.seq (.region 7 (opsAt Try.f54 [1, 1, 1, 0, 1, 0, 0, 1, 1, 0, 1, 0]) true) (.cond (.tmp 54) (.region 8 (opsAt Try.f54 [1, 1, 1, 0, 1, 0, 0, 1, 1, 0, 1, 1, 0]) false) .skip))))))))) (.seq (.region 9 (opsAt Try.f54 [1, 1, 1, 1, 0]) false) .ret)))))
theorem F54_body : Try.f54.body = some F54_code := by kernel_rfl
theorem F54_ok (x0 : Option Addr) (hp : HP) (K : Value → HP → Prop) (h : F54 x0 hp K) : CF Try.prog 54 [(.pointer x0)] hp K := by
 refine .inl ⟨by kernel_rfl, AC.intro (N := 58) Try.func54 F54_body rfl (Nat.le_of_ble_eq_true rfl) ?_⟩
 unfold F54 at h
 unfold F54_code
 refine AWP.seq' ?_
 refine AWP.rgn (F54_r0 (upd E0 0 (sP x0))  hp _) ?_ (Ru 0 Rn) (Sc rfl Sn) Sn
 refine AWP.seq' ?_
 refine AWP.seq (fun env pv hp => ∃ (x0 : Option Addr) (x13 : Bool), Sub (upd (upd E0 13 (sB x13)) 0 (sP x0)) env ∧ Sub V0 pv ∧ (F54_j1 x0 x13 hp  K)) ?_ ?_
 ·refine AWP.rgn (F54_r9 E0 x0 hp _) ?_ (Ru 0 Rn) (Sc rfl Sn) Sn
  refine mt h (fun h => ?_) (fun h => ?_)
  ·exact ⟨x0, true, (Sc rfl (Sc rfl Sn)), Sn, h⟩
  ·refine mN h fun b_40 o_41 h => mV h fun v_42 h => mM h fun m_43 h => ?_
   exact ⟨x0, (Option.isNone m_43), (Sc rfl (Sc rfl Sn)), Sn, h⟩
 ·rintro env pv hp ⟨x0, x13, he, hv, h⟩
  refine AWP.sub (env' := (upd (upd E0 13 (sB x13)) 0 (sP x0))) (pv' := V0) ?_ (Ru 0 (Ru 13 Rn)) he hv (HSub.refl _)
  clear he hv
  unfold F54_j1 at h
  refine AWP.cond (t := x13) rfl (fun e => ?_) (fun e => ?_)
  ·replace h := ite2_t h e
   refine AWP.seq' ?_
   refine AWP.rgn (F54_r1 E0  hp _) ?_ Rn Sn Sn
   refine AWP.ret ?_
   exact h
  ·replace h := ite2_f h e
   refine AWP.skip ?_
   refine AWP.seq' ?_
   refine AWP.rgnD (by kernel_rfl) (by kernel_rfl) (F54_r2 E0 x0 hp _) ?_ (Ru 0 Rn) (Sc rfl Sn) Sn
   refine mN h fun b_1 o_2 h => mV h fun v_3 h => mS h fun a_4 n_5 c_6 h => mN h fun b_7 o_8 h => mV h fun v_9 h => mI h fun i_10 h => mN h fun b_11 o_12 h => mV h fun v_13 h => mI h fun i_14 h => ?_
   refine AWP.seq (fun env pv hp => ∃ (x3 : Int), Sub (upd E0 3 (sI x3)) env ∧ Sub V0 pv ∧ (F54_j2 x3 hp  K)) ?_ ?_
   ·refine AWP.seq (fun env pv hp => ∃ (x0 : Option Addr) (x3 : Int) (x34 : Value), Sub (upd (upd (upd E0 34 (sV x34)) 3 (sI x3)) 0 (sP x0)) env ∧ Sub V0 pv ∧ (F54_j3 x0 x3 x34 hp  K)) ?_ ?_
    ·refine AWP.rgn (F54_r8 (upd E0 3 (sI ((wr ((n_5 : Nat) * (wr ((wr (i_10 - i_14)) + 1))))))) x0 hp _) ?_ (Ru 0 (Ru 3 Rn)) (Sc rfl (Sc rfl Sn)) Sn
     refine mN h fun b_34 o_35 h => mV h fun v_36 h => mM h fun m_37 h => mO h fun u_38 h_39 h => ?_
     exact ⟨x0, (wr ((n_5 : Nat) * (wr ((wr (i_10 - i_14)) + 1)))), u_38, (Sc rfl (Sc rfl (Sc rfl Sn))), Sn, h⟩
    ·rintro env pv hp ⟨x0, x3, x34, he, hv, h⟩
     refine AWP.sub (env' := (upd (upd (upd E0 34 (sV x34)) 3 (sI x3)) 0 (sP x0))) (pv' := V0) ?_ (Ru 0 (Ru 3 (Ru 34 Rn))) he hv (HSub.refl _)
     clear he hv
     unfold F54_j3 at h
     refine AWP.block ?_
     refine AWP.loop (σ := Int) (fun I s hp => F54_l4 x0 x34  K I s hp) (fun s => (upd (upd (upd E0 34 (sV x34)) 3 (sI s)) 0 (sP x0))) (fun s => V0) x3 h (fun s => (Ru 0 (Ru 3 (Ru 34 Rn)))) (Sc rfl (Sc rfl (Sc rfl Sn))) Sn ?_
     intro I4 s hp h
     obtain ⟨x3, hs⟩ : ∃ x, x = s := ⟨s, rfl⟩
     subst hs
     replace h : F54_l4 x0 x34  K I4 x3 hp := h
     unfold F54_l4 at h
     refine AWP.seq' ?_
     refine AWP.rgn (F54_r4 (upd (upd E0 3 (sI x3)) 0 (sP x0)) x34 hp _) ?_ (Ru 34 (Ru 0 (Ru 3 Rn))) (Sc rfl (Sc rfl (Sc rfl Sn))) Sn
     refine mO h fun u_15 h_16 h => tupI_mono h fun v_17 h => mB h fun q_18 h => ?_
     refine AWP.seq' ?_
     refine AWP.cond (t := q_18) rfl (fun e => ?_) (fun e => ?_)
     ·replace h := ite2_t h e
      refine AWP.skip ?_
      refine AWP.block ?_
      refine AWP.seq' ?_
      refine AWP.rgn (F54_r5 (upd (upd E0 3 (sI x3)) 0 (sP x0)) x34 h_16 _) ?_ (Ru 34 (Ru 0 (Ru 3 Rn))) (Sc rfl (Sc rfl (Sc rfl Sn))) Sn
      refine mR h fun u_19 h => tupI_mono h fun v_20 h => mA h fun l_21 h => mf h fun h => mf h fun h => mf h fun h => ?_
      refine AWP.seq (fun env pv hp => ∃ (x3 : Int) (x54 : Bool), Sub (upd (upd (upd (upd E0 54 (sB x54)) 34 (sV x34)) 3 (sI x3)) 0 (sP x0)) env ∧ Sub V0 pv ∧ (F54_j5 x0 x3 x34 x54 hp I4 K)) ?_ ?_
      ·refine AWP.rgnD (by kernel_rfl) (by kernel_rfl) (F54_r7 (upd (upd E0 34 (sV x34)) 3 (sI x3)) x0 (splice [.int .u8 0, .int .u8 0, .int .u8 0, .int .u8 0, .int .i64 0] 0 l_21) h_16 _) ?_ (Ru 0 (RefOk.p 4 4 0 (Ru 3 (Ru 34 Rn)) (fun e => by cases e))) (Sc rfl (Sc rfl (Sc rfl (Sc rfl Sn)))) (Sc rfl Sn)
       refine mV h fun v_22 h => mI h fun i_23 h => mN h fun b_24 o_25 h => mV h fun v_26 h => mI h fun i_27 h => ?_
       refine mt h (fun h => ?_) (fun h => ?_)
       ·refine mV h fun v_28 h => mI h fun i_29 h => mN h fun b_30 o_31 h => mV h fun v_32 h => mI h fun i_33 h => ?_
        exact ⟨x3, (decide (i_29 ≤ i_33)), (Sc rfl (Sc rfl (Sc rfl (Sc rfl Sn)))), Sn, h⟩
       ·exact ⟨x3, false, (Sc rfl (Sc rfl (Sc rfl (Sc rfl Sn)))), Sn, h⟩
      ·rintro env pv hp ⟨x3, x54, he, hv, h⟩
       refine AWP.sub (env' := (upd (upd (upd (upd E0 54 (sB x54)) 34 (sV x34)) 3 (sI x3)) 0 (sP x0))) (pv' := V0) ?_ (Ru 0 (Ru 3 (Ru 34 (Ru 54 Rn)))) he hv (HSub.refl _)
       clear he hv
       unfold F54_j5 at h
       refine AWP.cond (t := x54) rfl (fun e => ?_) (fun e => ?_)
       ·replace h := ite2_t h e
        refine AWP.rgn (F54_r6 (upd (upd E0 34 (sV x34)) 0 (sP x0)) x3 hp _) ?_ (Ru 3 (Ru 0 (Ru 34 Rn))) (Sc rfl (Sc rfl (Sc rfl Sn))) Sn
        exact ⟨(wr (x3 - 1)), (Sc rfl (Sc rfl (Sc rfl Sn))), Sn, h⟩
       ·replace h := ite2_f h e
        refine AWP.skip ?_
        exact ⟨x3, (Sc rfl (Sc rfl (Sc rfl Sn))), Sn, h⟩
     ·replace h := ite2_f h e
      refine AWP.exit ?_
      exact ⟨x3, (Sc rfl Sn), Sn, h⟩
   ·rintro env pv hp ⟨x3, he, hv, h⟩
    refine AWP.sub (env' := (upd E0 3 (sI x3))) (pv' := V0) ?_ (Ru 3 Rn) he hv (HSub.refl _)
    clear he hv
    unfold F54_j2 at h
    refine AWP.seq' ?_
    refine AWP.rgn (F54_r3 E0 x3 hp _) ?_ (Ru 3 Rn) (Sc rfl Sn) Sn
    refine AWP.ret ?_
    exact h
end
-- 55 interpreter/interpreterref18.Right
section
variable (e : Env) (x0a : Option Addr) (x0n x0c : Nat) (x1 x2 x7 x8 : Int) (hp : HP) (K : Env → PV → HP → Prop)
abbrev R55 (p : List Nat) (n : Nat) := RW Try.prog 57 [] (opsAt Try.f55 p) (List.range n)
theorem F55_r0 : R55 [0] 1 e V0 hp K =
    (K (upd e 6 (sB false)) V0 hp) := by kernel_rfl
theorem F55_r1 : R55 [1, 1, 0] 29 (upd (upd (upd e 2 (sI x2)) 1 (sI x1)) 0 (sS x0a x0n x0c)) V0 hp K =
    (ite2 (decide (((x0n : Nat) : Int) ≥ 1)) (ite2 (decide (((x0n : Nat) : Int) ≤ 4)) (ite2 (decide (x1 ≥ 0)) (ite2 (decide (x1 ≤ x2)) (ite2 (decide (x2 ≤ 65535)) (K (upd (upd (upd (upd (upd (upd (upd (upd (upd (upd (upd (upd (upd (upd (upd (upd (upd (upd (upd (upd (upd (upd (upd (upd (upd (upd (upd (upd (upd (upd (upd (upd e 2 (sI x2)) 1 (sI x1)) 0 (sS x0a x0n x0c)) 29 (sS x0a x0n x0c)) 30 (sI ((x0n : Nat)))) 31 (sB ((decide (((x0n : Nat) : Int) ≥ 1))))) 32 (sB true)) 33 (sS x0a x0n x0c)) 34 (sI ((x0n : Nat)))) 35 (sB ((decide (((x0n : Nat) : Int) ≤ 4))))) 36 (sB ((decide (((x0n : Nat) : Int) ≤ 4))))) 37 (sB true)) 38 (sI x1)) 39 (sB (decide (x1 ≥ 0)))) 40 (sB (decide (x1 ≥ 0)))) 41 (sB true)) 42 (sI x1)) 43 (sI x2)) 44 (sB (decide (x1 ≤ x2)))) 45 (sB (decide (x1 ≤ x2)))) 46 (sB true)) 47 (sI x2)) 48 (sB (decide (x2 ≤ 65535)))) 49 (sB (decide (x2 ≤ 65535)))) 50 (sB true)) 51 (sI x2)) 52 (sI x1)) 53 (sI ((wr (x2 - x1))))) 54 (sI ((wr ((wr (x2 - x1)) + 1))))) 55 (sB ((decide (((wr ((wr (x2 - x1)) + 1)) : Int) ≤ 1024))))) 56 (sB ((decide (((wr ((wr (x2 - x1)) + 1)) : Int) ≤ 1024))))) 6 (sB ((decide (((wr ((wr (x2 - x1)) + 1)) : Int) ≤ 1024))))) V0 hp) (K (upd (upd (upd (upd (upd (upd (upd (upd (upd (upd (upd (upd (upd (upd (upd (upd (upd (upd (upd (upd (upd (upd (upd (upd (upd (upd (upd (upd (upd (upd (upd (upd e 2 (sI x2)) 1 (sI x1)) 0 (sS x0a x0n x0c)) 29 (sS x0a x0n x0c)) 30 (sI ((x0n : Nat)))) 31 (sB ((decide (((x0n : Nat) : Int) ≥ 1))))) 32 (sB true)) 33 (sS x0a x0n x0c)) 34 (sI ((x0n : Nat)))) 35 (sB ((decide (((x0n : Nat) : Int) ≤ 4))))) 36 (sB ((decide (((x0n : Nat) : Int) ≤ 4))))) 37 (sB true)) 38 (sI x1)) 39 (sB (decide (x1 ≥ 0)))) 40 (sB (decide (x1 ≥ 0)))) 41 (sB true)) 42 (sI x1)) 43 (sI x2)) 44 (sB (decide (x1 ≤ x2)))) 45 (sB (decide (x1 ≤ x2)))) 46 (sB true)) 47 (sI x2)) 48 (sB (decide (x2 ≤ 65535)))) 49 (sB (decide (x2 ≤ 65535)))) 50 (sB false)) 51 sU) 52 sU) 53 sU) 54 sU) 55 sU) 56 (sB false)) 6 (sB false)) V0 hp)) (K (upd (upd (upd (upd (upd (upd (upd (upd (upd (upd (upd (upd (upd (upd (upd (upd (upd (upd (upd (upd (upd (upd (upd (upd (upd (upd (upd (upd (upd (upd (upd (upd e 2 (sI x2)) 1 (sI x1)) 0 (sS x0a x0n x0c)) 29 (sS x0a x0n x0c)) 30 (sI ((x0n : Nat)))) 31 (sB ((decide (((x0n : Nat) : Int) ≥ 1))))) 32 (sB true)) 33 (sS x0a x0n x0c)) 34 (sI ((x0n : Nat)))) 35 (sB ((decide (((x0n : Nat) : Int) ≤ 4))))) 36 (sB ((decide (((x0n : Nat) : Int) ≤ 4))))) 37 (sB true)) 38 (sI x1)) 39 (sB (decide (x1 ≥ 0)))) 40 (sB (decide (x1 ≥ 0)))) 41 (sB true)) 42 (sI x1)) 43 (sI x2)) 44 (sB (decide (x1 ≤ x2)))) 45 (sB (decide (x1 ≤ x2)))) 46 (sB false)) 47 sU) 48 sU) 49 (sB false)) 50 (sB false)) 51 sU) 52 sU) 53 sU) 54 sU) 55 sU) 56 (sB false)) 6 (sB false)) V0 hp)) (K (upd (upd (upd (upd (upd (upd (upd (upd (upd (upd (upd (upd (upd (upd (upd (upd (upd (upd (upd (upd (upd (upd (upd (upd (upd (upd (upd (upd (upd (upd (upd (upd e 2 (sI x2)) 1 (sI x1)) 0 (sS x0a x0n x0c)) 29 (sS x0a x0n x0c)) 30 (sI ((x0n : Nat)))) 31 (sB ((decide (((x0n : Nat) : Int) ≥ 1))))) 32 (sB true)) 33 (sS x0a x0n x0c)) 34 (sI ((x0n : Nat)))) 35 (sB ((decide (((x0n : Nat) : Int) ≤ 4))))) 36 (sB ((decide (((x0n : Nat) : Int) ≤ 4))))) 37 (sB true)) 38 (sI x1)) 39 (sB (decide (x1 ≥ 0)))) 40 (sB (decide (x1 ≥ 0)))) 41 (sB false)) 42 sU) 43 sU) 44 sU) 45 (sB false)) 46 (sB false)) 47 sU) 48 sU) 49 (sB false)) 50 (sB false)) 51 sU) 52 sU) 53 sU) 54 sU) 55 sU) 56 (sB false)) 6 (sB false)) V0 hp)) (K (upd (upd (upd (upd (upd (upd (upd (upd (upd (upd (upd (upd (upd (upd (upd (upd (upd (upd (upd (upd (upd (upd (upd (upd (upd (upd (upd (upd (upd (upd (upd (upd e 2 (sI x2)) 1 (sI x1)) 0 (sS x0a x0n x0c)) 29 (sS x0a x0n x0c)) 30 (sI ((x0n : Nat)))) 31 (sB ((decide (((x0n : Nat) : Int) ≥ 1))))) 32 (sB true)) 33 (sS x0a x0n x0c)) 34 (sI ((x0n : Nat)))) 35 (sB ((decide (((x0n : Nat) : Int) ≤ 4))))) 36 (sB ((decide (((x0n : Nat) : Int) ≤ 4))))) 37 (sB false)) 38 sU) 39 sU) 40 (sB false)) 41 (sB false)) 42 sU) 43 sU) 44 sU) 45 (sB false)) 46 (sB false)) 47 sU) 48 sU) 49 (sB false)) 50 (sB false)) 51 sU) 52 sU) 53 sU) 54 sU) 55 sU) 56 (sB false)) 6 (sB false)) V0 hp)) (K (upd (upd (upd (upd (upd (upd (upd (upd (upd (upd (upd (upd (upd (upd (upd (upd (upd (upd (upd (upd (upd (upd (upd (upd (upd (upd (upd (upd (upd (upd (upd (upd e 2 (sI x2)) 1 (sI x1)) 0 (sS x0a x0n x0c)) 29 (sS x0a x0n x0c)) 30 (sI ((x0n : Nat)))) 31 (sB ((decide (((x0n : Nat) : Int) ≥ 1))))) 32 (sB false)) 33 sU) 34 sU) 35 sU) 36 (sB false)) 37 (sB false)) 38 sU) 39 sU) 40 (sB false)) 41 (sB false)) 42 sU) 43 sU) 44 sU) 45 (sB false)) 46 (sB false)) 47 sU) 48 sU) 49 (sB false)) 50 (sB false)) 51 sU) 52 sU) 53 sU) 54 sU) 55 sU) 56 (sB false)) 6 (sB false)) V0 hp)) := by kernel_rfl
def F55_j1 (x0a : Option Addr) (x0n : Nat) (x0c : Nat) (x1 : Int) (x2 : Int) (hp : HP) (K : Value → HP → Prop) : Prop :=
  (ite2 (decide (((x0n : Nat) : Int) ≥ 1)) (ite2 (decide (((x0n : Nat) : Int) ≤ 4)) (ite2 (decide (x1 ≥ 0)) (ite2 (decide (x1 ≤ x2)) (ite2 (decide (x2 ≤ 65535)) (K (.bool (decide (((IntKind.wrap .i64 ((IntKind.wrap .i64 (x2 - x1)) + 1)) : Int) ≤ 1024))) hp) (K (.bool false) hp)) (K (.bool false) hp)) (K (.bool false) hp)) (K (.bool false) hp)) (K (.bool false) hp))
theorem F55_r2 : R55 [1, 0, 1, 0, 0, 0, 0] 4 (upd (upd e 7 (sI x7)) 0 (sS x0a x0n x0c)) V0 hp K =
    (K (upd (upd (upd (upd (upd (upd e 7 (sI x7)) 0 (sS x0a x0n x0c)) 9 (sI x7)) 10 (sS x0a x0n x0c)) 11 (sI ((x0n : Nat)))) 12 (sB ((decide (x7 < x0n))))) V0 hp) := by kernel_rfl
theorem F55_r3 : R55 [1, 0, 1, 0, 0, 1, 1] 3 (upd e 7 (sI x7)) V0 hp K =
    (K (upd (upd (upd (upd e 7 (sI x7)) 13 (sI x7)) 14 (sI ((wr (x7 + 1))))) 7 (sI ((wr (x7 + 1))))) V0 hp) := by kernel_rfl
def F55_j4 (x0a : Option Addr) (x0n : Nat) (x0c : Nat) (x1 : Int) (x2 : Int) (x7 : Int) (hp : HP) (I3 : (Int) → HP → Prop) (K : Value → HP → Prop) : Prop :=
  (I3 (IntKind.wrap .i64 (x7 + 1)) hp)
theorem F55_r4 : R55 [1, 0, 1, 0, 0, 1, 0, 0, 1, 0, 0, 0, 0] 3 (upd (upd e 8 (sI x8)) 7 (sI x7)) V0 hp K =
    (K (upd (upd (upd (upd (upd e 8 (sI x8)) 7 (sI x7)) 15 (sI x8)) 16 (sI x7)) 17 (sB (decide (x8 < x7)))) V0 hp) := by kernel_rfl
theorem F55_r5 : R55 [1, 0, 1, 0, 0, 1, 0, 0, 1, 0, 0, 1, 0, 0, 0] 9 (upd (upd (upd e 8 (sI x8)) 7 (sI x7)) 0 (sS x0a x0n x0c)) V0 hp K =
    ((0 ≤ x7) ∧ (x7 < x0n) ∧ (ptrN x0a fun b1 o2 => (ldL (HP.cellN hp b1 (o2 + Int.toNat x7 * 4) 4) fun l3 => ((0 ≤ x8) ∧ (x8 < x0n) ∧ (ptrN x0a fun b4 o5 => (ldL (HP.cellN hp b4 (o5 + Int.toNat x8 * 4) 4) fun l6 => (eqAgg Try.prog 73 l3 l6 fun q7 => (K (upd (upd (upd (upd (upd (upd (upd (upd (upd (upd (upd (upd e 8 (sI x8)) 7 (sI x7)) 0 (sS x0a x0n x0c)) 20 (sS x0a x0n x0c)) 21 (sI x7)) 22 (sQ b1 (o2 + Int.toNat x7 * 4))) 23 (sA l3)) 24 (sS x0a x0n x0c)) 25 (sI x8)) 26 (sQ b4 (o5 + Int.toNat x8 * 4))) 27 (sA l6)) 28 (sB q7)) V0 hp)))))))) := by kernel_rfl
theorem F55_r6 : R55 [1, 0, 1, 0, 0, 1, 0, 0, 1, 0, 0, 1, 0, 0, 1, 0, 0] 1 e V0 hp K =
    (K (upd e 6 (sB false)) V0 hp) := by kernel_rfl
theorem F55_r7 : R55 [1, 0, 1, 0, 0, 1, 0, 0, 1, 0, 0, 1, 1] 3 (upd e 8 (sI x8)) V0 hp K =
    (K (upd (upd (upd (upd e 8 (sI x8)) 18 (sI x8)) 19 (sI ((wr (x8 + 1))))) 8 (sI ((wr (x8 + 1))))) V0 hp) := by kernel_rfl
def F55_l6 (x0a : Option Addr) (x0n : Nat) (x0c : Nat) (x1 : Int) (x2 : Int) (x7 : Int) (I3 : (Int) → HP → Prop) (K : Value → HP → Prop) (I6 : (Int) → HP → Prop) (x8 : Int) (hp : HP) : Prop :=
  (ite2 (decide (x8 < x7)) ((0 ≤ x7) ∧ (x7 < x0n) ∧ (ptrN x0a fun b_1 o_2 => (ldL (HP.cellN hp b_1 (o_2 + Int.toNat x7 * 4) 4) fun l_3 => ((0 ≤ x8) ∧ (x8 < x0n) ∧ (ptrN x0a fun b_4 o_5 => (ldL (HP.cellN hp b_4 (o_5 + Int.toNat x8 * 4) 4) fun l_6 => (eqAgg Try.prog 73 l_3 l_6 fun q_7 => (ite2 q_7 (K (.bool false) hp) (I6 (IntKind.wrap .i64 (x8 + 1)) hp))))))))) (F55_j4 x0a x0n x0c x1 x2 x7 hp I3 K))
def F55_j5 (x0a : Option Addr) (x0n : Nat) (x0c : Nat) (x1 : Int) (x2 : Int) (x7 : Int) (x8 : Int) (hp : HP) (I3 : (Int) → HP → Prop) (K : Value → HP → Prop) : Prop :=
  (LoopP (σ := Int) (fun I s hp => F55_l6 x0a x0n x0c x1 x2 x7 I3 K I s hp) x8 hp)
theorem F55_r8 : R55 [1, 0, 1, 0, 0, 1, 0, 0, 0] 1 e V0 hp K =
    (K (upd e 8 (sI 0)) V0 hp) := by kernel_rfl
def F55_l3 (x0a : Option Addr) (x0n : Nat) (x0c : Nat) (x1 : Int) (x2 : Int) (K : Value → HP → Prop) (I3 : (Int) → HP → Prop) (x7 : Int) (hp : HP) : Prop :=
  (ite2 (decide (x7 < x0n)) (F55_j5 x0a x0n x0c x1 x2 x7 0 hp I3 K) (F55_j1 x0a x0n x0c x1 x2 hp  K))
def F55_j2 (x0a : Option Addr) (x0n : Nat) (x0c : Nat) (x1 : Int) (x2 : Int) (x7 : Int) (hp : HP) (K : Value → HP → Prop) : Prop :=
  (LoopP (σ := Int) (fun I s hp => F55_l3 x0a x0n x0c x1 x2  K I s hp) x7 hp)
theorem F55_r9 : R55 [1, 0, 0] 1 e V0 hp K =
    (K (upd e 7 (sI 0)) V0 hp) := by kernel_rfl
def F55 (x0a : Option Addr) (x0n : Nat) (x0c : Nat) (x1 : Int) (x2 : Int) (hp : HP) (K : Value → HP → Prop) : Prop :=
  (F55_j2 x0a x0n x0c x1 x2 0 hp  K)
noncomputable def F55_code : Code := (.seq (.region 0 (opsAt Try.f55 [0]) false) (.seq (.seq (.region 1 (opsAt Try.f55 [1, 0, 0]) false) (.block 0 (.loop (.seq (.seq (.region 2 (opsAt Try.f55 [1, 0, 1, 0, 0, 0, 0]) false) (.cond (.tmp 12) .skip (.exit 0))) (.seq (.block 1 (.seq (.region 4 (opsAt Try.f55 [1, 0, 1, 0, 0, 1, 0, 0, 0]) false) (.block 2 (.loop (.seq (.seq (.region 5 (opsAt Try.f55 [1, 0, 1, 0, 0, 1, 0, 0, 1, 0, 0, 0, 0]) false) (.cond (.tmp 17) .skip (.exit 2))) (.seq (.block 3 (.seq (.region 7 (opsAt Try.f55 [1, 0, 1, 0, 0, 1, 0, 0, 1, 0, 0, 1, 0, 0, 0]) true) (.cond (.tmp 28) (.seq (.region 8 (opsAt Try.f55 [1, 0, 1, 0, 0, 1, 0, 0, 1, 0, 0, 1, 0, 0, 1, 0, 0]) false) .ret) .skip))) (.region 6 (opsAt Try.f55 [1, 0, 1, 0, 0, 1, 0, 0, 1, 0, 0, 1, 1]) false))))))) (.region 3 (opsAt Try.f55 [1, 0, 1, 0, 0, 1, 1]) false)))))) (.seq (.region 9 (opsAt Try.f55 [1, 1, 0]) false) .ret)))
theorem F55_body : Try.f55.body = some F55_code := by kernel_rfl
theorem F55_ok (x0a : Option Addr) (x0n : Nat) (x0c : Nat) (x1 : Int) (x2 : Int) (hp : HP) (K : Value → HP → Prop) (h : F55 x0a x0n x0c x1 x2 hp K) : CF Try.prog 55 [(.slice x0a x0n x0c), (.int .i64 x1), (.int .i64 x2)] hp K := by
 refine .inl ⟨by kernel_rfl, AC.intro (N := 57) Try.func55 F55_body rfl (Nat.le_of_ble_eq_true rfl) ?_⟩
 unfold F55 at h
 unfold F55_code
 refine AWP.seq' ?_
 refine AWP.rgn (F55_r0 (upd (upd (upd E0 2 (sI x2)) 1 (sI x1)) 0 (sS x0a x0n x0c))  hp _) ?_ (Ru 0 (Ru 1 (Ru 2 Rn))) (Sc rfl (Sc rfl (Sc rfl Sn))) Sn
 refine AWP.seq (fun env pv hp => ∃ (x0a : Option Addr) (x0n : Nat) (x0c : Nat) (x1 : Int) (x2 : Int), Sub (upd (upd (upd E0 2 (sI x2)) 1 (sI x1)) 0 (sS x0a x0n x0c)) env ∧ Sub V0 pv ∧ (F55_j1 x0a x0n x0c x1 x2 hp  K)) ?_ ?_
 ·refine AWP.seq (fun env pv hp => ∃ (x0a : Option Addr) (x0n : Nat) (x0c : Nat) (x1 : Int) (x2 : Int) (x7 : Int), Sub (upd (upd (upd (upd E0 7 (sI x7)) 2 (sI x2)) 1 (sI x1)) 0 (sS x0a x0n x0c)) env ∧ Sub V0 pv ∧ (F55_j2 x0a x0n x0c x1 x2 x7 hp  K)) ?_ ?_
  ·refine AWP.rgn (F55_r9 (upd (upd (upd E0 2 (sI x2)) 1 (sI x1)) 0 (sS x0a x0n x0c))  hp _) ?_ (Ru 0 (Ru 1 (Ru 2 Rn))) (Sc rfl (Sc rfl (Sc rfl Sn))) Sn
   exact ⟨x0a, x0n, x0c, x1, x2, 0, (Sc rfl (Sc rfl (Sc rfl (Sc rfl Sn)))), Sn, h⟩
  ·rintro env pv hp ⟨x0a, x0n, x0c, x1, x2, x7, he, hv, h⟩
   refine AWP.sub (env' := (upd (upd (upd (upd E0 7 (sI x7)) 2 (sI x2)) 1 (sI x1)) 0 (sS x0a x0n x0c))) (pv' := V0) ?_ (Ru 0 (Ru 1 (Ru 2 (Ru 7 Rn)))) he hv (HSub.refl _)
   clear he hv
   unfold F55_j2 at h
   refine AWP.block ?_
   refine AWP.loop (σ := Int) (fun I s hp => F55_l3 x0a x0n x0c x1 x2  K I s hp) (fun s => (upd (upd (upd (upd E0 7 (sI s)) 2 (sI x2)) 1 (sI x1)) 0 (sS x0a x0n x0c))) (fun s => V0) x7 h (fun s => (Ru 0 (Ru 1 (Ru 2 (Ru 7 Rn))))) (Sc rfl (Sc rfl (Sc rfl (Sc rfl Sn)))) Sn ?_
   intro I3 s hp h
   obtain ⟨x7, hs⟩ : ∃ x, x = s := ⟨s, rfl⟩
   subst hs
   replace h : F55_l3 x0a x0n x0c x1 x2  K I3 x7 hp := h
   unfold F55_l3 at h
   refine AWP.seq' ?_
   refine AWP.seq' ?_
   refine AWP.rgn (F55_r2 (upd (upd E0 2 (sI x2)) 1 (sI x1)) x0a x0n x0c x7 hp _) ?_ (Ru 0 (Ru 7 (Ru 1 (Ru 2 Rn)))) (Sc rfl (Sc rfl (Sc rfl (Sc rfl Sn)))) Sn
   refine AWP.cond (t := (decide (x7 < x0n))) rfl (fun e => ?_) (fun e => ?_)
   ·replace h := ite2_t h e
    refine AWP.skip ?_
    refine AWP.seq (fun env pv hp => ∃ (x7 : Int), Sub (upd (upd (upd (upd E0 7 (sI x7)) 2 (sI x2)) 1 (sI x1)) 0 (sS x0a x0n x0c)) env ∧ Sub V0 pv ∧ (F55_j4 x0a x0n x0c x1 x2 x7 hp I3 K)) ?_ ?_
    ·refine AWP.block ?_
     refine AWP.seq (fun env pv hp => ∃ (x7 : Int) (x8 : Int), Sub (upd (upd (upd (upd (upd E0 8 (sI x8)) 7 (sI x7)) 2 (sI x2)) 1 (sI x1)) 0 (sS x0a x0n x0c)) env ∧ Sub V0 pv ∧ (F55_j5 x0a x0n x0c x1 x2 x7 x8 hp I3 K)) ?_ ?_
     ·refine AWP.rgn (F55_r8 (upd (upd (upd (upd E0 7 (sI x7)) 2 (sI x2)) 1 (sI x1)) 0 (sS x0a x0n x0c))  hp _) ?_ (Ru 0 (Ru 1 (Ru 2 (Ru 7 Rn)))) (Sc rfl (Sc rfl (Sc rfl (Sc rfl Sn)))) Sn
      exact ⟨x7, 0, (Sc rfl (Sc rfl (Sc rfl (Sc rfl (Sc rfl Sn))))), Sn, h⟩
     ·rintro env pv hp ⟨x7, x8, he, hv, h⟩
      refine AWP.sub (env' := (upd (upd (upd (upd (upd E0 8 (sI x8)) 7 (sI x7)) 2 (sI x2)) 1 (sI x1)) 0 (sS x0a x0n x0c))) (pv' := V0) ?_ (Ru 0 (Ru 1 (Ru 2 (Ru 7 (Ru 8 Rn))))) he hv (HSub.refl _)
      clear he hv
      unfold F55_j5 at h
      refine AWP.block ?_
      refine AWP.loop (σ := Int) (fun I s hp => F55_l6 x0a x0n x0c x1 x2 x7 I3 K I s hp) (fun s => (upd (upd (upd (upd (upd E0 8 (sI s)) 7 (sI x7)) 2 (sI x2)) 1 (sI x1)) 0 (sS x0a x0n x0c))) (fun s => V0) x8 h (fun s => (Ru 0 (Ru 1 (Ru 2 (Ru 7 (Ru 8 Rn)))))) (Sc rfl (Sc rfl (Sc rfl (Sc rfl (Sc rfl Sn))))) Sn ?_
      intro I6 s hp h
      obtain ⟨x8, hs⟩ : ∃ x, x = s := ⟨s, rfl⟩
      subst hs
      replace h : F55_l6 x0a x0n x0c x1 x2 x7 I3 K I6 x8 hp := h
      unfold F55_l6 at h
      refine AWP.seq' ?_
      refine AWP.seq' ?_
      refine AWP.rgn (F55_r4 (upd (upd (upd E0 2 (sI x2)) 1 (sI x1)) 0 (sS x0a x0n x0c)) x7 x8 hp _) ?_ (Ru 7 (Ru 8 (Ru 0 (Ru 1 (Ru 2 Rn))))) (Sc rfl (Sc rfl (Sc rfl (Sc rfl (Sc rfl Sn))))) Sn
      refine AWP.cond (t := (decide (x8 < x7))) rfl (fun e => ?_) (fun e => ?_)
      ·replace h := ite2_t h e
       refine AWP.skip ?_
       refine AWP.seq' ?_
       refine AWP.block ?_
       refine AWP.seq' ?_
       refine AWP.rgnD (by kernel_rfl) (by kernel_rfl) (F55_r5 (upd (upd E0 2 (sI x2)) 1 (sI x1)) x0a x0n x0c x7 x8 hp _) ?_ (Ru 0 (Ru 7 (Ru 8 (Ru 1 (Ru 2 Rn))))) (Sc rfl (Sc rfl (Sc rfl (Sc rfl (Sc rfl Sn))))) Sn
       refine ⟨h.1, h.2.1, mN h.2.2 (fun b_1 o_2 h => mL h (fun l_3 h => ⟨h.1, h.2.1, mN h.2.2 fun b_4 o_5 h => mL h fun l_6 h => mE h fun q_7 h => ?_⟩))⟩
       refine AWP.cond (t := q_7) rfl (fun e => ?_) (fun e => ?_)
       ·replace h := ite2_t h e
        refine AWP.seq' ?_
        refine AWP.rgn (F55_r6 E0  hp _) ?_ Rn Sn Sn
        refine AWP.ret ?_
        exact h
       ·replace h := ite2_f h e
        refine AWP.skip ?_
        refine AWP.rgn (F55_r7 (upd (upd (upd (upd E0 7 (sI x7)) 2 (sI x2)) 1 (sI x1)) 0 (sS x0a x0n x0c)) x8 hp _) ?_ (Ru 8 (Ru 0 (Ru 1 (Ru 2 (Ru 7 Rn))))) (Sc rfl (Sc rfl (Sc rfl (Sc rfl (Sc rfl Sn))))) Sn
        exact ⟨(wr (x8 + 1)), (Sc rfl (Sc rfl (Sc rfl (Sc rfl (Sc rfl Sn))))), Sn, h⟩
      ·replace h := ite2_f h e
       refine AWP.exit ?_
       exact ⟨x7, (Sc rfl (Sc rfl (Sc rfl (Sc rfl Sn)))), Sn, h⟩
    ·rintro env pv hp ⟨x7, he, hv, h⟩
     refine AWP.sub (env' := (upd (upd (upd (upd E0 7 (sI x7)) 2 (sI x2)) 1 (sI x1)) 0 (sS x0a x0n x0c))) (pv' := V0) ?_ (Ru 0 (Ru 1 (Ru 2 (Ru 7 Rn)))) he hv (HSub.refl _)
     clear he hv
     unfold F55_j4 at h
     refine AWP.rgn (F55_r3 (upd (upd (upd E0 2 (sI x2)) 1 (sI x1)) 0 (sS x0a x0n x0c)) x7 hp _) ?_ (Ru 7 (Ru 0 (Ru 1 (Ru 2 Rn)))) (Sc rfl (Sc rfl (Sc rfl (Sc rfl Sn)))) Sn
     exact ⟨(wr (x7 + 1)), (Sc rfl (Sc rfl (Sc rfl (Sc rfl Sn)))), Sn, h⟩
   ·replace h := ite2_f h e
    refine AWP.exit ?_
    exact ⟨x0a, x0n, x0c, x1, x2, (Sc rfl (Sc rfl (Sc rfl Sn))), Sn, h⟩
 ·rintro env pv hp ⟨x0a, x0n, x0c, x1, x2, he, hv, h⟩
  refine AWP.sub (env' := (upd (upd (upd E0 2 (sI x2)) 1 (sI x1)) 0 (sS x0a x0n x0c))) (pv' := V0) ?_ (Ru 0 (Ru 1 (Ru 2 Rn))) he hv (HSub.refl _)
  clear he hv
  unfold F55_j1 at h
  refine AWP.seq' ?_
  refine AWP.rgn (F55_r1 E0 x0a x0n x0c x1 x2 hp _) ?_ (Ru 0 (Ru 1 (Ru 2 Rn))) (Sc rfl (Sc rfl (Sc rfl Sn))) Sn
  refine mt h (fun h => ?_) (fun h => ?_)
  ·refine mt h (fun h => ?_) (fun h => ?_)
   ·refine mt h (fun h => ?_) (fun h => ?_)
    ·refine mt h (fun h => ?_) (fun h => ?_)
     ·refine mt h (fun h => ?_) (fun h => ?_)
      ·refine AWP.ret ?_
       exact h
      ·refine AWP.ret ?_
       exact h
     ·refine AWP.ret ?_
      exact h
    ·refine AWP.ret ?_
     exact h
   ·refine AWP.ret ?_
    exact h
  ·refine AWP.ret ?_
   exact h
end
-- 59 interpreter/interpreterref18.Class
section
variable (e : Env) (x0 x1 : Int) (hp : HP) (K : Env → PV → HP → Prop)
abbrev R59 (p : List Nat) (n : Nat) := RW Try.prog 32 [] (opsAt Try.f59 p) (List.range n)
theorem F59_r0 : R59 [0] 1 e V0 hp K =
    (K (upd e 4 (sB false)) V0 hp) := by kernel_rfl
theorem F59_r1 : R59 [1, 0, 1, 0, 0] 1 e V0 hp K =
    (K (upd e 4 (sB false)) V0 hp) := by kernel_rfl
theorem F59_r2 : R59 [1, 1, 0, 0] 2 (upd e 0 (sI x0)) V0 hp K =
    (K (upd (upd (upd e 0 (sI x0)) 26 (sI x0)) 27 (sB (decide (x0 < 1024)))) V0 hp) := by kernel_rfl
theorem F59_r3 : R59 [1, 1, 0, 1, 0, 0] 3 (upd e 1 (sI x1)) V0 hp K =
    (K (upd (upd (upd (upd e 1 (sI x1)) 28 (sI x1)) 29 (sB (decide (x1 < 1024)))) 4 (sB (decide (x1 < 1024)))) V0 hp) := by kernel_rfl
theorem F59_r4 : R59 [1, 1, 1, 0] 3 (upd e 1 (sI x1)) V0 hp K =
    (K (upd (upd (upd (upd e 1 (sI x1)) 30 (sI x1)) 31 (sB (decide (x1 ≥ 1024)))) 4 (sB (decide (x1 ≥ 1024)))) V0 hp) := by kernel_rfl
def F59_j1 (x0 : Int) (x1 : Int) (x25 : Bool) (hp : HP) (K : Value → HP → Prop) : Prop :=
  (ite2 x25 (K (.bool false) hp) (ite2 (decide (x0 < 1024)) (K (.bool (decide (x1 < 1024))) hp) (K (.bool (decide (x1 ≥ 1024))) hp)))
theorem F59_r5 : R59 [1, 0, 0] 21 (upd (upd e 1 (sI x1)) 0 (sI x0)) V0 hp K =
    (ite2 (decide (x0 < 0)) (K (upd (upd (upd (upd (upd (upd (upd (upd (upd (upd (upd (upd (upd (upd (upd (upd (upd (upd (upd (upd (upd (upd (upd e 1 (sI x1)) 0 (sI x0)) 5 (sI x0)) 6 (sB (decide (x0 < 0)))) 7 (sB true)) 8 sU) 9 sU) 10 (sB true)) 11 (sB true)) 12 sU) 13 sU) 14 (sB true)) 15 (sB true)) 16 sU) 17 sU) 18 (sB true)) 19 (sB true)) 20 sU) 21 sU) 22 sU) 23 sU) 24 sU) 25 (sB true)) V0 hp) (ite2 (decide (x0 > 65535)) (K (upd (upd (upd (upd (upd (upd (upd (upd (upd (upd (upd (upd (upd (upd (upd (upd (upd (upd (upd (upd (upd (upd (upd e 1 (sI x1)) 0 (sI x0)) 5 (sI x0)) 6 (sB (decide (x0 < 0)))) 7 (sB false)) 8 (sI x0)) 9 (sB (decide (x0 > 65535)))) 10 (sB (decide (x0 > 65535)))) 11 (sB true)) 12 sU) 13 sU) 14 (sB true)) 15 (sB true)) 16 sU) 17 sU) 18 (sB true)) 19 (sB true)) 20 sU) 21 sU) 22 sU) 23 sU) 24 sU) 25 (sB true)) V0 hp) (ite2 (decide (x1 < 0)) (K (upd (upd (upd (upd (upd (upd (upd (upd (upd (upd (upd (upd (upd (upd (upd (upd (upd (upd (upd (upd (upd (upd (upd e 1 (sI x1)) 0 (sI x0)) 5 (sI x0)) 6 (sB (decide (x0 < 0)))) 7 (sB false)) 8 (sI x0)) 9 (sB (decide (x0 > 65535)))) 10 (sB (decide (x0 > 65535)))) 11 (sB false)) 12 (sI x1)) 13 (sB (decide (x1 < 0)))) 14 (sB (decide (x1 < 0)))) 15 (sB true)) 16 sU) 17 sU) 18 (sB true)) 19 (sB true)) 20 sU) 21 sU) 22 sU) 23 sU) 24 sU) 25 (sB true)) V0 hp) (ite2 (decide (x1 > 65535)) (K (upd (upd (upd (upd (upd (upd (upd (upd (upd (upd (upd (upd (upd (upd (upd (upd (upd (upd (upd (upd (upd (upd (upd e 1 (sI x1)) 0 (sI x0)) 5 (sI x0)) 6 (sB (decide (x0 < 0)))) 7 (sB false)) 8 (sI x0)) 9 (sB (decide (x0 > 65535)))) 10 (sB (decide (x0 > 65535)))) 11 (sB false)) 12 (sI x1)) 13 (sB (decide (x1 < 0)))) 14 (sB (decide (x1 < 0)))) 15 (sB false)) 16 (sI x1)) 17 (sB (decide (x1 > 65535)))) 18 (sB (decide (x1 > 65535)))) 19 (sB true)) 20 sU) 21 sU) 22 sU) 23 sU) 24 sU) 25 (sB true)) V0 hp) (((2 : Int) ≠ 0) ∧ (((2 : Int) ≠ 0) ∧ (K (upd (upd (upd (upd (upd (upd (upd (upd (upd (upd (upd (upd (upd (upd (upd (upd (upd (upd (upd (upd (upd (upd (upd e 1 (sI x1)) 0 (sI x0)) 5 (sI x0)) 6 (sB (decide (x0 < 0)))) 7 (sB false)) 8 (sI x0)) 9 (sB (decide (x0 > 65535)))) 10 (sB (decide (x0 > 65535)))) 11 (sB false)) 12 (sI x1)) 13 (sB (decide (x1 < 0)))) 14 (sB (decide (x1 < 0)))) 15 (sB false)) 16 (sI x1)) 17 (sB (decide (x1 > 65535)))) 18 (sB (decide (x1 > 65535)))) 19 (sB false)) 20 (sI x0)) 21 (sI ((Int.tmod x0 2)))) 22 (sI x1)) 23 (sI ((Int.tmod x1 2)))) 24 (sB ((((Int.tmod x0 2) : Int) != (Int.tmod x1 2))))) 25 (sB ((((Int.tmod x0 2) : Int) != (Int.tmod x1 2))))) V0 hp))))))) := by kernel_rfl
def F59 (x0 : Int) (x1 : Int) (hp : HP) (K : Value → HP → Prop) : Prop :=
  (ite2 (decide (x0 < 0)) (F59_j1 x0 x1 true hp  K) (ite2 (decide (x0 > 65535)) (F59_j1 x0 x1 true hp  K) (ite2 (decide (x1 < 0)) (F59_j1 x0 x1 true hp  K) (ite2 (decide (x1 > 65535)) (F59_j1 x0 x1 true hp  K) (((2 : Int) ≠ 0) ∧ (((2 : Int) ≠ 0) ∧ (F59_j1 x0 x1 (((Int.tmod x0 2) : Int) != (Int.tmod x1 2)) hp  K)))))))
noncomputable def F59_code : Code := (.seq (.region 0 (opsAt Try.f59 [0]) false) (.seq (.seq (.region 1 (opsAt Try.f59 [1, 0, 0]) false) (.cond (.tmp 25) (.seq (.region 2 (opsAt Try.f59 [1, 0, 1, 0, 0]) false) .ret) .skip)) (.seq (.seq (.region 3 (opsAt Try.f59 [1, 1, 0, 0]) false) (.cond (.tmp 27) (.seq (.region 4 (opsAt Try.f59 [1, 1, 0, 1, 0, 0]) false) .ret) .skip)) (.seq (.region 5 (opsAt Try.f59 [1, 1, 1, 0]) false) .ret))))
theorem F59_body : Try.f59.body = some F59_code := by kernel_rfl
theorem F59_ok (x0 : Int) (x1 : Int) (hp : HP) (K : Value → HP → Prop) (h : F59 x0 x1 hp K) : CF Try.prog 59 [(.int .i64 x0), (.int .i64 x1)] hp K := by
 refine .inl ⟨by kernel_rfl, AC.intro (N := 32) Try.func59 F59_body rfl (Nat.le_of_ble_eq_true rfl) ?_⟩
 unfold F59 at h
 unfold F59_code
 refine AWP.seq' ?_
 refine AWP.rgn (F59_r0 (upd (upd E0 1 (sI x1)) 0 (sI x0))  hp _) ?_ (Ru 0 (Ru 1 Rn)) (Sc rfl (Sc rfl Sn)) Sn
 refine AWP.seq' ?_
 refine AWP.seq (fun env pv hp => ∃ (x0 : Int) (x1 : Int) (x25 : Bool), Sub (upd (upd (upd E0 25 (sB x25)) 1 (sI x1)) 0 (sI x0)) env ∧ Sub V0 pv ∧ (F59_j1 x0 x1 x25 hp  K)) ?_ ?_
 ·refine AWP.rgn (F59_r5 E0 x0 x1 hp _) ?_ (Ru 0 (Ru 1 Rn)) (Sc rfl (Sc rfl Sn)) Sn
  refine mt h (fun h => ?_) (fun h => ?_)
  ·exact ⟨x0, x1, true, (Sc rfl (Sc rfl (Sc rfl Sn))), Sn, h⟩
  ·refine mt h (fun h => ?_) (fun h => ?_)
   ·exact ⟨x0, x1, true, (Sc rfl (Sc rfl (Sc rfl Sn))), Sn, h⟩
   ·refine mt h (fun h => ?_) (fun h => ?_)
    ·exact ⟨x0, x1, true, (Sc rfl (Sc rfl (Sc rfl Sn))), Sn, h⟩
    ·refine mt h (fun h => ?_) (fun h => ?_)
     ·exact ⟨x0, x1, true, (Sc rfl (Sc rfl (Sc rfl Sn))), Sn, h⟩
     ·refine ⟨h.1, ?_⟩
      replace h := h.2
      refine ⟨h.1, ?_⟩
      replace h := h.2
      exact ⟨x0, x1, (((Int.tmod x0 2) : Int) != (Int.tmod x1 2)), (Sc rfl (Sc rfl (Sc rfl Sn))), Sn, h⟩
 ·rintro env pv hp ⟨x0, x1, x25, he, hv, h⟩
  refine AWP.sub (env' := (upd (upd (upd E0 25 (sB x25)) 1 (sI x1)) 0 (sI x0))) (pv' := V0) ?_ (Ru 0 (Ru 1 (Ru 25 Rn))) he hv (HSub.refl _)
  clear he hv
  unfold F59_j1 at h
  refine AWP.cond (t := x25) rfl (fun e => ?_) (fun e => ?_)
  ·replace h := ite2_t h e
   refine AWP.seq' ?_
   refine AWP.rgn (F59_r1 E0  hp _) ?_ Rn Sn Sn
   refine AWP.ret ?_
   exact h
  ·replace h := ite2_f h e
   refine AWP.skip ?_
   refine AWP.seq' ?_
   refine AWP.seq' ?_
   refine AWP.rgn (F59_r2 (upd E0 1 (sI x1)) x0 hp _) ?_ (Ru 0 (Ru 1 Rn)) (Sc rfl (Sc rfl Sn)) Sn
   refine AWP.cond (t := (decide (x0 < 1024))) rfl (fun e => ?_) (fun e => ?_)
   ·replace h := ite2_t h e
    refine AWP.seq' ?_
    refine AWP.rgn (F59_r3 E0 x1 hp _) ?_ (Ru 1 Rn) (Sc rfl Sn) Sn
    refine AWP.ret ?_
    exact h
   ·replace h := ite2_f h e
    refine AWP.skip ?_
    refine AWP.seq' ?_
    refine AWP.rgn (F59_r4 E0 x1 hp _) ?_ (Ru 1 Rn) (Sc rfl Sn) Sn
    refine AWP.ret ?_
    exact h
end
-- 100 (*interpreter/pool.Pool).may
section
variable (e : Env) (x0 : Option Addr) (x1 k3 : List Value) (hp : HP) (K : Env → PV → HP → Prop)
abbrev R100 (p : List Nat) (n : Nat) := RW Try.prog 30 [3, 16, 25] (opsAt Try.f100 p) (List.range n)
theorem F100_r0 : R100 [0] 2 (upd e 1 (sA x1)) V0 hp K =
    (K (upd (upd (upd e 1 (sA x1)) 3 (sR 3 0)) 4 (sI 0)) (upd V0 3 (75, x1)) hp) := by kernel_rfl
theorem F100_r1 : R100 [1, 0, 0, 1, 0, 0] 1 e V0 hp K =
    (K (upd e 4 (sI 2)) V0 hp) := by kernel_rfl
theorem F100_r2 : R100 [1, 0, 0, 1, 1, 1, 0, 0] 1 e V0 hp K =
    (K (upd e 4 (sI 1)) V0 hp) := by kernel_rfl
theorem F100_r3 : R100 [1, 1, 0] 1 e V0 hp K =
    (K (upd e 4 (sI 0)) V0 hp) := by kernel_rfl
def F100_j2 (x15 : Bool) (hp : HP) (K : Value → HP → Prop) : Prop :=
  (ite2 x15 (K (.int .i64 1) hp) (K (.int .i64 0) hp))
theorem F100_r4 : R100 [1, 0, 0, 1, 1, 0] 15 (upd (upd e 3 (sR 3 0)) 0 (sP x0)) (upd V0 3 (75, k3)) hp K =
    (ldV (k3)[4]? fun v1 => (intV v1 .i64 fun i2 => (CF Try.prog 74 [(.int .i64 i2)] hp fun u3 h4 => (boolV u3 fun q5 => (ite2 (!q5) (K (upd (upd (upd (upd (upd (upd (upd (upd (upd (upd (upd (upd (upd (upd (upd (upd (upd e 3 (sR 3 0)) 0 (sP x0)) 16 (sR 3 4)) 17 (sI i2)) 18 (sB q5)) 19 (sB ((!q5)))) 20 (sB true)) 21 sU) 22 sU) 23 sU) 24 sU) 25 sU) 26 sU) 27 sU) 28 sU) 29 (sB true)) 15 (sB true)) (upd V0 3 (75, k3)) h4) (ptrN x0 fun b6 o7 => (ldV (HP.cell h4 b6 (o7 + 0)) fun v8 => (slcV v8 fun a9 n10 c11 => (ldL (cellsN k3 0 4) fun l12 => (CF Try.prog 92 [(.slice a9 n10 c11), (.agg ⟨l12⟩)] h4 fun u13 h14 => (boolV u13 fun q15 => (K (upd (upd (upd (upd (upd (upd (upd (upd (upd (upd (upd (upd (upd (upd (upd (upd (upd e 3 (sR 3 0)) 0 (sP x0)) 16 (sR 3 4)) 17 (sI i2)) 18 (sB q5)) 19 (sB ((!q5)))) 20 (sB false)) 21 (sP x0)) 22 (sQ b6 o7)) 23 (sQ b6 (o7 + 0))) 24 (sS a9 n10 c11)) 25 (sR 3 0)) 26 (sA l12)) 27 (sB q15)) 28 (sB ((!q15)))) 29 (sB ((!q15)))) 15 (sB ((!q15)))) (upd V0 3 (75, k3)) h14)))))))))))) := by kernel_rfl
def F100_j1 (x0 : Option Addr) (x5 : Bool) (k3 : List Value) (hp : HP) (K : Value → HP → Prop) : Prop :=
  (ite2 x5 (K (.int .i64 2) hp) (ldV (k3)[4]? fun v_1 => (intV v_1 .i64 fun i_2 => (CF Try.prog 74 [(.int .i64 i_2)] hp fun u_3 h_4 => (boolV u_3 fun q_5 => (ite2 (!q_5) (F100_j2 true h_4  K) (ptrN x0 fun b_6 o_7 => (ldV (HP.cell h_4 b_6 (o_7 + 0)) fun v_8 => (slcV v_8 fun a_9 n_10 c_11 => (ldL (cellsN k3 0 4) fun l_12 => (CF Try.prog 92 [(.slice a_9 n_10 c_11), (.agg ⟨l_12⟩)] h_4 fun u_13 h_14 => (boolV u_13 fun q_15 => (F100_j2 (!q_15) h_14  K)))))))))))))
theorem F100_r5 : R100 [1, 0, 0, 0] 10 (upd e 0 (sP x0)) (upd V0 3 (75, k3)) hp K =
    (ite2 (Option.isNone x0) (K (upd (upd (upd (upd (upd (upd (upd (upd (upd (upd (upd e 0 (sP x0)) 6 (sP x0)) 7 (sB ((Option.isNone x0)))) 8 (sB true)) 9 sU) 10 sU) 11 sU) 12 sU) 13 sU) 14 (sB true)) 5 (sB true)) (upd V0 3 (75, k3)) hp) (ptrN x0 fun b1 o2 => (ldV (HP.cell hp b1 (o2 + 3)) fun v3 => (mapV v3 fun m4 => (K (upd (upd (upd (upd (upd (upd (upd (upd (upd (upd (upd e 0 (sP x0)) 6 (sP x0)) 7 (sB ((Option.isNone x0)))) 8 (sB false)) 9 (sP x0)) 10 (sQ b1 o2)) 11 (sQ b1 (o2 + 3))) 12 (sV (.map m4))) 13 (sB ((Option.isNone m4)))) 14 (sB ((Option.isNone m4)))) 5 (sB ((Option.isNone m4)))) (upd V0 3 (75, k3)) hp))))) := by kernel_rfl
def F100 (x0 : Option Addr) (x1 : List Value) (hp : HP) (K : Value → HP → Prop) : Prop :=
  (ite2 (Option.isNone x0) (F100_j1 x0 true x1 hp  K) (ptrN x0 fun b_16 o_17 => (ldV (HP.cell hp b_16 (o_17 + 3)) fun v_18 => (mapV v_18 fun m_19 => (F100_j1 x0 (Option.isNone m_19) x1 hp  K)))))
noncomputable def F100_code : Code := (.seq (.region 0 (opsAt Try.f100 [0]) false) (.seq (.block 0 (.seq (.region 1 (opsAt Try.f100 [1, 0, 0, 0]) false) (.cond (.tmp 5) (.seq (.region 2 (opsAt Try.f100 [1, 0, 0, 1, 0, 0]) false) .ret) (.seq (.region 3 (opsAt Try.f100 [1, 0, 0, 1, 1, 0]) true) (.cond (.tmp 15) (.seq (.region 4 (opsAt Try.f100 [1, 0, 0, 1, 1, 1, 0, 0]) false) .ret) .skip))))) (.seq (.region 5 (opsAt Try.f100 [1, 1, 0]) false) .ret)))
theorem F100_body : Try.f100.body = some F100_code := by kernel_rfl
theorem F100_ok (x0 : Option Addr) (x1 : List Value) (hp : HP) (K : Value → HP → Prop) (h : F100 x0 x1 hp K) : CF Try.prog 100 [(.pointer x0), (.agg ⟨x1⟩)] hp K := by
 refine .inl ⟨by kernel_rfl, AC.intro (N := 30) Try.func100 F100_body rfl (Nat.le_of_ble_eq_true rfl) ?_⟩
 unfold F100 at h
 unfold F100_code
 refine AWP.seq' ?_
 refine AWP.rgn (F100_r0 (upd E0 0 (sP x0)) x1 hp _) ?_ (Ru 1 (Ru 0 Rn)) (Sc rfl (Sc rfl Sn)) Sn
 refine AWP.seq' ?_
 refine AWP.block ?_
 refine AWP.seq (fun env pv hp => ∃ (x0 : Option Addr) (x5 : Bool) (k3 : List Value), Sub (upd (upd (upd E0 5 (sB x5)) 3 (sR 3 0)) 0 (sP x0)) env ∧ Sub (upd V0 3 (75, k3)) pv ∧ (F100_j1 x0 x5 k3 hp  K)) ?_ ?_
 ·refine AWP.rgn (F100_r5 (upd E0 3 (sR 3 0)) x0 x1 hp _) ?_ (Ru 0 (RefOk.p 3 3 0 Rn (fun e => by cases e))) (Sc rfl (Sc rfl Sn)) (Sc rfl Sn)
  refine mt h (fun h => ?_) (fun h => ?_)
  ·exact ⟨x0, true, x1, (Sc rfl (Sc rfl (Sc rfl Sn))), (Sc rfl Sn), h⟩
  ·refine mN h fun b_16 o_17 h => mV h fun v_18 h => mM h fun m_19 h => ?_
   exact ⟨x0, (Option.isNone m_19), x1, (Sc rfl (Sc rfl (Sc rfl Sn))), (Sc rfl Sn), h⟩
 ·rintro env pv hp ⟨x0, x5, k3, he, hv, h⟩
  refine AWP.sub (env' := (upd (upd (upd E0 5 (sB x5)) 3 (sR 3 0)) 0 (sP x0))) (pv' := (upd V0 3 (75, k3))) ?_ (Ru 0 (RefOk.p 3 3 0 (Ru 5 Rn) (fun e => by cases e))) he hv (HSub.refl _)
  clear he hv
  unfold F100_j1 at h
  refine AWP.cond (t := x5) rfl (fun e => ?_) (fun e => ?_)
  ·replace h := ite2_t h e
   refine AWP.seq' ?_
   refine AWP.rgn (F100_r1 E0  hp _) ?_ Rn Sn Sn
   refine AWP.ret ?_
   exact h
  ·replace h := ite2_f h e
   refine AWP.seq (fun env pv hp => ∃ (x15 : Bool), Sub (upd E0 15 (sB x15)) env ∧ Sub V0 pv ∧ (F100_j2 x15 hp  K)) ?_ ?_
   ·refine AWP.rgnD (by kernel_rfl) (by kernel_rfl) (F100_r4 E0 x0 k3 hp _) ?_ (Ru 0 (RefOk.p 3 3 0 Rn (fun e => by cases e))) (Sc rfl (Sc rfl Sn)) (Sc rfl Sn)
    refine mV h fun v_1 h => mI h fun i_2 h => mC h fun u_3 h_4 h => mB h fun q_5 h => ?_
    refine mt h (fun h => ?_) (fun h => ?_)
    ·exact ⟨true, (Sc rfl Sn), Sn, h⟩
    ·refine mN h fun b_6 o_7 h => mV h fun v_8 h => mS h fun a_9 n_10 c_11 h => mL h fun l_12 h => mC h fun u_13 h_14 h => mB h fun q_15 h => ?_
     exact ⟨(!q_15), (Sc rfl Sn), Sn, h⟩
   ·rintro env pv hp ⟨x15, he, hv, h⟩
    refine AWP.sub (env' := (upd E0 15 (sB x15))) (pv' := V0) ?_ (Ru 15 Rn) he hv (HSub.refl _)
    clear he hv
    unfold F100_j2 at h
    refine AWP.cond (t := x15) rfl (fun e => ?_) (fun e => ?_)
    ·replace h := ite2_t h e
     refine AWP.seq' ?_
     refine AWP.rgn (F100_r2 E0  hp _) ?_ Rn Sn Sn
     refine AWP.ret ?_
     exact h
    ·replace h := ite2_f h e
     refine AWP.skip ?_
     refine AWP.seq' ?_
     refine AWP.rgn (F100_r3 E0  hp _) ?_ Rn Sn Sn
     refine AWP.ret ?_
     exact h
end
end Go.Proofs

set_option linter.unusedVariables false
set_option maxRecDepth 20000
namespace Go.Proofs
open Go Go.HL

def zq : List Value := [.int .u8 0, .int .u8 0, .int .u8 0, .int .u8 0]
def zt : List Value := [.int .u8 0, .int .u8 0, .int .u8 0, .int .u8 0, .int .i64 0]

/-- Why nothing can be done with a transport address. -/
def mayQ (l : List Q) (t : Q × Int) : Int := if isPort t.2 ∧ t.1 ∈ l then 0 else 1

theorem C100 {p m : Nat} {l : List Q} {low high : Int} {held} {t : Q × Int} {hp : HP} {K : Value → HP → Prop} (hr : PoolR hp p l low high held m) (hlen : l.length ≤ 4)
    (h : K (.int .i64 (mayQ l t)) hp) : CF Try.prog 100 [ptr p 0, .agg ⟨t4 t⟩] hp K := by
  refine F100_ok _ (t4 t) hp K ?_
  unfold F100
  obtain ⟨a, c, h1, h2, h3⟩ := hr
  have h1c : ∀ o, hp.cell p o = [Value.slice a l.length c, .int .i64 low, .int .i64 high, .map (some m)][o]? := fun o => HP.cell_of h1
  simp only [Option.isNone_some, ite2_false, ptrN_some, h1c, Nat.zero_add, List.getElem?_cons_succ, List.getElem?_cons_zero, ldV_some, mapV_map]
  unfold F100_j1
  rw [ite2_false]
  show ldV (some (.int .i64 t.2)) _
  rw [ldV_some, intV_int]
  refine C74 ?_
  rw [boolV_bool]
  unfold mayQ at h
  cases hx : isPort t.2
  · simp only [hx, Bool.false_eq_true, false_and, if_false] at h
    simp only [Bool.not_false, ite2_true]
    unfold F100_j2
    exact h
  · simp only [Bool.not_true, ite2_false, ptrN_some, h1c, Nat.zero_add, List.getElem?_cons_zero, ldV_some, slcV_slice]
    show ldL (some (v4 t.1)) _
    rw [ldL_some]
    refine C92 h2.shows rfl (by omega) ?_
    rw [boolV_bool]
    unfold F100_j2
    by_cases hm : t.1 ∈ l
    · simp only [hx, hm, and_self, if_true] at h
      simpa [hm] using h
    · simp only [hm, and_false, if_false] at h
      simpa [hm] using h

/-! A nil pool. -/
/-! The document's answer. -/
theorem cls59 (x y : Int) : cls x y = (decide (0 ≤ x) && decide (x ≤ 65535) && decide (0 ≤ y) && decide (y ≤ 65535) && (x.tmod 2 == y.tmod 2) && (if x < 1024 then decide (y < 1024) else decide (y ≥ 1024))) := by
  unfold cls isPort
  rw [Bool.eq_iff_iff]
  simp only [Bool.and_eq_true, decide_eq_true_eq, beq_iff_eq]
  split
  · simp only [decide_eq_true_eq]
    constructor
    · rintro ⟨⟨⟨a, b⟩, c⟩, d⟩
      have : decide (x < 1024) = true := decide_eq_true (by assumption)
      rw [this] at c
      exact ⟨⟨⟨⟨⟨a.1, a.2⟩, b.1⟩, b.2⟩, d⟩, by simpa using c.symm⟩
    · rintro ⟨⟨⟨⟨⟨a, b⟩, c⟩, d⟩, e⟩, f⟩
      exact ⟨⟨⟨⟨a, b⟩, ⟨c, d⟩⟩, by rw [decide_eq_true (by assumption : x < 1024), decide_eq_true f]⟩, e⟩
  · simp only [decide_eq_true_eq]
    constructor
    · rintro ⟨⟨⟨a, b⟩, c⟩, d⟩
      have : decide (x < 1024) = false := decide_eq_false (by assumption)
      rw [this] at c
      have c' := of_decide_eq_false c.symm
      exact ⟨⟨⟨⟨⟨a.1, a.2⟩, b.1⟩, b.2⟩, d⟩, by omega⟩
    · rintro ⟨⟨⟨⟨⟨a, b⟩, c⟩, d⟩, e⟩, f⟩
      exact ⟨⟨⟨⟨a, b⟩, ⟨c, d⟩⟩, by rw [decide_eq_false (by assumption : ¬ x < 1024), decide_eq_false (by omega)]⟩, e⟩

theorem C59 {x y : Int} {hp : HP} {K : Value → HP → Prop} (h : K (.bool (cls x y)) hp) : CF Try.prog 59 [.int .i64 x, .int .i64 y] hp K := by
  refine F59_ok x y hp K ?_
  unfold F59
  rw [cls59] at h
  by_cases h0 : x < 0
  · rw [decide_eq_true h0, ite2_true]; unfold F59_j1
    rw [decide_eq_false (by omega : ¬ 0 ≤ x)] at h
    simpa using h
  rw [decide_eq_false h0, ite2_false]
  by_cases h1 : x > 65535
  · rw [decide_eq_true h1, ite2_true]; unfold F59_j1
    rw [decide_eq_false (by omega : ¬ x ≤ 65535)] at h
    simpa using h
  rw [decide_eq_false h1, ite2_false]
  by_cases h2 : y < 0
  · rw [decide_eq_true h2, ite2_true]; unfold F59_j1
    rw [decide_eq_false (by omega : ¬ 0 ≤ y)] at h
    simpa using h
  rw [decide_eq_false h2, ite2_false]
  by_cases h3 : y > 65535
  · rw [decide_eq_true h3, ite2_true]; unfold F59_j1
    rw [decide_eq_false (by omega : ¬ y ≤ 65535)] at h
    simpa using h
  rw [decide_eq_false h3, ite2_false]
  refine ⟨by decide, by decide, ?_⟩
  rw [decide_eq_true (by omega : 0 ≤ x), decide_eq_true (by omega : x ≤ 65535), decide_eq_true (by omega : 0 ≤ y), decide_eq_true (by omega : y ≤ 65535)] at h
  simp only [Bool.true_and] at h
  unfold F59_j1
  by_cases h4 : x.tmod 2 = y.tmod 2
  · have e : (x.tmod 2 != y.tmod 2) = false := by simp [h4]
    rw [e, ite2_false]
    have e' : (x.tmod 2 == y.tmod 2) = true := by simp [h4]
    rw [e', Bool.true_and] at h
    by_cases h5 : x < 1024
    · rw [if_pos h5] at h
      rw [decide_eq_true h5]; exact h
    · rw [if_neg h5] at h
      rw [decide_eq_false h5]; exact h
  · have e : (x.tmod 2 != y.tmod 2) = true := by simp [h4]
    rw [e, ite2_true]
    have e' : (x.tmod 2 == y.tmod 2) = false := by simp [h4]
    rw [e', Bool.false_and] at h
    exact h

theorem C55 {a : Option Addr} {n c : Nat} {l : List Q} {low high : Int} {hp : HP} {K : Value → HP → Prop} (hs : Shows hp a n 4 (l.flatMap v4)) (hl : l.length = n) (hn : n ≤ 1000000)
    (hlo : -9223372036854775808 ≤ low ∧ low ≤ 9223372036854775807) (hhi : -9223372036854775808 ≤ high ∧ high ≤ 9223372036854775807)
    (h : K (.bool (newOk l low high)) hp) : CF Try.prog 55 [.slice a n c, .int .i64 low, .int .i64 high] hp K := by
  refine F55_ok a n c low high hp K ?_
  unfold F55 F55_j2
  refine LoopP.by (J := fun k (x : Int) hp' => hp' = hp ∧ ∃ i : Nat, x = i ∧ i + k = n ∧ (l.take i).Nodup) ?_ (n := n) ⟨rfl, 0, rfl, by omega, by simp⟩
  rintro I k x hp' ⟨rfl, i, rfl, hik, hnd⟩ hI
  unfold F55_l3
  by_cases hi : i < n
  · rw [decide_eq_true (by omega : (i : Int) < (n : Int)), ite2_true]
    unfold F55_j5
    refine LoopP.by (J := fun k' (y : Int) hp'' => hp'' = hp' ∧ ∃ j : Nat, y = j ∧ j + k' = i ∧ ∀ j' : Nat, j' < j → l[j']? ≠ l[i]?) ?_ (n := i) ⟨rfl, 0, rfl, by omega, fun j' hj' => by omega⟩
    rintro I' k' y hp'' ⟨rfl, j, rfl, hjk, hne⟩ hI'
    unfold F55_l6
    by_cases hj : j < i
    · rw [decide_eq_true (by omega : (j : Int) < (i : Int)), ite2_true]
      obtain ⟨b, o, rfl, hc⟩ := hs.get v4_len hl hi
      obtain ⟨b', o', hbo, hc'⟩ := hs.get v4_len hl (show j < n by omega)
      cases hbo
      simp only [ptrN_some, Int.toNat_natCast, hc, hc', ldL_some]
      refine ⟨by omega, by omega, by omega, by omega, eq73 ?_⟩
      by_cases he : l[i]'(hl ▸ hi) = l[j]'(by omega)
      · rw [decide_eq_true he, ite2_true]
        have : newOk l low high = false := by
          unfold newOk
          have : ¬ l.Nodup := fun hnd' => by
            have := List.nodup_iff_pairwise_ne.1 hnd'
            have := List.pairwise_iff_getElem.1 this j i (by omega) (by omega) hj
            exact this he.symm
          simp [this]
        rw [this] at h; exact h
      · rw [decide_eq_false he, ite2_false, w64 (by omega) (by omega)]
        refine hI' (k' - 1) _ _ (by omega) ⟨rfl, j + 1, by omega, by omega, fun j' hj' => ?_⟩
        by_cases hjj : j' = j
        · subst hjj
          rw [List.getElem?_eq_getElem (by omega), List.getElem?_eq_getElem (hl ▸ hi)]
          exact fun e => he (Option.some.inj e).symm
        · exact hne j' (by omega)
    · rw [decide_eq_false (by omega : ¬ (j : Int) < (i : Int)), ite2_false]
      unfold F55_j4
      rw [w64 (by omega) (by omega)]
      have hji : j = i := by omega
      subst hji
      refine hI (k - 1) _ _ (by omega) ⟨rfl, j + 1, by omega, by omega, nodup_take (hl ▸ hi) hnd ?_⟩
      intro hm
      obtain ⟨j', hj', e⟩ := List.getElem_of_mem hm
      simp only [List.length_take] at hj'
      refine hne j' (by omega) ?_
      rw [List.getElem?_eq_getElem (by omega), List.getElem?_eq_getElem (hl ▸ hi), ← e]
      simp
  · rw [decide_eq_false (by omega : ¬ (i : Int) < (n : Int)), ite2_false]
    have hin : i = l.length := by omega
    subst hin
    rw [List.take_length] at hnd
    have hN : newOk l low high = (decide (1 ≤ l.length) && decide (l.length ≤ 4) && isPort low && isPort high && decide (low ≤ high) && decide (high - low < 1024)) := by
      unfold newOk; simp [hnd]
    rw [hN] at h
    unfold F55_j1
    by_cases g1 : l.length < 1
    · rw [decide_eq_false (by omega : ¬ ((n : Nat) : Int) ≥ 1), ite2_false]
      rw [decide_eq_false (by omega : ¬ 1 ≤ l.length)] at h
      simpa using h
    rw [decide_eq_true (by omega : ((n : Nat) : Int) ≥ 1), ite2_true]
    by_cases g2 : 4 < l.length
    · rw [decide_eq_false (by omega : ¬ ((n : Nat) : Int) ≤ 4), ite2_false]
      rw [decide_eq_false (by omega : ¬ l.length ≤ 4)] at h
      simpa using h
    rw [decide_eq_true (by omega : ((n : Nat) : Int) ≤ 4), ite2_true]
    unfold isPort at h
    by_cases g3 : low < 0
    · rw [decide_eq_false (by omega : ¬ low ≥ 0), ite2_false]
      rw [decide_eq_false (by omega : ¬ (0 ≤ low ∧ low ≤ 65535))] at h
      simpa using h
    rw [decide_eq_true (by omega : low ≥ 0), ite2_true]
    by_cases g4 : high < low
    · rw [decide_eq_false (by omega : ¬ low ≤ high), ite2_false]
      rw [decide_eq_false (by omega : ¬ low ≤ high)] at h
      simpa using h
    rw [decide_eq_true (by omega : low ≤ high), ite2_true]
    by_cases g5 : 65535 < high
    · rw [decide_eq_false (by omega : ¬ high ≤ 65535), ite2_false]
      rw [decide_eq_false (by omega : ¬ (0 ≤ high ∧ high ≤ 65535))] at h
      simpa using h
    rw [decide_eq_true (by omega : high ≤ 65535), ite2_true, w64 (n := high - low) (by omega) (by omega), w64 (by omega) (by omega)]
    rw [decide_eq_true (by omega : 1 ≤ l.length), decide_eq_true (by omega : l.length ≤ 4), decide_eq_true (by omega : low ≤ high), decide_eq_true (by omega : 0 ≤ low ∧ low ≤ 65535), decide_eq_true (by omega : 0 ≤ high ∧ high ≤ 65535)] at h
    have e : decide (high - low + 1 ≤ 1024) = decide (high - low < 1024) := by
      rw [Bool.eq_iff_iff]; simp only [decide_eq_true_eq]; omega
    rw [e]
    simpa using h
end Go.Proofs

set_option linter.unusedVariables false
set_option maxRecDepth 20000
namespace Go.Proofs
open Go Go.HL

section
variable {p m : Nat} {l : List Q} {low high : Int} {held : List ((Q × Int) × Bool)} {t : Q × Int} {hp : HP} {K : Value → HP → Prop}

theorem PoolR.cellM (hr : PoolR hp p l low high held m) : hp.cell p (0 + 3) = some (.map (some m)) := by
  obtain ⟨a, c, h1, _, _⟩ := hr
  rw [HP.cell_of h1]; rfl
theorem PoolR.mapM (hr : PoolR hp p l low high held m) : MapE t4k vb held (hp m) := by
  obtain ⟨a, c, _, _, h3⟩ := hr
  exact h3

theorem mayQ_cases (l : List Q) (t : Q × Int) : mayQ l t = 0 ∨ mayQ l t = 1 := by
  unfold mayQ; split
  · exact .inl rfl
  · exact .inr rfl

/-- What Is tells. -/
def isQ (l : List Q) (held : List ((Q × Int) × Bool)) (t : Q × Int) : Bool × Bool :=
  if mayQ l t ≠ 0 then (false, false) else match getL t held with | none => (false, false) | some r => (!r, r)

theorem C47 (hr : PoolR hp p l low high held m) (hlen : l.length ≤ 4)
    (h : K (.tuple ⟨[.bool (isQ l held t).1, .bool (isQ l held t).2]⟩) hp) : CF Try.prog 47 [ptr p 0, .agg ⟨t4 t⟩] hp K := by
  refine F47_ok _ (t4 t) hp K ?_
  unfold F47
  rw [cellsN_all (t4_len t), ldL_some]
  refine C100 hr hlen ?_
  rw [intV_int]
  unfold isQ at h
  rcases mayQ_cases l t with hm | hm
  · rw [hm] at h ⊢
    show ite2 false _ _
    rw [ite2_false, ptrN_some, hr.cellM, ldV_some, mapV_map, ldL_some]
    refine rdS_lookup u158 enc75 z4 hr.mapM t ?_
    simp only [if_true, tup2V_mk]
    cases hg : getL t held with
    | none => simpa [hg] using h
    | some r => simpa [hg, vb] using h
  · rw [hm] at h ⊢
    exact h

theorem C48 {q : Q} (hr : PoolR hp p l low high held m) (hlen : l.length ≤ 4)
    (h : K (.bool (decide (q ∈ l))) hp) : CF Try.prog 48 [ptr p 0, .agg ⟨v4 q⟩] hp K := by
  refine F48_ok _ (v4 q) hp K ?_
  unfold F48
  rw [cellsN_all (v4_len q), ldL_some]
  refine ifI rfl ?_
  have hz : splice [(Value.int .u8 0), (Value.int .u8 0), (Value.int .u8 0), (Value.int .u8 0), (Value.int .i64 0)] 0 (v4 q) = t4 (q, 0) := rfl
  rw [hz]
  refine C100 hr hlen ?_
  rw [intV_int]
  have : (mayQ l (q, 0) == 0) = decide (q ∈ l) := by
    unfold mayQ
    have h0 : isPort (0 : Int) = true := by decide
    by_cases hq : q ∈ l <;> simp [h0, hq]
  rw [this]; exact h

/-- What Give, Reserve, Release answer. -/
def giveQ (l : List Q) (held : List ((Q × Int) × Bool)) (t : Q × Int) : Int :=
  if mayQ l t ≠ 0 then 1 else match getL t held with | none => 4 | some true => 11 | some false => 0
def reserveQ (l : List Q) (held : List ((Q × Int) × Bool)) (t : Q × Int) : Int :=
  if mayQ l t ≠ 0 then 1 else if (getL t held).isSome then 5 else 0
def releaseQ (l : List Q) (held : List ((Q × Int) × Bool)) (t : Q × Int) : Int :=
  if mayQ l t ≠ 0 then 1 else match getL t held with | some true => 0 | _ => 4

theorem C49 (hr : PoolR hp p l low high held m) (hlen : l.length ≤ 4)
    (hno : giveQ l held t ≠ 0 → K (.int .i64 (giveQ l held t)) hp)
    (hyes : giveQ l held t = 0 → ∀ e, MapE t4k vb (delL t held) e → K (.int .i64 0) (hp.set m e)) : CF Try.prog 49 [ptr p 0, .agg ⟨t4 t⟩] hp K := by
  refine F49_ok _ (t4 t) hp K ?_
  unfold F49
  rw [cellsN_all (t4_len t), ldL_some]
  refine C100 hr hlen ?_
  rw [intV_int]
  unfold giveQ at hno hyes
  rcases mayQ_cases l t with hm | hm
  · rw [hm] at hno hyes ⊢
    show ite2 false _ _
    rw [ite2_false, ptrN_some, hr.cellM, ldV_some, mapV_map, ldL_some]
    refine rdS_lookup u158 enc75 z4 hr.mapM t ?_
    simp only [if_true, tup2V_mk]
    cases hg : getL t held with
    | none => simpa [hg] using hno
    | some r =>
      cases r
      · simp only [Option.map_some, Option.getD_some, vb, boolV_bool, ite2_false, Option.isSome_some, Bool.not_true, ptrN_some, hr.cellM, ldV_some, mapV_map, ldL_some]
        refine opS_delete u158 enc75 hr.mapM t ?_
        intro e he
        exact hyes (by simp [hg]) e he
      · simpa [hg, vb] using hno
  · rw [hm] at hno ⊢
    exact hno (by simp)

theorem C50 (hr : PoolR hp p l low high held m) (hlen : l.length ≤ 4)
    (hno : reserveQ l held t ≠ 0 → K (.int .i64 (reserveQ l held t)) hp)
    (hyes : reserveQ l held t = 0 → ∀ e, MapE t4k vb (putL t true held) e → K (.int .i64 0) (hp.set m e)) : CF Try.prog 50 [ptr p 0, .agg ⟨t4 t⟩] hp K := by
  refine F50_ok _ (t4 t) hp K ?_
  unfold F50
  rw [cellsN_all (t4_len t), ldL_some]
  refine C100 hr hlen ?_
  rw [intV_int]
  unfold reserveQ at hno hyes
  rcases mayQ_cases l t with hm | hm
  · rw [hm] at hno hyes ⊢
    show ite2 false _ _
    rw [ite2_false, ptrN_some, hr.cellM, ldV_some, mapV_map, ldL_some]
    refine rdS_lookup u158 enc75 z4 hr.mapM t ?_
    simp only [if_true, tup2V_mk]
    cases hg : getL t held with
    | none =>
      simp only [Option.map_none, Option.getD_none, boolV_bool, Option.isSome_none, ite2_false, ptrN_some, hr.cellM, ldV_some, mapV_map, ldL_some]
      refine opS_mapUpdate u158 enc75 hr.mapM t true (ev := vb) ?_
      intro e he
      exact hyes (by simp [hg]) e he
    | some r => simpa [hg, vb] using hno
  · rw [hm] at hno ⊢
    exact hno (by simp)

theorem C51 (hr : PoolR hp p l low high held m) (hlen : l.length ≤ 4)
    (hno : releaseQ l held t ≠ 0 → K (.int .i64 (releaseQ l held t)) hp)
    (hyes : releaseQ l held t = 0 → ∀ e, MapE t4k vb (delL t held) e → K (.int .i64 0) (hp.set m e)) : CF Try.prog 51 [ptr p 0, .agg ⟨t4 t⟩] hp K := by
  refine F51_ok _ (t4 t) hp K ?_
  unfold F51
  rw [cellsN_all (t4_len t), ldL_some]
  refine C100 hr hlen ?_
  rw [intV_int]
  unfold releaseQ at hno hyes
  rcases mayQ_cases l t with hm | hm
  · rw [hm] at hno hyes ⊢
    show ite2 false _ _
    rw [ite2_false, ptrN_some, hr.cellM, ldV_some, mapV_map, ldL_some]
    refine rdS_lookup u158 enc75 z4 hr.mapM t ?_
    simp only [Bool.false_eq_true, if_false]
    cases hg : getL t held with
    | none => simpa [hg] using hno
    | some r =>
      cases r
      · simpa [hg, vb] using hno
      · simp only [Option.map_some, Option.getD_some, vb, boolV_bool, Bool.not_true, ite2_false, ptrN_some, hr.cellM, ldV_some, mapV_map, ldL_some]
        refine opS_delete u158 enc75 hr.mapM t ?_
        intro e he
        exact hyes (by simp [hg]) e he
  · rw [hm] at hno ⊢
    exact hno (by simp)
end
end Go.Proofs

namespace Go.HL
open Go

/-- The comparison that a sort is handed: whatever the row holds. -/
def CmpOk {α : Type} [Inhabited α] (P : Program) (f : FuncId) (ga gb : List Value) (hp0 : HP) (b : Nat) (e : TypeId) (sp : Nat) (en : α → List Value) (n : Nat) (cf : α → α → Int) : Prop :=
  ∀ (d : Array α) (x y : α) (K : Value → HP → Prop), d.size = n → K (.int .i64 (cf x y)) (HA hp0 b e sp en d) → CF P f (ga ++ [.agg ⟨en x⟩, .agg ⟨en y⟩] ++ gb) (HA hp0 b e sp en d) K

def ltC {α : Type} (cf : α → α → Int) (x y : α) : Bool := decide (cf x y < 0)
theorem swp_size {α : Type} [Inhabited α] (d : Array α) (i j : Nat) : (Sort.swp d i j).size = d.size := by simp [Sort.swp]
end Go.HL

set_option linter.unusedVariables false
namespace Go.Proofs
open Go Go.HL

theorem perm_of_map {α β : Type} {f : α → β} (hf : ∀ a b, f a = f b → a = b) : ∀ {l l' : List α}, (l.map f).Perm (l'.map f) → l.Perm l'
  | [], l', h => by
    have := h.length_eq
    simp at this
    rw [List.eq_nil_of_length_eq_zero this.symm]
  | a :: l, l', h => by
    classical
    have hm : f a ∈ l'.map f := h.mem_iff.1 (by simp)
    obtain ⟨a', ha', e⟩ := List.mem_map.1 hm
    have := hf _ _ e
    subst this
    have hp := List.perm_cons_erase ha'
    refine List.Perm.trans ?_ hp.symm
    refine List.Perm.cons _ (perm_of_map hf ?_)
    have h2 := h.trans (hp.map f)
    simp only [List.map_cons] at h2
    exact h2.cons_inv

/-- The lesser first, of two numbers. -/
def cmpI (x y : Int) : Int := if x < y then -1 else if x > y then 1 else 0
/-- The order of transport addresses: by where the address stands, then by port. -/
def cmpT (l : List Q) (a b : Q × Int) : Int := if cmpI (idx a.1 l) (idx b.1 l) ≠ 0 then cmpI (idx a.1 l) (idx b.1 l) else cmpI a.2 b.2

theorem cmpT_lt {l : List Q} {a b : Q × Int} : ltC (cmpT l) a b = true ↔ idx a.1 l < idx b.1 l ∨ (idx a.1 l = idx b.1 l ∧ a.2 < b.2) := by
  unfold ltC cmpT cmpI
  rw [decide_eq_true_iff]
  repeat' split
  all_goals omega

theorem cmpT_ltf {l : List Q} {a b : Q × Int} : ltC (cmpT l) a b = false ↔ ¬ (idx a.1 l < idx b.1 l ∨ (idx a.1 l = idx b.1 l ∧ a.2 < b.2)) := by
  rw [← cmpT_lt]; simp

theorem swo_cmpT (l : List Q) : Sort.SWO (ltC (cmpT l)) where
  irrefl x := by rw [cmpT_ltf]; omega
  trans x y z := by simp only [cmpT_lt]; omega
  ntrans x y z := by simp only [cmpT_ltf]; omega

/-- How many of a range are free. -/
def freeQ (l : List Q) (low high : Int) (held : List ((Q × Int) × Bool)) : Int :=
  l.length * (high - low + 1) - (held.filter (fun kv => decide (low ≤ kv.1.2) && decide (kv.1.2 ≤ high))).length
end Go.Proofs

set_option linter.unusedVariables false
set_option maxRecDepth 20000
namespace Go.Proofs
open Go Go.HL
-- 95 (*interpreter/pool.Pool).All$1
section
variable (e : Env) (x0 x1 : List Value) (hp : HP) (K : Env → PV → HP → Prop)
abbrev R95 (p : List Nat) (n : Nat) := RW Try.prog 28 [3, 4, 10, 17, 21, 23] (opsAt Try.f95 p) (List.range n)
theorem F95_r0 : R95 [0] 3 (upd (upd e 1 (sA x1)) 0 (sA x0)) V0 hp K =
    (K (upd (upd (upd (upd (upd e 1 (sA x1)) 0 (sA x0)) 3 (sR 3 0)) 4 (sR 4 0)) 5 (sI 0)) (upd (upd V0 3 (75, x0)) 4 (75, x1)) hp) := by kernel_rfl
theorem F95_r1 (e : Env) (x2 : Option Addr) (k3 : List Value) (k4 : List Value) (hp : HP) (K : Env → PV → HP → Prop) : RW Try.prog 28 [3, 4, 10, 17, 21, 23] (opsAt Try.f95 [1, 0]) [0, 1, 2, 3, 4, 5, 6, 7, 8, 9, 10, 11, 12, 13, 14, 15, 16, 17, 18, 19, 20, 21, 22] (upd (upd (upd e 4 (sR 4 0)) 3 (sR 3 0)) 2 (sP x2)) (upd (upd V0 4 (75, k4)) 3 (75, k3)) hp K =
    (ptrN x2 fun b1 o2 => (ldV (HP.cell hp b1 o2) fun v3 => (ptrV v3 fun p4 => (ptrN p4 fun b5 o6 => (ldV (HP.cell hp b5 (o6 + 0)) fun v7 => (slcV v7 fun a8 n9 c10 => (ldL (cellsN k3 0 4) fun l11 => (CF Try.prog 98 [(.slice a8 n9 c10), (.agg ⟨l11⟩)] hp fun u12 h13 => (intV u12 .i64 fun i14 => (ptrN x2 fun b15 o16 => (ldV (HP.cell h13 b15 o16) fun v17 => (ptrV v17 fun p18 => (ptrN p18 fun b19 o20 => (ldV (HP.cell h13 b19 (o20 + 0)) fun v21 => (slcV v21 fun a22 n23 c24 => (ldL (cellsN k4 0 4) fun l25 => (CF Try.prog 98 [(.slice a22 n23 c24), (.agg ⟨l25⟩)] h13 fun u26 h27 => (intV u26 .i64 fun i28 => (CF Try.prog 97 [(.int .i64 i14), (.int .i64 i28)] h27 fun u29 h30 => (intV u29 .i64 fun i31 => (ldV (k3)[4]? fun v32 => (intV v32 .i64 fun i33 => (ldV (k4)[4]? fun v34 => (intV v34 .i64 fun i35 => (CF Try.prog 97 [(.int .i64 i33), (.int .i64 i35)] h30 fun u36 h37 => (intV u36 .i64 fun i38 => (∀ b39 : Nat, h37 b39 = .none → (CF Try.prog 96 [(.slice (some ⟨b39, 0, none⟩) 2 2)] (HP.set h37 b39 (.cells 3 [(.int .i64 i31), (.int .i64 i38)] 0)) fun u40 h41 => (intV u40 .i64 fun i42 => (K (upd (upd (upd (upd (upd (upd (upd (upd (upd (upd (upd (upd (upd (upd (upd (upd (upd (upd (upd (upd (upd (upd (upd (upd (upd (upd e 4 (sR 4 0)) 3 (sR 3 0)) 2 (sP x2)) 6 (sP p4)) 7 (sQ b5 o6)) 8 (sQ b5 (o6 + 0))) 9 (sS a8 n9 c10)) 10 (sR 3 0)) 11 (sA l11)) 12 (sI i14)) 13 (sP p18)) 14 (sQ b19 o20)) 15 (sQ b19 (o20 + 0))) 16 (sS a22 n23 c24)) 17 (sR 4 0)) 18 (sA l25)) 19 (sI i28)) 20 (sI i31)) 21 (sR 3 4)) 22 (sI i33)) 23 (sR 4 4)) 24 (sI i35)) 25 (sI i38)) 26 (sV (.slice (some ⟨b39, 0, none⟩) 2 2))) 27 (sI i42)) 5 (sI i42)) (upd (upd V0 4 (75, k4)) 3 (75, k3)) h41)))))))))))))))))))))))))))))) := by kernel_rfl
theorem F95_r2 (e : Env) (x2 : Option Addr) (k3 : List Value) (k4 : List Value) (hp : HP) (K : Env → PV → HP → Prop) : RW Try.prog 28 [3, 4, 10, 17, 21, 23] (opsAt Try.f95 [1, 0]) [0, 1, 2, 3, 4, 5, 7, 6, 8, 9, 10, 11, 12, 13, 14, 15, 16, 17, 18, 19, 20, 21, 22] (upd (upd (upd e 4 (sR 4 0)) 3 (sR 3 0)) 2 (sP x2)) (upd (upd V0 4 (75, k4)) 3 (75, k3)) hp K =
    (ptrN x2 fun b1 o2 => (ldV (HP.cell hp b1 o2) fun v3 => (ptrV v3 fun p4 => (ptrN p4 fun b5 o6 => (ldV (HP.cell hp b5 (o6 + 0)) fun v7 => (slcV v7 fun a8 n9 c10 => (ldL (cellsN k3 0 4) fun l11 => (ptrN x2 fun b12 o13 => (ldV (HP.cell hp b12 o13) fun v14 => (ptrV v14 fun p15 => (CF Try.prog 98 [(.slice a8 n9 c10), (.agg ⟨l11⟩)] hp fun u16 h17 => (intV u16 .i64 fun i18 => (ptrN p15 fun b19 o20 => (ldV (HP.cell h17 b19 (o20 + 0)) fun v21 => (slcV v21 fun a22 n23 c24 => (ldL (cellsN k4 0 4) fun l25 => (CF Try.prog 98 [(.slice a22 n23 c24), (.agg ⟨l25⟩)] h17 fun u26 h27 => (intV u26 .i64 fun i28 => (CF Try.prog 97 [(.int .i64 i18), (.int .i64 i28)] h27 fun u29 h30 => (intV u29 .i64 fun i31 => (ldV (k3)[4]? fun v32 => (intV v32 .i64 fun i33 => (ldV (k4)[4]? fun v34 => (intV v34 .i64 fun i35 => (CF Try.prog 97 [(.int .i64 i33), (.int .i64 i35)] h30 fun u36 h37 => (intV u36 .i64 fun i38 => (∀ b39 : Nat, h37 b39 = .none → (CF Try.prog 96 [(.slice (some ⟨b39, 0, none⟩) 2 2)] (HP.set h37 b39 (.cells 3 [(.int .i64 i31), (.int .i64 i38)] 0)) fun u40 h41 => (intV u40 .i64 fun i42 => (K (upd (upd (upd (upd (upd (upd (upd (upd (upd (upd (upd (upd (upd (upd (upd (upd (upd (upd (upd (upd (upd (upd (upd (upd (upd (upd e 4 (sR 4 0)) 3 (sR 3 0)) 2 (sP x2)) 6 (sP p4)) 7 (sQ b5 o6)) 8 (sQ b5 (o6 + 0))) 9 (sS a8 n9 c10)) 10 (sR 3 0)) 11 (sA l11)) 13 (sP p15)) 12 (sI i18)) 14 (sQ b19 o20)) 15 (sQ b19 (o20 + 0))) 16 (sS a22 n23 c24)) 17 (sR 4 0)) 18 (sA l25)) 19 (sI i28)) 20 (sI i31)) 21 (sR 3 4)) 22 (sI i33)) 23 (sR 4 4)) 24 (sI i35)) 25 (sI i38)) 26 (sV (.slice (some ⟨b39, 0, none⟩) 2 2))) 27 (sI i42)) 5 (sI i42)) (upd (upd V0 4 (75, k4)) 3 (75, k3)) h41)))))))))))))))))))))))))))))) := by kernel_rfl
theorem F95_r3 (e : Env) (x2 : Option Addr) (k3 : List Value) (k4 : List Value) (hp : HP) (K : Env → PV → HP → Prop) : RW Try.prog 28 [3, 4, 10, 17, 21, 23] (opsAt Try.f95 [1, 0]) [0, 1, 2, 3, 4, 5, 7, 8, 9, 10, 6, 11, 12, 13, 14, 15, 16, 17, 18, 19, 20, 21, 22] (upd (upd (upd e 4 (sR 4 0)) 3 (sR 3 0)) 2 (sP x2)) (upd (upd V0 4 (75, k4)) 3 (75, k3)) hp K =
    (ptrN x2 fun b1 o2 => (ldV (HP.cell hp b1 o2) fun v3 => (ptrV v3 fun p4 => (ptrN p4 fun b5 o6 => (ldV (HP.cell hp b5 (o6 + 0)) fun v7 => (slcV v7 fun a8 n9 c10 => (ldL (cellsN k3 0 4) fun l11 => (ptrN x2 fun b12 o13 => (ldV (HP.cell hp b12 o13) fun v14 => (ptrV v14 fun p15 => (ptrN p15 fun b16 o17 => (ldV (HP.cell hp b16 (o17 + 0)) fun v18 => (slcV v18 fun a19 n20 c21 => (CF Try.prog 98 [(.slice a8 n9 c10), (.agg ⟨l11⟩)] hp fun u22 h23 => (intV u22 .i64 fun i24 => (ldL (cellsN k4 0 4) fun l25 => (CF Try.prog 98 [(.slice a19 n20 c21), (.agg ⟨l25⟩)] h23 fun u26 h27 => (intV u26 .i64 fun i28 => (CF Try.prog 97 [(.int .i64 i24), (.int .i64 i28)] h27 fun u29 h30 => (intV u29 .i64 fun i31 => (ldV (k3)[4]? fun v32 => (intV v32 .i64 fun i33 => (ldV (k4)[4]? fun v34 => (intV v34 .i64 fun i35 => (CF Try.prog 97 [(.int .i64 i33), (.int .i64 i35)] h30 fun u36 h37 => (intV u36 .i64 fun i38 => (∀ b39 : Nat, h37 b39 = .none → (CF Try.prog 96 [(.slice (some ⟨b39, 0, none⟩) 2 2)] (HP.set h37 b39 (.cells 3 [(.int .i64 i31), (.int .i64 i38)] 0)) fun u40 h41 => (intV u40 .i64 fun i42 => (K (upd (upd (upd (upd (upd (upd (upd (upd (upd (upd (upd (upd (upd (upd (upd (upd (upd (upd (upd (upd (upd (upd (upd (upd (upd (upd e 4 (sR 4 0)) 3 (sR 3 0)) 2 (sP x2)) 6 (sP p4)) 7 (sQ b5 o6)) 8 (sQ b5 (o6 + 0))) 9 (sS a8 n9 c10)) 10 (sR 3 0)) 11 (sA l11)) 13 (sP p15)) 14 (sQ b16 o17)) 15 (sQ b16 (o17 + 0))) 16 (sS a19 n20 c21)) 12 (sI i24)) 17 (sR 4 0)) 18 (sA l25)) 19 (sI i28)) 20 (sI i31)) 21 (sR 3 4)) 22 (sI i33)) 23 (sR 4 4)) 24 (sI i35)) 25 (sI i38)) 26 (sV (.slice (some ⟨b39, 0, none⟩) 2 2))) 27 (sI i42)) 5 (sI i42)) (upd (upd V0 4 (75, k4)) 3 (75, k3)) h41)))))))))))))))))))))))))))))) := by kernel_rfl
def F95 (x0 : List Value) (x1 : List Value) (x2 : Option Addr) (hp : HP) (K : Value → HP → Prop) : Prop :=
  ((ptrN x2 fun b_1 o_2 => (ldV (HP.cell hp b_1 o_2) fun v_3 => (ptrV v_3 fun p_4 => (ptrN p_4 fun b_5 o_6 => (ldV (HP.cell hp b_5 (o_6 + 0)) fun v_7 => (slcV v_7 fun a_8 n_9 c_10 => (ldL (cellsN x0 0 4) fun l_11 => (CF Try.prog 98 [(.slice a_8 n_9 c_10), (.agg ⟨l_11⟩)] hp fun u_12 h_13 => (intV u_12 .i64 fun i_14 => (ptrN x2 fun b_15 o_16 => (ldV (HP.cell h_13 b_15 o_16) fun v_17 => (ptrV v_17 fun p_18 => (ptrN p_18 fun b_19 o_20 => (ldV (HP.cell h_13 b_19 (o_20 + 0)) fun v_21 => (slcV v_21 fun a_22 n_23 c_24 => (ldL (cellsN x1 0 4) fun l_25 => (CF Try.prog 98 [(.slice a_22 n_23 c_24), (.agg ⟨l_25⟩)] h_13 fun u_26 h_27 => (intV u_26 .i64 fun i_28 => (CF Try.prog 97 [(.int .i64 i_14), (.int .i64 i_28)] h_27 fun u_29 h_30 => (intV u_29 .i64 fun i_31 => (ldV (x0)[4]? fun v_32 => (intV v_32 .i64 fun i_33 => (ldV (x1)[4]? fun v_34 => (intV v_34 .i64 fun i_35 => (CF Try.prog 97 [(.int .i64 i_33), (.int .i64 i_35)] h_30 fun u_36 h_37 => (intV u_36 .i64 fun i_38 => (∀ b_39 : Nat, h_37 b_39 = .none → (CF Try.prog 96 [(.slice (some ⟨b_39, 0, none⟩) 2 2)] (HP.set h_37 b_39 (.cells 3 [(.int .i64 i_31), (.int .i64 i_38)] 0)) fun u_40 h_41 => (intV u_40 .i64 fun i_42 => (K (.int .i64 i_42) h_41)))))))))))))))))))))))))))))) ∧ (ptrN x2 fun b_43 o_44 => (ldV (HP.cell hp b_43 o_44) fun v_45 => (ptrV v_45 fun p_46 => (ptrN p_46 fun b_47 o_48 => (ldV (HP.cell hp b_47 (o_48 + 0)) fun v_49 => (slcV v_49 fun a_50 n_51 c_52 => (ldL (cellsN x0 0 4) fun l_53 => (ptrN x2 fun b_54 o_55 => (ldV (HP.cell hp b_54 o_55) fun v_56 => (ptrV v_56 fun p_57 => (CF Try.prog 98 [(.slice a_50 n_51 c_52), (.agg ⟨l_53⟩)] hp fun u_58 h_59 => (intV u_58 .i64 fun i_60 => (ptrN p_57 fun b_61 o_62 => (ldV (HP.cell h_59 b_61 (o_62 + 0)) fun v_63 => (slcV v_63 fun a_64 n_65 c_66 => (ldL (cellsN x1 0 4) fun l_67 => (CF Try.prog 98 [(.slice a_64 n_65 c_66), (.agg ⟨l_67⟩)] h_59 fun u_68 h_69 => (intV u_68 .i64 fun i_70 => (CF Try.prog 97 [(.int .i64 i_60), (.int .i64 i_70)] h_69 fun u_71 h_72 => (intV u_71 .i64 fun i_73 => (ldV (x0)[4]? fun v_74 => (intV v_74 .i64 fun i_75 => (ldV (x1)[4]? fun v_76 => (intV v_76 .i64 fun i_77 => (CF Try.prog 97 [(.int .i64 i_75), (.int .i64 i_77)] h_72 fun u_78 h_79 => (intV u_78 .i64 fun i_80 => (∀ b_81 : Nat, h_79 b_81 = .none → (CF Try.prog 96 [(.slice (some ⟨b_81, 0, none⟩) 2 2)] (HP.set h_79 b_81 (.cells 3 [(.int .i64 i_73), (.int .i64 i_80)] 0)) fun u_82 h_83 => (intV u_82 .i64 fun i_84 => (K (.int .i64 i_84) h_83)))))))))))))))))))))))))))))) ∧ (ptrN x2 fun b_85 o_86 => (ldV (HP.cell hp b_85 o_86) fun v_87 => (ptrV v_87 fun p_88 => (ptrN p_88 fun b_89 o_90 => (ldV (HP.cell hp b_89 (o_90 + 0)) fun v_91 => (slcV v_91 fun a_92 n_93 c_94 => (ldL (cellsN x0 0 4) fun l_95 => (ptrN x2 fun b_96 o_97 => (ldV (HP.cell hp b_96 o_97) fun v_98 => (ptrV v_98 fun p_99 => (ptrN p_99 fun b_100 o_101 => (ldV (HP.cell hp b_100 (o_101 + 0)) fun v_102 => (slcV v_102 fun a_103 n_104 c_105 => (CF Try.prog 98 [(.slice a_92 n_93 c_94), (.agg ⟨l_95⟩)] hp fun u_106 h_107 => (intV u_106 .i64 fun i_108 => (ldL (cellsN x1 0 4) fun l_109 => (CF Try.prog 98 [(.slice a_103 n_104 c_105), (.agg ⟨l_109⟩)] h_107 fun u_110 h_111 => (intV u_110 .i64 fun i_112 => (CF Try.prog 97 [(.int .i64 i_108), (.int .i64 i_112)] h_111 fun u_113 h_114 => (intV u_113 .i64 fun i_115 => (ldV (x0)[4]? fun v_116 => (intV v_116 .i64 fun i_117 => (ldV (x1)[4]? fun v_118 => (intV v_118 .i64 fun i_119 => (CF Try.prog 97 [(.int .i64 i_117), (.int .i64 i_119)] h_114 fun u_120 h_121 => (intV u_120 .i64 fun i_122 => (∀ b_123 : Nat, h_121 b_123 = .none → (CF Try.prog 96 [(.slice (some ⟨b_123, 0, none⟩) 2 2)] (HP.set h_121 b_123 (.cells 3 [(.int .i64 i_115), (.int .i64 i_122)] 0)) fun u_124 h_125 => (intV u_124 .i64 fun i_126 => (K (.int .i64 i_126) h_125)))))))))))))))))))))))))))))))
noncomputable def F95_code : Code := (.seq (.region 0 (opsAt Try.f95 [0]) false) (.seq (.region 1 (opsAt Try.f95 [1, 0]) true) .ret))
theorem F95_body : Try.f95.body = some F95_code := by kernel_rfl
theorem F95_ok (x0 : List Value) (x1 : List Value) (x2 : Option Addr) (hp : HP) (K : Value → HP → Prop) (h : F95 x0 x1 x2 hp K) : CF Try.prog 95 [(.agg ⟨x0⟩), (.agg ⟨x1⟩), (.pointer x2)] hp K := by
 refine .inl ⟨by kernel_rfl, AC.intro (N := 28) Try.func95 F95_body rfl (Nat.le_of_ble_eq_true rfl) ?_⟩
 unfold F95 at h
 unfold F95_code
 refine AWP.seq' ?_
 refine AWP.rgn (F95_r0 (upd E0 2 (sP x2)) x0 x1 hp _) ?_ (Ru 0 (Ru 1 (Ru 2 Rn))) (Sc rfl (Sc rfl (Sc rfl Sn))) Sn
 refine AWP.seq' ?_
 refine AWP.rgnC (cf := [(6, 7), (6, 10)]) (c := [([true, true], true, [0, 1, 2, 3, 4, 5, 6, 7, 8, 9, 10, 11, 12, 13, 14, 15, 16, 17, 18, 19, 20, 21, 22]), ([true, false], false, [6, 7, 8, 9, 10, 6]), ([false, true], true, [0, 1, 2, 3, 4, 5, 7, 6, 8, 9, 10, 11, 12, 13, 14, 15, 16, 17, 18, 19, 20, 21, 22]), ([false, false], true, [0, 1, 2, 3, 4, 5, 7, 8, 9, 10, 6, 11, 12, 13, 14, 15, 16, 17, 18, 19, 20, 21, 22])]) (by kernel_rfl) (by kernel_rfl) (by kernel_rfl) (by kernel_rfl) (allO_t (Eq.mpr (F95_r1 E0 x2 x0 x1 hp _) ?_) (allO_f (allO_t (Eq.mpr (F95_r2 E0 x2 x0 x1 hp _) ?_) (allO_t (Eq.mpr (F95_r3 E0 x2 x0 x1 hp _) ?_) trivial)))) (Ru 2 (RefOk.p 3 3 0 (RefOk.p 4 4 0 Rn (fun e => by cases e)) (fun e => by cases e))) (Sc rfl (Sc rfl (Sc rfl Sn))) (Sc rfl (Sc rfl Sn))
 ·replace h := h.1
  refine mN h fun b_1 o_2 h => mV h fun v_3 h => mP h fun p_4 h => mN h fun b_5 o_6 h => mV h fun v_7 h => mS h fun a_8 n_9 c_10 h => mL h fun l_11 h => mC h fun u_12 h_13 h => mI h fun i_14 h => mN h fun b_15 o_16 h => mV h fun v_17 h => mP h fun p_18 h => mN h fun b_19 o_20 h => mV h fun v_21 h => mS h fun a_22 n_23 c_24 h => mL h fun l_25 h => mC h fun u_26 h_27 h => mI h fun i_28 h => mC h fun u_29 h_30 h => mI h fun i_31 h => mV h fun v_32 h => mI h fun i_33 h => mV h fun v_34 h => mI h fun i_35 h => mC h fun u_36 h_37 h => mI h fun i_38 h => ?_
  refine fun b_39 hb_b_39 => ?_
  replace h := h b_39 hb_b_39
  refine mC h fun u_40 h_41 h => mI h fun i_42 h => ?_
  refine AWP.ret ?_
  exact h
 ·replace h := h.2.1
  refine mN h fun b_43 o_44 h => mV h fun v_45 h => mP h fun p_46 h => mN h fun b_47 o_48 h => mV h fun v_49 h => mS h fun a_50 n_51 c_52 h => mL h fun l_53 h => mN h fun b_54 o_55 h => mV h fun v_56 h => mP h fun p_57 h => mC h fun u_58 h_59 h => mI h fun i_60 h => mN h fun b_61 o_62 h => mV h fun v_63 h => mS h fun a_64 n_65 c_66 h => mL h fun l_67 h => mC h fun u_68 h_69 h => mI h fun i_70 h => mC h fun u_71 h_72 h => mI h fun i_73 h => mV h fun v_74 h => mI h fun i_75 h => mV h fun v_76 h => mI h fun i_77 h => mC h fun u_78 h_79 h => mI h fun i_80 h => ?_
  refine fun b_81 hb_b_81 => ?_
  replace h := h b_81 hb_b_81
  refine mC h fun u_82 h_83 h => mI h fun i_84 h => ?_
  refine AWP.ret ?_
  exact h
 ·replace h := h.2.2
  refine mN h fun b_85 o_86 h => mV h fun v_87 h => mP h fun p_88 h => mN h fun b_89 o_90 h => mV h fun v_91 h => mS h fun a_92 n_93 c_94 h => mL h fun l_95 h => mN h fun b_96 o_97 h => mV h fun v_98 h => mP h fun p_99 h => mN h fun b_100 o_101 h => mV h fun v_102 h => mS h fun a_103 n_104 c_105 h => mC h fun u_106 h_107 h => mI h fun i_108 h => mL h fun l_109 h => mC h fun u_110 h_111 h => mI h fun i_112 h => mC h fun u_113 h_114 h => mI h fun i_115 h => mV h fun v_116 h => mI h fun i_117 h => mV h fun v_118 h => mI h fun i_119 h => mC h fun u_120 h_121 h => mI h fun i_122 h => ?_
  refine fun b_123 hb_b_123 => ?_
  replace h := h b_123 hb_b_123
  refine mC h fun u_124 h_125 h => mI h fun i_126 h => ?_
  refine AWP.ret ?_
  exact h
end
-- 96 cmp.Or[int]
section
variable (e : Env) (x0a : Option Addr) (x0n x0c : Nat) (x3 x5 : Int) (x6a : Option Addr) (x6n x6c : Nat) (x7 x8 : Int) (hp : HP) (K : Env → PV → HP → Prop)
abbrev R96 (p : List Nat) (n : Nat) := RW Try.prog 18 [] (opsAt Try.f96 p) (List.range n)
theorem F96_r0 : R96 [0] 1 e V0 hp K =
    (K (upd e 2 (sI 0)) V0 hp) := by kernel_rfl
theorem F96_r1 : R96 [1, 0] 1 e V0 hp K =
    (K (upd e 3 (sI 0)) V0 hp) := by kernel_rfl
theorem F96_r2 : R96 [1, 1, 1, 0] 2 (upd e 3 (sI x3)) V0 hp K =
    (K (upd (upd (upd e 3 (sI x3)) 17 (sI x3)) 2 (sI x3)) V0 hp) := by kernel_rfl
def F96_j1 (x3 : Int) (hp : HP) (K : Value → HP → Prop) : Prop :=
  (K (.int .i64 x3) hp)
theorem F96_r3 : R96 [1, 1, 0, 1, 0, 0, 0] 1 (upd (upd e 8 (sI x8)) 7 (sI x7)) V0 hp K =
    (K (upd (upd (upd e 8 (sI x8)) 7 (sI x7)) 9 (sB (decide (x8 < x7)))) V0 hp) := by kernel_rfl
theorem F96_r4 : R96 [1, 1, 0, 1, 0, 0, 1, 1, 0, 0, 0] 3 (upd (upd e 8 (sI x8)) 6 (sS x6a x6n x6c)) V0 hp K =
    ((0 ≤ x8) ∧ (x8 < x6n) ∧ (ptrN x6a fun b1 o2 => (ldV (HP.cell hp b1 (o2 + Int.toNat x8 * 1)) fun v3 => (intV v3 .i64 fun i4 => (K (upd (upd (upd (upd (upd e 8 (sI x8)) 6 (sS x6a x6n x6c)) 10 (sQ b1 (o2 + Int.toNat x8 * 1))) 11 (sI i4)) 5 (sI i4)) V0 hp))))) := by kernel_rfl
theorem F96_r5 : R96 [1, 1, 0, 1, 0, 0, 1, 1, 0, 0, 1, 0] 3 (upd (upd e 5 (sI x5)) 3 (sI x3)) V0 hp K =
    (K (upd (upd (upd (upd (upd e 5 (sI x5)) 3 (sI x3)) 12 (sI x5)) 13 (sI x3)) 14 (sB ((x5 != x3)))) V0 hp) := by kernel_rfl
theorem F96_r6 : R96 [1, 1, 0, 1, 0, 0, 1, 1, 0, 0, 1, 1, 0, 0] 2 (upd e 5 (sI x5)) V0 hp K =
    (K (upd (upd (upd e 5 (sI x5)) 15 (sI x5)) 2 (sI x5)) V0 hp) := by kernel_rfl
theorem F96_r7 : R96 [1, 1, 0, 1, 0, 0, 1, 1, 1] 2 (upd e 8 (sI x8)) V0 hp K =
    (K (upd (upd (upd e 8 (sI x8)) 16 (sI ((wr (x8 + 1))))) 8 (sI ((wr (x8 + 1))))) V0 hp) := by kernel_rfl
def F96_l3 (x3 : Int) (x6a : Option Addr) (x6n : Nat) (x6c : Nat) (x7 : Int) (K : Value → HP → Prop) (I3 : (Int) → HP → Prop) (x8 : Int) (hp : HP) : Prop :=
  (ite2 (decide (x8 < x7)) ((0 ≤ x8) ∧ (x8 < x6n) ∧ (ptrN x6a fun b_1 o_2 => (ldV (HP.cell hp b_1 (o_2 + Int.toNat x8 * 1)) fun v_3 => (intV v_3 .i64 fun i_4 => (ite2 (i_4 != x3) (K (.int .i64 i_4) hp) (I3 (IntKind.wrap .i64 (x8 + 1)) hp)))))) (F96_j1 x3 hp  K))
def F96_j2 (x3 : Int) (x6a : Option Addr) (x6n : Nat) (x6c : Nat) (x7 : Int) (x8 : Int) (hp : HP) (K : Value → HP → Prop) : Prop :=
  (LoopP (σ := Int) (fun I s hp => F96_l3 x3 x6a x6n x6c x7  K I s hp) x8 hp)
theorem F96_r8 : R96 [1, 1, 0, 0] 3 (upd e 0 (sS x0a x0n x0c)) V0 hp K =
    (K (upd (upd (upd (upd e 0 (sS x0a x0n x0c)) 6 (sS x0a x0n x0c)) 7 (sI ((x0n : Nat)))) 8 (sI 0)) V0 hp) := by kernel_rfl
def F96 (x0a : Option Addr) (x0n : Nat) (x0c : Nat) (hp : HP) (K : Value → HP → Prop) : Prop :=
  (F96_j2 0 x0a x0n x0c (x0n : Nat) 0 hp  K)
noncomputable def F96_code : Code := (.seq (.region 0 (opsAt Try.f96 [0]) false) (.seq (.region 1 (opsAt Try.f96 [1, 0]) false) (.seq (.seq (.region 2 (opsAt Try.f96 [1, 1, 0, 0]) false) (.block 0 (.loop (.seq (.region 3 (opsAt Try.f96 [1, 1, 0, 1, 0, 0, 0]) false) (.seq (.cond (.tmp 9) .skip (.exit 0)) (.seq (.block 1 (.seq (.region 4 (opsAt Try.f96 [1, 1, 0, 1, 0, 0, 1, 1, 0, 0, 0]) false) (.seq (.region 5 (opsAt Try.f96 [1, 1, 0, 1, 0, 0, 1, 1, 0, 0, 1, 0]) false) (.cond (.tmp 14) (.seq (.region 6 (opsAt Try.f96 [1, 1, 0, 1, 0, 0, 1, 1, 0, 0, 1, 1, 0, 0]) false) .ret) .skip)))) (.region 7 (opsAt Try.f96 [1, 1, 0, 1, 0, 0, 1, 1, 1]) false))))))) (.seq (.region 8 (opsAt Try.f96 [1, 1, 1, 0]) false) .ret))))
theorem F96_body : Try.f96.body = some F96_code := by kernel_rfl
theorem F96_ok (x0a : Option Addr) (x0n : Nat) (x0c : Nat) (hp : HP) (K : Value → HP → Prop) (h : F96 x0a x0n x0c hp K) : CF Try.prog 96 [(.slice x0a x0n x0c)] hp K := by
 refine .inl ⟨by kernel_rfl, AC.intro (N := 18) Try.func96 F96_body rfl (Nat.le_of_ble_eq_true rfl) ?_⟩
 unfold F96 at h
 unfold F96_code
 refine AWP.seq' ?_
 refine AWP.rgn (F96_r0 (upd E0 0 (sS x0a x0n x0c))  hp _) ?_ (Ru 0 Rn) (Sc rfl Sn) Sn
 refine AWP.seq' ?_
 refine AWP.rgn (F96_r1 (upd E0 0 (sS x0a x0n x0c))  hp _) ?_ (Ru 0 Rn) (Sc rfl Sn) Sn
 refine AWP.seq (fun env pv hp => ∃ (x3 : Int), Sub (upd E0 3 (sI x3)) env ∧ Sub V0 pv ∧ (F96_j1 x3 hp  K)) ?_ ?_
 ·refine AWP.seq (fun env pv hp => ∃ (x3 : Int) (x6a : Option Addr) (x6n : Nat) (x6c : Nat) (x7 : Int) (x8 : Int), Sub (upd (upd (upd (upd E0 8 (sI x8)) 7 (sI x7)) 6 (sS x6a x6n x6c)) 3 (sI x3)) env ∧ Sub V0 pv ∧ (F96_j2 x3 x6a x6n x6c x7 x8 hp  K)) ?_ ?_
  ·refine AWP.rgn (F96_r8 (upd E0 3 (sI 0)) x0a x0n x0c hp _) ?_ (Ru 0 (Ru 3 Rn)) (Sc rfl (Sc rfl Sn)) Sn
   exact ⟨0, x0a, x0n, x0c, (x0n : Nat), 0, (Sc rfl (Sc rfl (Sc rfl (Sc rfl Sn)))), Sn, h⟩
  ·rintro env pv hp ⟨x3, x6a, x6n, x6c, x7, x8, he, hv, h⟩
   refine AWP.sub (env' := (upd (upd (upd (upd E0 8 (sI x8)) 7 (sI x7)) 6 (sS x6a x6n x6c)) 3 (sI x3))) (pv' := V0) ?_ (Ru 3 (Ru 6 (Ru 7 (Ru 8 Rn)))) he hv (HSub.refl _)
   clear he hv
   unfold F96_j2 at h
   refine AWP.block ?_
   refine AWP.loop (σ := Int) (fun I s hp => F96_l3 x3 x6a x6n x6c x7  K I s hp) (fun s => (upd (upd (upd (upd E0 8 (sI s)) 7 (sI x7)) 6 (sS x6a x6n x6c)) 3 (sI x3))) (fun s => V0) x8 h (fun s => (Ru 3 (Ru 6 (Ru 7 (Ru 8 Rn))))) (Sc rfl (Sc rfl (Sc rfl (Sc rfl Sn)))) Sn ?_
   intro I3 s hp h
   obtain ⟨x8, hs⟩ : ∃ x, x = s := ⟨s, rfl⟩
   subst hs
   replace h : F96_l3 x3 x6a x6n x6c x7  K I3 x8 hp := h
   unfold F96_l3 at h
   refine AWP.seq' ?_
   refine AWP.rgn (F96_r3 (upd (upd E0 6 (sS x6a x6n x6c)) 3 (sI x3)) x7 x8 hp _) ?_ (Ru 7 (Ru 8 (Ru 3 (Ru 6 Rn)))) (Sc rfl (Sc rfl (Sc rfl (Sc rfl Sn)))) Sn
   refine AWP.seq' ?_
   refine AWP.cond (t := (decide (x8 < x7))) rfl (fun e => ?_) (fun e => ?_)
   ·replace h := ite2_t h e
    refine AWP.skip ?_
    refine AWP.seq' ?_
    refine AWP.block ?_
    refine AWP.seq' ?_
    refine AWP.rgn (F96_r4 (upd (upd E0 7 (sI x7)) 3 (sI x3)) x6a x6n x6c x8 hp _) ?_ (Ru 6 (Ru 8 (Ru 3 (Ru 7 Rn)))) (Sc rfl (Sc rfl (Sc rfl (Sc rfl Sn)))) Sn
    refine ⟨h.1, h.2.1, mN h.2.2 fun b_1 o_2 h => mV h fun v_3 h => mI h fun i_4 h => ?_⟩
    refine AWP.seq' ?_
    refine AWP.rgn (F96_r5 (upd (upd (upd E0 8 (sI x8)) 7 (sI x7)) 6 (sS x6a x6n x6c)) x3 i_4 hp _) ?_ (Ru 3 (Ru 5 (Ru 6 (Ru 7 (Ru 8 Rn))))) (Sc rfl (Sc rfl (Sc rfl (Sc rfl (Sc rfl Sn))))) Sn
    refine AWP.cond (t := (i_4 != x3)) rfl (fun e => ?_) (fun e => ?_)
    ·replace h := ite2_t h e
     refine AWP.seq' ?_
     refine AWP.rgn (F96_r6 E0 i_4 hp _) ?_ (Ru 5 Rn) (Sc rfl Sn) Sn
     refine AWP.ret ?_
     exact h
    ·replace h := ite2_f h e
     refine AWP.skip ?_
     refine AWP.rgn (F96_r7 (upd (upd (upd E0 7 (sI x7)) 6 (sS x6a x6n x6c)) 3 (sI x3)) x8 hp _) ?_ (Ru 8 (Ru 3 (Ru 6 (Ru 7 Rn)))) (Sc rfl (Sc rfl (Sc rfl (Sc rfl Sn)))) Sn
     exact ⟨(wr (x8 + 1)), (Sc rfl (Sc rfl (Sc rfl (Sc rfl Sn)))), Sn, h⟩
   ·replace h := ite2_f h e
    refine AWP.exit ?_
    exact ⟨x3, (Sc rfl Sn), Sn, h⟩
 ·rintro env pv hp ⟨x3, he, hv, h⟩
  refine AWP.sub (env' := (upd E0 3 (sI x3))) (pv' := V0) ?_ (Ru 3 Rn) he hv (HSub.refl _)
  clear he hv
  unfold F96_j1 at h
  refine AWP.seq' ?_
  refine AWP.rgn (F96_r2 E0 x3 hp _) ?_ (Ru 3 Rn) (Sc rfl Sn) Sn
  refine AWP.ret ?_
  exact h
end
-- 97 cmp.Compare[int]
section
variable (e : Env) (x0 x1 : Int) (x5 x6 : Bool) (hp : HP) (K : Env → PV → HP → Prop)
abbrev R97 (p : List Nat) (n : Nat) := RW Try.prog 20 [] (opsAt Try.f97 p) (List.range n)
theorem F97_r0 : R97 [0] 1 e V0 hp K =
    (K (upd e 4 (sI 0)) V0 hp) := by kernel_rfl
theorem F97_r1 : R97 [1, 0] 3 (upd e 0 (sI x0)) V0 hp K =
    (CF Try.prog 131 [(.int .i64 x0)] hp fun u1 h2 => (boolV u1 fun q3 => (K (upd (upd (upd (upd e 0 (sI x0)) 7 (sI x0)) 8 (sB q3)) 5 (sB q3)) V0 h2))) := by kernel_rfl
theorem F97_r2 : R97 [1, 1, 0] 3 (upd e 1 (sI x1)) V0 hp K =
    (CF Try.prog 131 [(.int .i64 x1)] hp fun u1 h2 => (boolV u1 fun q3 => (K (upd (upd (upd (upd e 1 (sI x1)) 9 (sI x1)) 10 (sB q3)) 6 (sB q3)) V0 h2))) := by kernel_rfl
theorem F97_r3 : R97 [1, 1, 1, 0, 0] 1 (upd e 5 (sB x5)) V0 hp K =
    (K (upd (upd e 5 (sB x5)) 11 (sB x5)) V0 hp) := by kernel_rfl
theorem F97_r4 : R97 [1, 1, 1, 0, 1, 0, 0, 0] 1 (upd e 6 (sB x6)) V0 hp K =
    (K (upd (upd e 6 (sB x6)) 12 (sB x6)) V0 hp) := by kernel_rfl
theorem F97_r5 : R97 [1, 1, 1, 0, 1, 0, 0, 1, 0, 0] 1 e V0 hp K =
    (K (upd e 4 (sI 0)) V0 hp) := by kernel_rfl
theorem F97_r6 : R97 [1, 1, 1, 0, 1, 0, 1, 0] 1 e V0 hp K =
    (K (upd e 4 (sI ((-1)))) V0 hp) := by kernel_rfl
theorem F97_r7 : R97 [1, 1, 1, 1, 0, 0] 1 (upd e 6 (sB x6)) V0 hp K =
    (K (upd (upd e 6 (sB x6)) 13 (sB x6)) V0 hp) := by kernel_rfl
theorem F97_r8 : R97 [1, 1, 1, 1, 0, 1, 0, 0] 1 e V0 hp K =
    (K (upd e 4 (sI 1)) V0 hp) := by kernel_rfl
theorem F97_r9 : R97 [1, 1, 1, 1, 1, 0, 0] 3 (upd (upd e 1 (sI x1)) 0 (sI x0)) V0 hp K =
    (K (upd (upd (upd (upd (upd e 1 (sI x1)) 0 (sI x0)) 14 (sI x0)) 15 (sI x1)) 16 (sB (decide (x0 < x1)))) V0 hp) := by kernel_rfl
theorem F97_r10 : R97 [1, 1, 1, 1, 1, 0, 1, 0, 0] 1 e V0 hp K =
    (K (upd e 4 (sI ((-1)))) V0 hp) := by kernel_rfl
theorem F97_r11 : R97 [1, 1, 1, 1, 1, 1, 0, 0] 3 (upd (upd e 1 (sI x1)) 0 (sI x0)) V0 hp K =
    (K (upd (upd (upd (upd (upd e 1 (sI x1)) 0 (sI x0)) 17 (sI x0)) 18 (sI x1)) 19 (sB (decide (x0 > x1)))) V0 hp) := by kernel_rfl
theorem F97_r12 : R97 [1, 1, 1, 1, 1, 1, 0, 1, 0, 0] 1 e V0 hp K =
    (K (upd e 4 (sI 1)) V0 hp) := by kernel_rfl
theorem F97_r13 : R97 [1, 1, 1, 1, 1, 1, 1, 0] 1 e V0 hp K =
    (K (upd e 4 (sI 0)) V0 hp) := by kernel_rfl
def F97 (x0 : Int) (x1 : Int) (hp : HP) (K : Value → HP → Prop) : Prop :=
  (CF Try.prog 131 [(.int .i64 x0)] hp fun u_1 h_2 => (boolV u_1 fun q_3 => (CF Try.prog 131 [(.int .i64 x1)] h_2 fun u_4 h_5 => (boolV u_4 fun q_6 => (ite2 q_3 (ite2 q_6 (K (.int .i64 0) h_5) (K (.int .i64 (-1)) h_5)) (ite2 q_6 (K (.int .i64 1) h_5) (ite2 (decide (x0 < x1)) (K (.int .i64 (-1)) h_5) (ite2 (decide (x0 > x1)) (K (.int .i64 1) h_5) (K (.int .i64 0) h_5)))))))))
noncomputable def F97_code : Code := (.seq (.region 0 (opsAt Try.f97 [0]) false) (.seq (.region 1 (opsAt Try.f97 [1, 0]) false) (.seq (.region 2 (opsAt Try.f97 [1, 1, 0]) false) (.seq (.seq (.region 3 (opsAt Try.f97 [1, 1, 1, 0, 0]) false) (.cond (.tmp 11) (.seq (.seq (.region 4 (opsAt Try.f97 [1, 1, 1, 0, 1, 0, 0, 0]) false) (.cond (.tmp 12) (.seq (.region 5 (opsAt Try.f97 [1, 1, 1, 0, 1, 0, 0, 1, 0, 0]) false) .ret) .skip)) (.seq (.region 6 (opsAt Try.f97 [1, 1, 1, 0, 1, 0, 1, 0]) false) .ret)) .skip)) (.seq (.seq (.region 7 (opsAt Try.f97 [1, 1, 1, 1, 0, 0]) false) (.cond (.tmp 13) (.seq (.region 8 (opsAt Try.f97 [1, 1, 1, 1, 0, 1, 0, 0]) false) .ret) .skip)) (.seq (.seq (.region 9 (opsAt Try.f97 [1, 1, 1, 1, 1, 0, 0]) false) (.cond (.tmp 16) (.seq (.region 10 (opsAt Try.f97 [1, 1, 1, 1, 1, 0, 1, 0, 0]) false) .ret) .skip)) (.seq (.seq (.region 11 (opsAt Try.f97 [1, 1, 1, 1, 1, 1, 0, 0]) false) (.cond (.tmp 19) (.seq (.region 12 (opsAt Try.f97 [1, 1, 1, 1, 1, 1, 0, 1, 0, 0]) false) .ret) .skip)) (.seq (.region 13 (opsAt Try.f97 [1, 1, 1, 1, 1, 1, 1, 0]) false) .ret))))))))
theorem F97_body : Try.f97.body = some F97_code := by kernel_rfl
theorem F97_ok (x0 : Int) (x1 : Int) (hp : HP) (K : Value → HP → Prop) (h : F97 x0 x1 hp K) : CF Try.prog 97 [(.int .i64 x0), (.int .i64 x1)] hp K := by
 refine .inl ⟨by kernel_rfl, AC.intro (N := 20) Try.func97 F97_body rfl (Nat.le_of_ble_eq_true rfl) ?_⟩
 unfold F97 at h
 unfold F97_code
 refine AWP.seq' ?_
 refine AWP.rgn (F97_r0 (upd (upd E0 1 (sI x1)) 0 (sI x0))  hp _) ?_ (Ru 0 (Ru 1 Rn)) (Sc rfl (Sc rfl Sn)) Sn
 refine AWP.seq' ?_
 refine AWP.rgn (F97_r1 (upd E0 1 (sI x1)) x0 hp _) ?_ (Ru 0 (Ru 1 Rn)) (Sc rfl (Sc rfl Sn)) Sn
 refine mC h fun u_1 h_2 h => mB h fun q_3 h => ?_
 refine AWP.seq' ?_
 refine AWP.rgn (F97_r2 (upd (upd E0 5 (sB q_3)) 0 (sI x0)) x1 h_2 _) ?_ (Ru 1 (Ru 0 (Ru 5 Rn))) (Sc rfl (Sc rfl (Sc rfl Sn))) Sn
 refine mC h fun u_4 h_5 h => mB h fun q_6 h => ?_
 refine AWP.seq' ?_
 refine AWP.seq' ?_
 refine AWP.rgn (F97_r3 (upd (upd (upd E0 6 (sB q_6)) 1 (sI x1)) 0 (sI x0)) q_3 h_5 _) ?_ (Ru 5 (Ru 0 (Ru 1 (Ru 6 Rn)))) (Sc rfl (Sc rfl (Sc rfl (Sc rfl Sn)))) Sn
 refine AWP.cond (t := q_3) rfl (fun e => ?_) (fun e => ?_)
 ·replace h := ite2_t h e
  refine AWP.seq' ?_
  refine AWP.seq' ?_
  refine AWP.rgn (F97_r4 E0 q_6 h_5 _) ?_ (Ru 6 Rn) (Sc rfl Sn) Sn
  refine AWP.cond (t := q_6) rfl (fun e => ?_) (fun e => ?_)
  ·replace h := ite2_t h e
   refine AWP.seq' ?_
   refine AWP.rgn (F97_r5 E0  h_5 _) ?_ Rn Sn Sn
   refine AWP.ret ?_
   exact h
  ·replace h := ite2_f h e
   refine AWP.skip ?_
   refine AWP.seq' ?_
   refine AWP.rgn (F97_r6 E0  h_5 _) ?_ Rn Sn Sn
   refine AWP.ret ?_
   exact h
 ·replace h := ite2_f h e
  refine AWP.skip ?_
  refine AWP.seq' ?_
  refine AWP.seq' ?_
  refine AWP.rgn (F97_r7 (upd (upd E0 1 (sI x1)) 0 (sI x0)) q_6 h_5 _) ?_ (Ru 6 (Ru 0 (Ru 1 Rn))) (Sc rfl (Sc rfl (Sc rfl Sn))) Sn
  refine AWP.cond (t := q_6) rfl (fun e => ?_) (fun e => ?_)
  ·replace h := ite2_t h e
   refine AWP.seq' ?_
   refine AWP.rgn (F97_r8 E0  h_5 _) ?_ Rn Sn Sn
   refine AWP.ret ?_
   exact h
  ·replace h := ite2_f h e
   refine AWP.skip ?_
   refine AWP.seq' ?_
   refine AWP.seq' ?_
   refine AWP.rgn (F97_r9 E0 x0 x1 h_5 _) ?_ (Ru 0 (Ru 1 Rn)) (Sc rfl (Sc rfl Sn)) Sn
   refine AWP.cond (t := (decide (x0 < x1))) rfl (fun e => ?_) (fun e => ?_)
   ·replace h := ite2_t h e
    refine AWP.seq' ?_
    refine AWP.rgn (F97_r10 E0  h_5 _) ?_ Rn Sn Sn
    refine AWP.ret ?_
    exact h
   ·replace h := ite2_f h e
    refine AWP.skip ?_
    refine AWP.seq' ?_
    refine AWP.seq' ?_
    refine AWP.rgn (F97_r11 E0 x0 x1 h_5 _) ?_ (Ru 0 (Ru 1 Rn)) (Sc rfl (Sc rfl Sn)) Sn
    refine AWP.cond (t := (decide (x0 > x1))) rfl (fun e => ?_) (fun e => ?_)
    ·replace h := ite2_t h e
     refine AWP.seq' ?_
     refine AWP.rgn (F97_r12 E0  h_5 _) ?_ Rn Sn Sn
     refine AWP.ret ?_
     exact h
    ·replace h := ite2_f h e
     refine AWP.skip ?_
     refine AWP.seq' ?_
     refine AWP.rgn (F97_r13 E0  h_5 _) ?_ Rn Sn Sn
     refine AWP.ret ?_
     exact h
end
-- 131 cmp.isNaN[int]
section
variable (e : Env) (x0 : Int) (hp : HP) (K : Env → PV → HP → Prop)
abbrev R131 (p : List Nat) (n : Nat) := RW Try.prog 6 [] (opsAt Try.f131 p) (List.range n)
theorem F131_r0 : R131 [0] 1 e V0 hp K =
    (K (upd e 2 (sB false)) V0 hp) := by kernel_rfl
theorem F131_r1 : R131 [1, 0] 4 (upd e 0 (sI x0)) V0 hp K =
    (K (upd (upd (upd (upd (upd e 0 (sI x0)) 3 (sI x0)) 4 (sI x0)) 5 (sB ((x0 != x0)))) 2 (sB ((x0 != x0)))) V0 hp) := by kernel_rfl
def F131 (x0 : Int) (hp : HP) (K : Value → HP → Prop) : Prop :=
  (K (.bool (x0 != x0)) hp)
noncomputable def F131_code : Code := (.seq (.region 0 (opsAt Try.f131 [0]) false) (.seq (.region 1 (opsAt Try.f131 [1, 0]) false) .ret))
theorem F131_body : Try.f131.body = some F131_code := by kernel_rfl
theorem F131_ok (x0 : Int) (hp : HP) (K : Value → HP → Prop) (h : F131 x0 hp K) : CF Try.prog 131 [(.int .i64 x0)] hp K := by
 refine .inl ⟨by kernel_rfl, AC.intro (N := 6) Try.func131 F131_body rfl (Nat.le_of_ble_eq_true rfl) ?_⟩
 unfold F131 at h
 unfold F131_code
 refine AWP.seq' ?_
 refine AWP.rgn (F131_r0 (upd E0 0 (sI x0))  hp _) ?_ (Ru 0 Rn) (Sc rfl Sn) Sn
 refine AWP.seq' ?_
 refine AWP.rgn (F131_r1 E0 x0 hp _) ?_ (Ru 0 Rn) (Sc rfl Sn) Sn
 refine AWP.ret ?_
 exact h
end
end Go.Proofs

namespace Go.HL
open Go

theorem wi {x : Int} {i : Nat} (h : x = i) (hb : i ≤ 9223372036854775807) : IntKind.wrap .i64 x = i := by rw [h]; exact w64 (by omega) (by omega)

section
variable {α : Type} {hp0 : HP} {b : Nat} {e : TypeId} {sp : Nat} {en : α → List Value} {d : Array α}
theorem HA.set_comm {r : Nat} (hr : r ≠ b) (x : Ent) : (HA hp0 b e sp en d).set r x = HA (hp0.set r x) b e sp en d := by
  unfold HA; rw [HP.set_comm _ _ _ hr]
theorem HA.ne_of_none {r : Nat} (h : HA hp0 b e sp en d r = .none) : r ≠ b ∧ hp0 r = .none := by
  have hb : r ≠ b := fun e => by unfold HA at h; rw [e, HP.set_eq] at h; cases h
  refine ⟨hb, ?_⟩
  unfold HA at h
  rwa [HP.set_ne _ _ hb] at h
theorem HA.ne {r : Nat} (h : r ≠ b) : HA hp0 b e sp en d r = hp0 r := by
  unfold HA; rw [HP.set_ne _ _ h]

end

section
variable {α : Type} [Inhabited α] {P : Program} {f : FuncId} {ga gb : List Value} {hp0 : HP} {b : Nat} {e : TypeId} {sp size : Nat} {en : α → List Value} {n : Nat} {cf : α → α → Int} {d : Array α}

theorem cmpP (hc : CmpOk P f ga gb hp0 b e sp en n cf) (he : ∀ x, (en x).length = size) {I J : Int} {i j : Nat} {X : Int → HP → Prop} (hs : d.size = n) (hI : I = i) (hJ : J = j) (hi : i < n) (hj : j < n)
    (h : X (cf d[i]! d[j]!) (HA hp0 b e sp en d)) :
    ((0 ≤ I) ∧ (I < (n : Nat)) ∧ (ptrN (some ⟨b, 0, none⟩) fun b1 o2 => (ldL (HP.cellN (HA hp0 b e sp en d) b1 (o2 + Int.toNat I * size) size) fun l3 => ((0 ≤ J) ∧ (J < (n : Nat)) ∧ (ptrN (some ⟨b, 0, none⟩) fun b4 o5 => (ldL (HP.cellN (HA hp0 b e sp en d) b4 (o5 + Int.toNat J * size) size) fun l6 =>
      (fnV (.func (.func f) ⟨ga⟩ ⟨gb⟩) fun f7 ga8 gb9 => (CF P f7 (ga8 ++ [(Value.agg ⟨l3⟩), (Value.agg ⟨l6⟩)] ++ gb9) (HA hp0 b e sp en d) fun u10 h11 => (intV u10 .i64 fun i12 => X i12 h11))))))))) := by
  subst hI hJ
  have g1 := HA.get (hp0 := hp0) (b := b) (e := e) (sp := sp) he (d := d) (i := i) (by omega)
  have g2 := HA.get (hp0 := hp0) (b := b) (e := e) (sp := sp) he (d := d) (i := j) (by omega)
  simp only [ptrN_some, Int.toNat_natCast, g1, g2, ldL_some, fnV_mk]
  refine ⟨by omega, by omega, by omega, by omega, ?_⟩
  refine hc d _ _ _ hs ?_
  rw [intV_int]
  exact h

theorem swapP (he : ∀ x, (en x).length = size) (h1 : ∀ x, (en x).all one = true) {I J : Int} {i j : Nat} {X : HP → Prop} (hs : d.size = n) (hI : I = i) (hJ : J = j) (hi : i < n) (hj : j < n)
    (h : X (HA hp0 b e sp en (Sort.swp d i j))) :
    ((0 ≤ J) ∧ (J < (n : Nat)) ∧ (ptrN (some ⟨b, 0, none⟩) fun b1 o2 => (ldL (HP.cellN (HA hp0 b e sp en d) b1 (o2 + Int.toNat J * size) size) fun l3 => ((0 ≤ I) ∧ (I < (n : Nat)) ∧ (ptrN (some ⟨b, 0, none⟩) fun b4 o5 => (ldL (HP.cellN (HA hp0 b e sp en d) b4 (o5 + Int.toNat I * size) size) fun l6 =>
      ((0 ≤ I) ∧ (I < (n : Nat)) ∧ (ptrN (some ⟨b, 0, none⟩) fun b7 o8 => ((List.length l3 = size) ∧ (HP.stN (HA hp0 b e sp en d) b7 (o8 + Int.toNat I * size) l3 fun h9 => ((0 ≤ J) ∧ (J < (n : Nat)) ∧ (ptrN (some ⟨b, 0, none⟩) fun b10 o11 => ((List.length l6 = size) ∧ (HP.stN h9 b10 (o11 + Int.toNat J * size) l6 fun h12 => X h12)))))))))))))) := by
  subst hI hJ
  have g1 := HA.get (hp0 := hp0) (b := b) (e := e) (sp := sp) he (d := d) (i := i) (by omega)
  have g2 := HA.get (hp0 := hp0) (b := b) (e := e) (sp := sp) he (d := d) (i := j) (by omega)
  simp only [ptrN_some, Int.toNat_natCast, g1, g2, ldL_some]
  refine ⟨by omega, by omega, by omega, by omega, by omega, by omega, he _, ?_⟩
  refine HA.st he h1 (by omega) _ ?_
  refine ⟨by omega, by omega, he _, ?_⟩
  refine HA.st he h1 (by rw [Array.size_setIfInBounds]; omega) _ ?_
  exact h

/-- A comparison that holds whatever else is known. -/
def CmpX (P : Program) (f : FuncId) (ga gb : List Value) (hp0 : HP) (b : Nat) (e : TypeId) (sp : Nat) (en : α → List Value) (n : Nat) (cf : α → α → Int) : Prop :=
  ∀ hp1, HSub hp0 hp1 → CmpOk P f ga gb hp1 b e sp en n cf

theorem CmpX.sub {hp1 : HP} (h : CmpX P f ga gb hp0 b e sp en n cf) (hs : HSub hp0 hp1) : CmpX P f ga gb hp1 b e sp en n cf := fun hp2 h2 => h hp2 (hs.trans h2)
theorem CmpX.ok (h : CmpX P f ga gb hp0 b e sp en n cf) : CmpOk P f ga gb hp0 b e sp en n cf := h hp0 (HSub.refl _)
end
end Go.HL

