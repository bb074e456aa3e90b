/- Parts of the proof of OnceProof: the logic of what is known of memory, functions' contracts. -/
import Derived.Test.YtidoceleobdkmaaQOnceProofA
import Derived.Test.YtidoceleobdkmaaHlAbb
import Derived.Test.YtidoceleobdkmaaProg
import Derived.Sort.LotB
import Derived.Sort.LotC
import Derived.Sort.LotA
set_option linter.unusedVariables false
set_option maxRecDepth 20000
namespace Go.Proofs
open Go Go.HL
-- 146 slices.insertionSortCmpFunc[interpreter/expiry.thing]
theorem F146_r0 (e : Env) (x2 : Int) (x8 : Int) (hp : HP) (K : Env → PV → HP → Prop) : RW Try.prog 53 [] (opsAt Try.f146 [1, 0, 0, 0, 0]) (List.range 3) (upd (upd e 8 (sI (x8))) 2 (sI (x2))) V0 hp K =
    (K (upd (upd (upd (upd (upd e 8 (sI (x8))) 2 (sI (x2))) 12 (sI (x8))) 13 (sI (x2))) 14 (sB ((decide ((x8 : Int) < x2))))) V0 hp) := by kernel_rfl
theorem F146_r1 (e : Env) (x8 : Int) (hp : HP) (K : Env → PV → HP → Prop) : RW Try.prog 53 [] (opsAt Try.f146 [1, 0, 0, 1, 1]) (List.range 3) (upd e 8 (sI (x8))) V0 hp K =
    (K (upd (upd (upd (upd e 8 (sI (x8))) 15 (sI (x8))) 16 (sI ((IntKind.wrap .i64 (x8 + 1))))) 8 (sI ((IntKind.wrap .i64 (x8 + 1))))) V0 hp) := by kernel_rfl
def F146_j3 (x0a : Option Addr) (x0n : Nat) (x0c : Nat) (x1 : Int) (x2 : Int) (x3 : Value) (x8 : Int) (hp : HP) (I2 : (Int) → HP → Prop) (K : Value → HP → Prop) : Prop :=
  (I2 (IntKind.wrap .i64 (x8 + 1)) hp)
theorem F146_r2 (e : Env) (x0a : Option Addr) (x0n : Nat) (x0c : Nat) (x9 : Int) (hp : HP) (K : Env → PV → HP → Prop) : RW Try.prog 53 [] (opsAt Try.f146 [1, 0, 0, 1, 0, 0, 1, 0, 0, 1, 0, 0]) (List.range 18) (upd (upd e 9 (sI (x9))) 0 (sV (Value.slice x0a x0n x0c))) V0 hp K =
    ((0 ≤ ((IntKind.wrap .i64 (x9 - 1)) : Int)) ∧ (((IntKind.wrap .i64 (x9 - 1)) : Int) < (x0n : Nat)) ∧ (ptrN x0a fun b1 o2 => (ldL (HP.cellN hp b1 (o2 + Int.toNat (IntKind.wrap .i64 (x9 - 1)) * 2) 2) fun l3 => ((0 ≤ (x9 : Int)) ∧ ((x9 : Int) < (x0n : Nat)) ∧ (ptrN x0a fun b4 o5 => (ldL (HP.cellN hp b4 (o5 + Int.toNat x9 * 2) 2) fun l6 => ((0 ≤ (x9 : Int)) ∧ ((x9 : Int) < (x0n : Nat)) ∧ (ptrN x0a fun b7 o8 => ((List.length l3 = 2) ∧ (HP.stN hp b7 (o8 + Int.toNat x9 * 2) l3 fun h9 => ((0 ≤ ((IntKind.wrap .i64 (x9 - 1)) : Int)) ∧ (((IntKind.wrap .i64 (x9 - 1)) : Int) < (x0n : Nat)) ∧ (ptrN x0a fun b10 o11 => ((List.length l6 = 2) ∧ (HP.stN h9 b10 (o11 + Int.toNat (IntKind.wrap .i64 (x9 - 1)) * 2) l6 fun h12 => (K (upd (upd (upd (upd (upd (upd (upd (upd (upd (upd (upd (upd (upd (upd (upd (upd (upd (upd e 9 (sI (x9))) 0 (sV (Value.slice x0a x0n x0c))) 37 (sV (Value.slice x0a x0n x0c))) 38 (sI (x9))) 39 (sV (Value.slice x0a x0n x0c))) 40 (sI (x9))) 41 (sI ((IntKind.wrap .i64 (x9 - 1))))) 42 (sV (Value.slice x0a x0n x0c))) 43 (sI (x9))) 44 (sI ((IntKind.wrap .i64 (x9 - 1))))) 45 (sV (ptr b1 (o2 + Int.toNat (IntKind.wrap .i64 (x9 - 1)) * 2)))) 46 (sV (Value.agg ⟨l3⟩))) 47 (sV (Value.slice x0a x0n x0c))) 48 (sI (x9))) 49 (sV (ptr b4 (o5 + Int.toNat x9 * 2)))) 50 (sV (Value.agg ⟨l6⟩))) 51 (sV (ptr b7 (o8 + Int.toNat x9 * 2)))) 52 (sV (ptr b10 (o11 + Int.toNat (IntKind.wrap .i64 (x9 - 1)) * 2)))) V0 h12))))))))))))))) := by kernel_rfl
theorem F146_r3 (e : Env) (x9 : Int) (hp : HP) (K : Env → PV → HP → Prop) : RW Try.prog 53 [] (opsAt Try.f146 [1, 0, 0, 1, 0, 0, 1, 0, 0, 1, 1]) (List.range 3) (upd e 9 (sI (x9))) V0 hp K =
    (K (upd (upd (upd (upd e 9 (sI (x9))) 35 (sI (x9))) 36 (sI ((IntKind.wrap .i64 (x9 - 1))))) 9 (sI ((IntKind.wrap .i64 (x9 - 1))))) V0 hp) := by kernel_rfl
def F146_j6 (x0a : Option Addr) (x0n : Nat) (x0c : Nat) (x1 : Int) (x2 : Int) (x3 : Value) (x8 : Int) (x9 : Int) (x34 : Bool) (hp : HP) (I2 : (Int) → HP → Prop) (I5 : (Int) → HP → Prop) (K : Value → HP → Prop) : Prop :=
  (ite2 x34 ((0 ≤ ((IntKind.wrap .i64 (x9 - 1)) : Int)) ∧ (((IntKind.wrap .i64 (x9 - 1)) : Int) < (x0n : Nat)) ∧ (ptrN x0a fun b_1 o_2 => (ldL (HP.cellN hp b_1 (o_2 + Int.toNat (IntKind.wrap .i64 (x9 - 1)) * 2) 2) fun l_3 => ((0 ≤ (x9 : Int)) ∧ ((x9 : Int) < (x0n : Nat)) ∧ (ptrN x0a fun b_4 o_5 => (ldL (HP.cellN hp b_4 (o_5 + Int.toNat x9 * 2) 2) fun l_6 => ((0 ≤ (x9 : Int)) ∧ ((x9 : Int) < (x0n : Nat)) ∧ (ptrN x0a fun b_7 o_8 => ((List.length l_3 = 2) ∧ (HP.stN hp b_7 (o_8 + Int.toNat x9 * 2) l_3 fun h_9 => ((0 ≤ ((IntKind.wrap .i64 (x9 - 1)) : Int)) ∧ (((IntKind.wrap .i64 (x9 - 1)) : Int) < (x0n : Nat)) ∧ (ptrN x0a fun b_10 o_11 => ((List.length l_6 = 2) ∧ (HP.stN h_9 b_10 (o_11 + Int.toNat (IntKind.wrap .i64 (x9 - 1)) * 2) l_6 fun h_12 => (I5 (IntKind.wrap .i64 (x9 - 1)) h_12))))))))))))))) (F146_j3 x0a x0n x0c x1 x2 x3 x8 hp I2 K))
theorem F146_r4 (e : Env) (x0a : Option Addr) (x0n : Nat) (x0c : Nat) (x1 : Int) (x3 : Value) (x9 : Int) (hp : HP) (K : Env → PV → HP → Prop) : RW Try.prog 53 [] (opsAt Try.f146 [1, 0, 0, 1, 0, 0, 1, 0, 0, 0, 0]) (List.range 17) (upd (upd (upd (upd e 9 (sI (x9))) 3 (sV x3)) 1 (sI (x1))) 0 (sV (Value.slice x0a x0n x0c))) V0 hp K =
    (ite2 (decide ((x9 : Int) > x1)) ((0 ≤ (x9 : Int)) ∧ ((x9 : Int) < (x0n : Nat)) ∧ (ptrN x0a fun b1 o2 => (ldL (HP.cellN hp b1 (o2 + Int.toNat x9 * 2) 2) fun l3 => ((0 ≤ ((IntKind.wrap .i64 (x9 - 1)) : Int)) ∧ (((IntKind.wrap .i64 (x9 - 1)) : Int) < (x0n : Nat)) ∧ (ptrN x0a fun b4 o5 => (ldL (HP.cellN hp b4 (o5 + Int.toNat (IntKind.wrap .i64 (x9 - 1)) * 2) 2) fun l6 => (fnV x3 fun f7 ga8 gb9 => (CF Try.prog f7 (ga8 ++ [(Value.agg ⟨l3⟩), (Value.agg ⟨l6⟩)] ++ gb9) hp fun u10 h11 => (intV u10 .i64 fun i12 => (K (upd (upd (upd (upd (upd (upd (upd (upd (upd (upd (upd (upd (upd (upd (upd (upd (upd (upd (upd (upd (upd e 9 (sI (x9))) 3 (sV x3)) 1 (sI (x1))) 0 (sV (Value.slice x0a x0n x0c))) 18 (sI (x9))) 19 (sI (x1))) 20 (sB ((decide ((x9 : Int) > x1))))) 21 (sB (true))) 22 (sV x3)) 23 (sV (Value.slice x0a x0n x0c))) 24 (sI (x9))) 25 (sV (ptr b1 (o2 + Int.toNat x9 * 2)))) 26 (sV (Value.agg ⟨l3⟩))) 27 (sV (Value.slice x0a x0n x0c))) 28 (sI (x9))) 29 (sI ((IntKind.wrap .i64 (x9 - 1))))) 30 (sV (ptr b4 (o5 + Int.toNat (IntKind.wrap .i64 (x9 - 1)) * 2)))) 31 (sV (Value.agg ⟨l6⟩))) 32 (sI (i12))) 33 (sB ((decide ((i12 : Int) < 0))))) 34 (sB ((decide ((i12 : Int) < 0))))) V0 h11)))))))))) (K (upd (upd (upd (upd (upd (upd (upd (upd (upd (upd (upd (upd (upd (upd (upd (upd (upd (upd (upd (upd (upd e 9 (sI (x9))) 3 (sV x3)) 1 (sI (x1))) 0 (sV (Value.slice x0a x0n x0c))) 18 (sI (x9))) 19 (sI (x1))) 20 (sB ((decide ((x9 : Int) > x1))))) 21 (sB (false))) 22 (sV undef)) 23 (sV undef)) 24 (sV undef)) 25 (sV undef)) 26 (sV undef)) 27 (sV undef)) 28 (sV undef)) 29 (sV undef)) 30 (sV undef)) 31 (sV undef)) 32 (sV undef)) 33 (sV undef)) 34 (sB (false))) V0 hp)) := by kernel_rfl
def F146_l5 (x0a : Option Addr) (x0n : Nat) (x0c : Nat) (x1 : Int) (x2 : Int) (x3 : Value) (x8 : Int) (I2 : (Int) → HP → Prop) (K : Value → HP → Prop) (I5 : (Int) → HP → Prop) (x9 : Int) (hp : HP) : Prop :=
  (ite2 (decide ((x9 : Int) > x1)) ((0 ≤ (x9 : Int)) ∧ ((x9 : Int) < (x0n : Nat)) ∧ (ptrN x0a fun b_13 o_14 => (ldL (HP.cellN hp b_13 (o_14 + Int.toNat x9 * 2) 2) fun l_15 => ((0 ≤ ((IntKind.wrap .i64 (x9 - 1)) : Int)) ∧ (((IntKind.wrap .i64 (x9 - 1)) : Int) < (x0n : Nat)) ∧ (ptrN x0a fun b_16 o_17 => (ldL (HP.cellN hp b_16 (o_17 + Int.toNat (IntKind.wrap .i64 (x9 - 1)) * 2) 2) fun l_18 => (fnV x3 fun f_19 ga_20 gb_21 => (CF Try.prog f_19 (ga_20 ++ [(Value.agg ⟨l_15⟩), (Value.agg ⟨l_18⟩)] ++ gb_21) hp fun u_22 h_23 => (intV u_22 .i64 fun i_24 => (F146_j6 x0a x0n x0c x1 x2 x3 x8 x9 (decide ((i_24 : Int) < 0)) h_23 I2 I5 K)))))))))) (F146_j6 x0a x0n x0c x1 x2 x3 x8 x9 false hp I2 I5 K))
def F146_j4 (x0a : Option Addr) (x0n : Nat) (x0c : Nat) (x1 : Int) (x2 : Int) (x3 : Value) (x8 : Int) (x9 : Int) (hp : HP) (I2 : (Int) → HP → Prop) (K : Value → HP → Prop) : Prop :=
  (LoopP (σ := Int) (fun I s hp => F146_l5 x0a x0n x0c x1 x2 x3 x8 I2 K I s hp) x9 hp)
theorem F146_r5 (e : Env) (x8 : Int) (hp : HP) (K : Env → PV → HP → Prop) : RW Try.prog 53 [] (opsAt Try.f146 [1, 0, 0, 1, 0, 0, 0]) (List.range 2) (upd e 8 (sI (x8))) V0 hp K =
    (K (upd (upd (upd e 8 (sI (x8))) 17 (sI (x8))) 9 (sI (x8))) V0 hp) := by kernel_rfl
def F146_l2 (x0a : Option Addr) (x0n : Nat) (x0c : Nat) (x1 : Int) (x2 : Int) (x3 : Value) (K : Value → HP → Prop) (I2 : (Int) → HP → Prop) (x8 : Int) (hp : HP) : Prop :=
  (ite2 (decide ((x8 : Int) < x2)) (F146_j4 x0a x0n x0c x1 x2 x3 x8 x8 hp I2 K) (K (.tuple ⟨[]⟩) hp))
def F146_j1 (x0a : Option Addr) (x0n : Nat) (x0c : Nat) (x1 : Int) (x2 : Int) (x3 : Value) (x8 : Int) (hp : HP) (K : Value → HP → Prop) : Prop :=
  (LoopP (σ := Int) (fun I s hp => F146_l2 x0a x0n x0c x1 x2 x3  K I s hp) x8 hp)
theorem F146_r6 (e : Env) (x1 : Int) (hp : HP) (K : Env → PV → HP → Prop) : RW Try.prog 53 [] (opsAt Try.f146 [0]) (List.range 3) (upd e 1 (sI (x1))) V0 hp K =
    (K (upd (upd (upd (upd e 1 (sI (x1))) 10 (sI (x1))) 11 (sI ((IntKind.wrap .i64 (x1 + 1))))) 8 (sI ((IntKind.wrap .i64 (x1 + 1))))) V0 hp) := by kernel_rfl
def F146 (x0a : Option Addr) (x0n : Nat) (x0c : Nat) (x1 : Int) (x2 : Int) (x3 : Value) (hp : HP) (K : Value → HP → Prop) : Prop :=
  (F146_j1 x0a x0n x0c x1 x2 x3 (IntKind.wrap .i64 (x1 + 1)) hp  K)
noncomputable def F146_code : Code := (.seq (.region 0 (opsAt Try.f146 [0]) false) (.block 0 (.loop (.seq (.seq (.region 1 (opsAt Try.f146 [1, 0, 0, 0, 0]) false) (.cond (.tmp 14) .skip (.exit 0))) (.seq (.block 1 (.seq (.region 3 (opsAt Try.f146 [1, 0, 0, 1, 0, 0, 0]) false) (.block 2 (.loop (.seq (.seq (.region 4 (opsAt Try.f146 [1, 0, 0, 1, 0, 0, 1, 0, 0, 0, 0]) true) (.cond (.tmp 34) .skip (.exit 2))) (.seq (.block 3 (.region 6 (opsAt Try.f146 [1, 0, 0, 1, 0, 0, 1, 0, 0, 1, 0, 0]) true)) (.region 5 (opsAt Try.f146 [1, 0, 0, 1, 0, 0, 1, 0, 0, 1, 1]) false))))))) (.region 2 (opsAt Try.f146 [1, 0, 0, 1, 1]) false))))))
theorem F146_body : Try.f146.body = some F146_code := by kernel_rfl
theorem F146_ok (x0a : Option Addr) (x0n : Nat) (x0c : Nat) (x1 : Int) (x2 : Int) (x3 : Value) (hp : HP) (K : Value → HP → Prop) (h : F146 x0a x0n x0c x1 x2 x3 hp K) : CF Try.prog 146 [(Value.slice x0a x0n x0c), (Value.int .i64 x1), (Value.int .i64 x2), x3] hp K := by
 refine .inl ⟨by kernel_rfl, AC.intro (N := 53) Try.func146 F146_body rfl (Nat.le_of_ble_eq_true rfl) ?_⟩
 unfold F146 at h
 unfold F146_code
 refine AWP.seq (fun env pv hp => ∃ (x0a : Option Addr) (x0n : Nat) (x0c : Nat) (x1 : Int) (x2 : Int) (x3 : Value) (x8 : Int), Sub (upd (upd (upd (upd (upd E0 8 (sI (x8))) 3 (sV x3)) 2 (sI (x2))) 1 (sI (x1))) 0 (sV (Value.slice x0a x0n x0c))) env ∧ Sub V0 pv ∧ (F146_j1 x0a x0n x0c x1 x2 x3 x8 hp  K)) ?_ ?_
 ·refine AWP.rgn (F146_r6 (upd (upd (upd E0 3 (sV x3)) 2 (sI (x2))) 0 (sV (Value.slice x0a x0n x0c))) x1 hp _) ?_ (Rv 1 _ (Rv 0 _ (Rv 2 _ (Rv 3 _ (Rn))))) (Sc rfl (Sc rfl (Sc rfl (Sc rfl (Sn))))) (Sn)
  exact ⟨x0a, x0n, x0c, x1, x2, x3, (IntKind.wrap .i64 (x1 + 1)), (Sc rfl (Sc rfl (Sc rfl (Sc rfl (Sc rfl (Sn)))))), (Sn), h⟩
 ·rintro env pv hp ⟨x0a, x0n, x0c, x1, x2, x3, x8, he, hv, h⟩
  refine AWP.sub (env' := (upd (upd (upd (upd (upd E0 8 (sI (x8))) 3 (sV x3)) 2 (sI (x2))) 1 (sI (x1))) 0 (sV (Value.slice x0a x0n x0c)))) (pv' := V0) ?_ (Rv 0 _ (Rv 1 _ (Rv 2 _ (Rv 3 _ (Rv 8 _ (Rn)))))) he hv (HSub.refl _)
  clear he hv
  unfold F146_j1 at h
  refine AWP.block ?_
  refine AWP.loop (σ := Int) (fun I s hp => F146_l2 x0a x0n x0c x1 x2 x3  K I s hp) (fun s => (upd (upd (upd (upd (upd E0 8 (sI (s))) 3 (sV x3)) 2 (sI (x2))) 1 (sI (x1))) 0 (sV (Value.slice x0a x0n x0c)))) (fun s => V0) x8 h (fun s => (Rv 0 _ (Rv 1 _ (Rv 2 _ (Rv 3 _ (Rv 8 _ (Rn))))))) (Sc rfl (Sc rfl (Sc rfl (Sc rfl (Sc rfl (Sn)))))) (Sn) ?_
  intro I2 s hp h
  obtain ⟨x8, hs⟩ : ∃ x, x = s := ⟨s, rfl⟩
  subst hs
  replace h : F146_l2 x0a x0n x0c x1 x2 x3  K I2 x8 hp := h
  unfold F146_l2 at h
  refine AWP.seq' ?_
  refine AWP.seq' ?_
  refine AWP.rgn (F146_r0 (upd (upd (upd E0 3 (sV x3)) 1 (sI (x1))) 0 (sV (Value.slice x0a x0n x0c))) x2 x8 hp _) ?_ (Rv 2 _ (Rv 8 _ (Rv 0 _ (Rv 1 _ (Rv 3 _ (Rn)))))) (Sc rfl (Sc rfl (Sc rfl (Sc rfl (Sc rfl (Sn)))))) (Sn)
  refine AWP.cond (t := (decide ((x8 : Int) < x2))) rfl (fun e => ?_) (fun e => ?_)
  ·replace h := ite2_t h e
   refine AWP.skip ?_
   refine AWP.seq (fun env pv hp => ∃ (x8 : Int), Sub (upd (upd (upd (upd (upd E0 8 (sI (x8))) 3 (sV x3)) 2 (sI (x2))) 1 (sI (x1))) 0 (sV (Value.slice x0a x0n x0c))) env ∧ Sub V0 pv ∧ (F146_j3 x0a x0n x0c x1 x2 x3 x8 hp I2 K)) ?_ ?_
   ·refine AWP.block ?_
    refine AWP.seq (fun env pv hp => ∃ (x8 : Int) (x9 : Int), Sub (upd (upd (upd (upd (upd (upd E0 9 (sI (x9))) 8 (sI (x8))) 3 (sV x3)) 2 (sI (x2))) 1 (sI (x1))) 0 (sV (Value.slice x0a x0n x0c))) env ∧ Sub V0 pv ∧ (F146_j4 x0a x0n x0c x1 x2 x3 x8 x9 hp I2 K)) ?_ ?_
    ·refine AWP.rgn (F146_r5 (upd (upd (upd (upd E0 3 (sV x3)) 2 (sI (x2))) 1 (sI (x1))) 0 (sV (Value.slice x0a x0n x0c))) x8 hp _) ?_ (Rv 8 _ (Rv 0 _ (Rv 1 _ (Rv 2 _ (Rv 3 _ (Rn)))))) (Sc rfl (Sc rfl (Sc rfl (Sc rfl (Sc rfl (Sn)))))) (Sn)
     exact ⟨x8, x8, (Sc rfl (Sc rfl (Sc rfl (Sc rfl (Sc rfl (Sc rfl (Sn))))))), (Sn), h⟩
    ·rintro env pv hp ⟨x8, x9, he, hv, h⟩
     refine AWP.sub (env' := (upd (upd (upd (upd (upd (upd E0 9 (sI (x9))) 8 (sI (x8))) 3 (sV x3)) 2 (sI (x2))) 1 (sI (x1))) 0 (sV (Value.slice x0a x0n x0c)))) (pv' := V0) ?_ (Rv 0 _ (Rv 1 _ (Rv 2 _ (Rv 3 _ (Rv 8 _ (Rv 9 _ (Rn))))))) he hv (HSub.refl _)
     clear he hv
     unfold F146_j4 at h
     refine AWP.block ?_
     refine AWP.loop (σ := Int) (fun I s hp => F146_l5 x0a x0n x0c x1 x2 x3 x8 I2 K I s hp) (fun s => (upd (upd (upd (upd (upd (upd E0 9 (sI (s))) 8 (sI (x8))) 3 (sV x3)) 2 (sI (x2))) 1 (sI (x1))) 0 (sV (Value.slice x0a x0n x0c)))) (fun s => V0) x9 h (fun s => (Rv 0 _ (Rv 1 _ (Rv 2 _ (Rv 3 _ (Rv 8 _ (Rv 9 _ (Rn)))))))) (Sc rfl (Sc rfl (Sc rfl (Sc rfl (Sc rfl (Sc rfl (Sn))))))) (Sn) ?_
     intro I5 s hp h
     obtain ⟨x9, hs⟩ : ∃ x, x = s := ⟨s, rfl⟩
     subst hs
     replace h : F146_l5 x0a x0n x0c x1 x2 x3 x8 I2 K I5 x9 hp := h
     unfold F146_l5 at h
     refine AWP.seq' ?_
     refine AWP.seq (fun env pv hp => ∃ (x9 : Int) (x34 : Bool), Sub (upd (upd (upd (upd (upd (upd (upd E0 34 (sB (x34))) 9 (sI (x9))) 8 (sI (x8))) 3 (sV x3)) 2 (sI (x2))) 1 (sI (x1))) 0 (sV (Value.slice x0a x0n x0c))) env ∧ Sub V0 pv ∧ (F146_j6 x0a x0n x0c x1 x2 x3 x8 x9 x34 hp I2 I5 K)) ?_ ?_
     ·refine AWP.rgnD (by kernel_rfl) (by kernel_rfl) (F146_r4 (upd (upd E0 8 (sI (x8))) 2 (sI (x2))) x0a x0n x0c x1 x3 x9 hp _) ?_ (Rv 0 _ (Rv 1 _ (Rv 3 _ (Rv 9 _ (Rv 2 _ (Rv 8 _ (Rn))))))) (Sc rfl (Sc rfl (Sc rfl (Sc rfl (Sc rfl (Sc rfl (Sn))))))) (Sn)
      refine ite2_mono h (fun h => ?_) (fun h => ?_)
      ·refine ⟨h.1, h.2.1, ?_⟩
       replace h := h.2.2
       refine ptrN_mono h (fun b_13 o_14 h => ?_)
       refine ldL_mono h (fun l_15 h => ?_)
       refine ⟨h.1, h.2.1, ?_⟩
       replace h := h.2.2
       refine ptrN_mono h (fun b_16 o_17 h => ?_)
       refine ldL_mono h (fun l_18 h => ?_)
       refine fnV_mono h (fun f_19 ga_20 gb_21 h => ?_)
       refine CF_mono h (fun u_22 h_23 h => ?_)
       refine intV_mono h (fun i_24 h => ?_)
       exact ⟨x9, (decide ((i_24 : Int) < 0)), (Sc rfl (Sc rfl (Sc rfl (Sc rfl (Sc rfl (Sc rfl (Sc rfl (Sn)))))))), (Sn), h⟩
      ·exact ⟨x9, false, (Sc rfl (Sc rfl (Sc rfl (Sc rfl (Sc rfl (Sc rfl (Sc rfl (Sn)))))))), (Sn), h⟩
     ·rintro env pv hp ⟨x9, x34, he, hv, h⟩
      refine AWP.sub (env' := (upd (upd (upd (upd (upd (upd (upd E0 34 (sB (x34))) 9 (sI (x9))) 8 (sI (x8))) 3 (sV x3)) 2 (sI (x2))) 1 (sI (x1))) 0 (sV (Value.slice x0a x0n x0c)))) (pv' := V0) ?_ (Rv 0 _ (Rv 1 _ (Rv 2 _ (Rv 3 _ (Rv 8 _ (Rv 9 _ (Rv 34 _ (Rn)))))))) he hv (HSub.refl _)
      clear he hv
      unfold F146_j6 at h
      refine AWP.cond (t := x34) rfl (fun e => ?_) (fun e => ?_)
      ·replace h := ite2_t h e
       refine AWP.skip ?_
       refine AWP.seq' ?_
       refine AWP.block ?_
       refine AWP.rgnD (by kernel_rfl) (by kernel_rfl) (F146_r2 (upd (upd (upd (upd E0 8 (sI (x8))) 3 (sV x3)) 2 (sI (x2))) 1 (sI (x1))) x0a x0n x0c x9 hp _) ?_ (Rv 0 _ (Rv 9 _ (Rv 1 _ (Rv 2 _ (Rv 3 _ (Rv 8 _ (Rn))))))) (Sc rfl (Sc rfl (Sc rfl (Sc rfl (Sc rfl (Sc rfl (Sn))))))) (Sn)
       refine ⟨h.1, h.2.1, ?_⟩
       replace h := h.2.2
       refine ptrN_mono h (fun b_1 o_2 h => ?_)
       refine ldL_mono h (fun l_3 h => ?_)
       refine ⟨h.1, h.2.1, ?_⟩
       replace h := h.2.2
       refine ptrN_mono h (fun b_4 o_5 h => ?_)
       refine ldL_mono h (fun l_6 h => ?_)
       refine ⟨h.1, h.2.1, ?_⟩
       replace h := h.2.2
       refine ptrN_mono h (fun b_7 o_8 h => ?_)
       refine ⟨h.1, ?_⟩
       replace h := h.2
       refine stN_mono h (fun h_9 h => ?_)
       refine ⟨h.1, h.2.1, ?_⟩
       replace h := h.2.2
       refine ptrN_mono h (fun b_10 o_11 h => ?_)
       refine ⟨h.1, ?_⟩
       replace h := h.2
       refine stN_mono h (fun h_12 h => ?_)
       refine AWP.rgn (F146_r3 (upd (upd (upd (upd (upd E0 8 (sI (x8))) 3 (sV x3)) 2 (sI (x2))) 1 (sI (x1))) 0 (sV (Value.slice x0a x0n x0c))) x9 h_12 _) ?_ (Rv 9 _ (Rv 0 _ (Rv 1 _ (Rv 2 _ (Rv 3 _ (Rv 8 _ (Rn))))))) (Sc rfl (Sc rfl (Sc rfl (Sc rfl (Sc rfl (Sc rfl (Sn))))))) (Sn)
       exact ⟨(IntKind.wrap .i64 (x9 - 1)), (Sc rfl (Sc rfl (Sc rfl (Sc rfl (Sc rfl (Sc rfl (Sn))))))), (Sn), h⟩
      ·replace h := ite2_f h e
       refine AWP.exit ?_
       exact ⟨x8, (Sc rfl (Sc rfl (Sc rfl (Sc rfl (Sc rfl (Sn)))))), (Sn), h⟩
   ·rintro env pv hp ⟨x8, he, hv, h⟩
    refine AWP.sub (env' := (upd (upd (upd (upd (upd E0 8 (sI (x8))) 3 (sV x3)) 2 (sI (x2))) 1 (sI (x1))) 0 (sV (Value.slice x0a x0n x0c)))) (pv' := V0) ?_ (Rv 0 _ (Rv 1 _ (Rv 2 _ (Rv 3 _ (Rv 8 _ (Rn)))))) he hv (HSub.refl _)
    clear he hv
    unfold F146_j3 at h
    refine AWP.rgn (F146_r1 (upd (upd (upd (upd E0 3 (sV x3)) 2 (sI (x2))) 1 (sI (x1))) 0 (sV (Value.slice x0a x0n x0c))) x8 hp _) ?_ (Rv 8 _ (Rv 0 _ (Rv 1 _ (Rv 2 _ (Rv 3 _ (Rn)))))) (Sc rfl (Sc rfl (Sc rfl (Sc rfl (Sc rfl (Sn)))))) (Sn)
    exact ⟨(IntKind.wrap .i64 (x8 + 1)), (Sc rfl (Sc rfl (Sc rfl (Sc rfl (Sc rfl (Sn)))))), (Sn), h⟩
  ·replace h := ite2_f h e
   refine AWP.exit ?_
   exact h
-- 171 slices.siftDownCmpFunc[interpreter/expiry.thing]
theorem F171_r0 (e : Env) (x10 : Int) (hp : HP) (K : Env → PV → HP → Prop) : RW Try.prog 82 [] (opsAt Try.f171 [1, 0, 0, 0, 0]) (List.range 4) (upd e 10 (sI (x10))) V0 hp K =
    (K (upd (upd (upd (upd (upd e 10 (sI (x10))) 13 (sI (x10))) 14 (sI ((IntKind.wrap .i64 (2 * x10))))) 15 (sI ((IntKind.wrap .i64 ((IntKind.wrap .i64 (2 * x10)) + 1))))) 11 (sI ((IntKind.wrap .i64 ((IntKind.wrap .i64 (2 * x10)) + 1))))) V0 hp) := by kernel_rfl
theorem F171_r1 (e : Env) (x2 : Int) (x11 : Int) (hp : HP) (K : Env → PV → HP → Prop) : RW Try.prog 82 [] (opsAt Try.f171 [1, 0, 0, 0, 1, 0, 0]) (List.range 3) (upd (upd e 11 (sI (x11))) 2 (sI (x2))) V0 hp K =
    (K (upd (upd (upd (upd (upd e 11 (sI (x11))) 2 (sI (x2))) 16 (sI (x11))) 17 (sI (x2))) 18 (sB ((decide ((x11 : Int) ≥ x2))))) V0 hp) := by kernel_rfl
theorem F171_r2 (e : Env) (x0a : Option Addr) (x0n : Nat) (x0c : Nat) (x3 : Int) (x4 : Value) (x10 : Int) (x11 : Int) (hp : HP) (K : Env → PV → HP → Prop) : RW Try.prog 82 [] (opsAt Try.f171 [1, 0, 0, 0, 1, 1, 1, 0, 0]) (List.range 16) (upd (upd (upd (upd (upd e 11 (sI (x11))) 10 (sI (x10))) 4 (sV x4)) 3 (sI (x3))) 0 (sV (Value.slice x0a x0n x0c))) V0 hp K =
    ((0 ≤ ((IntKind.wrap .i64 (x3 + x10)) : Int)) ∧ (((IntKind.wrap .i64 (x3 + x10)) : Int) < (x0n : Nat)) ∧ (ptrN x0a fun b1 o2 => (ldL (HP.cellN hp b1 (o2 + Int.toNat (IntKind.wrap .i64 (x3 + x10)) * 2) 2) fun l3 => ((0 ≤ ((IntKind.wrap .i64 (x3 + x11)) : Int)) ∧ (((IntKind.wrap .i64 (x3 + x11)) : Int) < (x0n : Nat)) ∧ (ptrN x0a fun b4 o5 => (ldL (HP.cellN hp b4 (o5 + Int.toNat (IntKind.wrap .i64 (x3 + x11)) * 2) 2) fun l6 => (fnV x4 fun f7 ga8 gb9 => (CF Try.prog f7 (ga8 ++ [(Value.agg ⟨l3⟩), (Value.agg ⟨l6⟩)] ++ gb9) hp fun u10 h11 => (intV u10 .i64 fun i12 => (K (upd (upd (upd (upd (upd (upd (upd (upd (upd (upd (upd (upd (upd (upd (upd (upd (upd (upd (upd (upd (upd e 11 (sI (x11))) 10 (sI (x10))) 4 (sV x4)) 3 (sI (x3))) 0 (sV (Value.slice x0a x0n x0c))) 43 (sV x4)) 44 (sV (Value.slice x0a x0n x0c))) 45 (sI (x3))) 46 (sI (x10))) 47 (sI ((IntKind.wrap .i64 (x3 + x10))))) 48 (sV (ptr b1 (o2 + Int.toNat (IntKind.wrap .i64 (x3 + x10)) * 2)))) 49 (sV (Value.agg ⟨l3⟩))) 50 (sV (Value.slice x0a x0n x0c))) 51 (sI (x3))) 52 (sI (x11))) 53 (sI ((IntKind.wrap .i64 (x3 + x11))))) 54 (sV (ptr b4 (o5 + Int.toNat (IntKind.wrap .i64 (x3 + x11)) * 2)))) 55 (sV (Value.agg ⟨l6⟩))) 56 (sI (i12))) 57 (sB ((decide ((i12 : Int) < 0))))) 58 (sB ((!(decide ((i12 : Int) < 0)))))) V0 h11)))))))))) := by kernel_rfl
theorem F171_r3 (e : Env) (x0a : Option Addr) (x0n : Nat) (x0c : Nat) (x3 : Int) (x10 : Int) (x11 : Int) (hp : HP) (K : Env → PV → HP → Prop) : RW Try.prog 82 [] (opsAt Try.f171 [1, 0, 0, 0, 1, 1, 1, 1, 0]) (List.range 24) (upd (upd (upd (upd e 11 (sI (x11))) 10 (sI (x10))) 3 (sI (x3))) 0 (sV (Value.slice x0a x0n x0c))) V0 hp K =
    ((0 ≤ ((IntKind.wrap .i64 (x3 + x11)) : Int)) ∧ (((IntKind.wrap .i64 (x3 + x11)) : Int) < (x0n : Nat)) ∧ (ptrN x0a fun b1 o2 => (ldL (HP.cellN hp b1 (o2 + Int.toNat (IntKind.wrap .i64 (x3 + x11)) * 2) 2) fun l3 => ((0 ≤ ((IntKind.wrap .i64 (x3 + x10)) : Int)) ∧ (((IntKind.wrap .i64 (x3 + x10)) : Int) < (x0n : Nat)) ∧ (ptrN x0a fun b4 o5 => (ldL (HP.cellN hp b4 (o5 + Int.toNat (IntKind.wrap .i64 (x3 + x10)) * 2) 2) fun l6 => ((0 ≤ ((IntKind.wrap .i64 (x3 + x10)) : Int)) ∧ (((IntKind.wrap .i64 (x3 + x10)) : Int) < (x0n : Nat)) ∧ (ptrN x0a fun b7 o8 => ((List.length l3 = 2) ∧ (HP.stN hp b7 (o8 + Int.toNat (IntKind.wrap .i64 (x3 + x10)) * 2) l3 fun h9 => ((0 ≤ ((IntKind.wrap .i64 (x3 + x11)) : Int)) ∧ (((IntKind.wrap .i64 (x3 + x11)) : Int) < (x0n : Nat)) ∧ (ptrN x0a fun b10 o11 => ((List.length l6 = 2) ∧ (HP.stN h9 b10 (o11 + Int.toNat (IntKind.wrap .i64 (x3 + x11)) * 2) l6 fun h12 => (K (upd (upd (upd (upd (upd (upd (upd (upd (upd (upd (upd (upd (upd (upd (upd (upd (upd (upd (upd (upd (upd (upd (upd (upd (upd (upd e 11 (sI (x11))) 10 (sI (x10))) 3 (sI (x3))) 0 (sV (Value.slice x0a x0n x0c))) 59 (sV (Value.slice x0a x0n x0c))) 60 (sI (x3))) 61 (sI (x10))) 62 (sI ((IntKind.wrap .i64 (x3 + x10))))) 63 (sV (Value.slice x0a x0n x0c))) 64 (sI (x3))) 65 (sI (x11))) 66 (sI ((IntKind.wrap .i64 (x3 + x11))))) 67 (sV (Value.slice x0a x0n x0c))) 68 (sI (x3))) 69 (sI (x11))) 70 (sI ((IntKind.wrap .i64 (x3 + x11))))) 71 (sV (ptr b1 (o2 + Int.toNat (IntKind.wrap .i64 (x3 + x11)) * 2)))) 72 (sV (Value.agg ⟨l3⟩))) 73 (sV (Value.slice x0a x0n x0c))) 74 (sI (x3))) 75 (sI (x10))) 76 (sI ((IntKind.wrap .i64 (x3 + x10))))) 77 (sV (ptr b4 (o5 + Int.toNat (IntKind.wrap .i64 (x3 + x10)) * 2)))) 78 (sV (Value.agg ⟨l6⟩))) 79 (sV (ptr b7 (o8 + Int.toNat (IntKind.wrap .i64 (x3 + x10)) * 2)))) 80 (sV (ptr b10 (o11 + Int.toNat (IntKind.wrap .i64 (x3 + x11)) * 2)))) V0 h12))))))))))))))) := by kernel_rfl
theorem F171_r4 (e : Env) (x11 : Int) (hp : HP) (K : Env → PV → HP → Prop) : RW Try.prog 82 [] (opsAt Try.f171 [1, 0, 0, 0, 1, 1, 1, 1, 1]) (List.range 2) (upd e 11 (sI (x11))) V0 hp K =
    (K (upd (upd (upd e 11 (sI (x11))) 81 (sI (x11))) 10 (sI (x11))) V0 hp) := by kernel_rfl
def F171_j3 (x0a : Option Addr) (x0n : Nat) (x0c : Nat) (x2 : Int) (x3 : Int) (x4 : Value) (x10 : Int) (x11 : Int) (hp : HP) (I2 : (Int) → HP → Prop) (K : Value → HP → Prop) : Prop :=
  ((0 ≤ ((IntKind.wrap .i64 (x3 + x10)) : Int)) ∧ (((IntKind.wrap .i64 (x3 + x10)) : Int) < (x0n : Nat)) ∧ (ptrN x0a fun b_1 o_2 => (ldL (HP.cellN hp b_1 (o_2 + Int.toNat (IntKind.wrap .i64 (x3 + x10)) * 2) 2) fun l_3 => ((0 ≤ ((IntKind.wrap .i64 (x3 + x11)) : Int)) ∧ (((IntKind.wrap .i64 (x3 + x11)) : Int) < (x0n : Nat)) ∧ (ptrN x0a fun b_4 o_5 => (ldL (HP.cellN hp b_4 (o_5 + Int.toNat (IntKind.wrap .i64 (x3 + x11)) * 2) 2) fun l_6 => (fnV x4 fun f_7 ga_8 gb_9 => (CF Try.prog f_7 (ga_8 ++ [(Value.agg ⟨l_3⟩), (Value.agg ⟨l_6⟩)] ++ gb_9) hp fun u_10 h_11 => (intV u_10 .i64 fun i_12 => (ite2 (!(decide ((i_12 : Int) < 0))) (K (.tuple ⟨[]⟩) h_11) ((0 ≤ ((IntKind.wrap .i64 (x3 + x11)) : Int)) ∧ (((IntKind.wrap .i64 (x3 + x11)) : Int) < (x0n : Nat)) ∧ (ptrN x0a fun b_13 o_14 => (ldL (HP.cellN h_11 b_13 (o_14 + Int.toNat (IntKind.wrap .i64 (x3 + x11)) * 2) 2) fun l_15 => ((0 ≤ ((IntKind.wrap .i64 (x3 + x10)) : Int)) ∧ (((IntKind.wrap .i64 (x3 + x10)) : Int) < (x0n : Nat)) ∧ (ptrN x0a fun b_16 o_17 => (ldL (HP.cellN h_11 b_16 (o_17 + Int.toNat (IntKind.wrap .i64 (x3 + x10)) * 2) 2) fun l_18 => ((0 ≤ ((IntKind.wrap .i64 (x3 + x10)) : Int)) ∧ (((IntKind.wrap .i64 (x3 + x10)) : Int) < (x0n : Nat)) ∧ (ptrN x0a fun b_19 o_20 => ((List.length l_15 = 2) ∧ (HP.stN h_11 b_19 (o_20 + Int.toNat (IntKind.wrap .i64 (x3 + x10)) * 2) l_15 fun h_21 => ((0 ≤ ((IntKind.wrap .i64 (x3 + x11)) : Int)) ∧ (((IntKind.wrap .i64 (x3 + x11)) : Int) < (x0n : Nat)) ∧ (ptrN x0a fun b_22 o_23 => ((List.length l_18 = 2) ∧ (HP.stN h_21 b_22 (o_23 + Int.toNat (IntKind.wrap .i64 (x3 + x11)) * 2) l_18 fun h_24 => (I2 x11 h_24)))))))))))))))))))))))))
theorem F171_r5 (e : Env) (x11 : Int) (hp : HP) (K : Env → PV → HP → Prop) : RW Try.prog 82 [] (opsAt Try.f171 [1, 0, 0, 0, 1, 1, 0, 1, 0]) (List.range 3) (upd e 11 (sI (x11))) V0 hp K =
    (K (upd (upd (upd (upd e 11 (sI (x11))) 41 (sI (x11))) 42 (sI ((IntKind.wrap .i64 (x11 + 1))))) 11 (sI ((IntKind.wrap .i64 (x11 + 1))))) V0 hp) := by kernel_rfl
def F171_j4 (x0a : Option Addr) (x0n : Nat) (x0c : Nat) (x2 : Int) (x3 : Int) (x4 : Value) (x10 : Int) (x11 : Int) (x40 : Bool) (hp : HP) (I2 : (Int) → HP → Prop) (K : Value → HP → Prop) : Prop :=
  (ite2 x40 (F171_j3 x0a x0n x0c x2 x3 x4 x10 (IntKind.wrap .i64 (x11 + 1)) hp I2 K) (F171_j3 x0a x0n x0c x2 x3 x4 x10 x11 hp I2 K))
theorem F171_r6 (e : Env) (x0a : Option Addr) (x0n : Nat) (x0c : Nat) (x2 : Int) (x3 : Int) (x4 : Value) (x11 : Int) (hp : HP) (K : Env → PV → HP → Prop) : RW Try.prog 82 [] (opsAt Try.f171 [1, 0, 0, 0, 1, 1, 0, 0]) (List.range 22) (upd (upd (upd (upd (upd e 11 (sI (x11))) 4 (sV x4)) 3 (sI (x3))) 2 (sI (x2))) 0 (sV (Value.slice x0a x0n x0c))) V0 hp K =
    (ite2 (decide (((IntKind.wrap .i64 (x11 + 1)) : Int) < x2)) ((0 ≤ ((IntKind.wrap .i64 (x3 + x11)) : Int)) ∧ (((IntKind.wrap .i64 (x3 + x11)) : Int) < (x0n : Nat)) ∧ (ptrN x0a fun b1 o2 => (ldL (HP.cellN hp b1 (o2 + Int.toNat (IntKind.wrap .i64 (x3 + x11)) * 2) 2) fun l3 => ((0 ≤ ((IntKind.wrap .i64 ((IntKind.wrap .i64 (x3 + x11)) + 1)) : Int)) ∧ (((IntKind.wrap .i64 ((IntKind.wrap .i64 (x3 + x11)) + 1)) : Int) < (x0n : Nat)) ∧ (ptrN x0a fun b4 o5 => (ldL (HP.cellN hp b4 (o5 + Int.toNat (IntKind.wrap .i64 ((IntKind.wrap .i64 (x3 + x11)) + 1)) * 2) 2) fun l6 => (fnV x4 fun f7 ga8 gb9 => (CF Try.prog f7 (ga8 ++ [(Value.agg ⟨l3⟩), (Value.agg ⟨l6⟩)] ++ gb9) hp fun u10 h11 => (intV u10 .i64 fun i12 => (K (upd (upd (upd (upd (upd (upd (upd (upd (upd (upd (upd (upd (upd (upd (upd (upd (upd (upd (upd (upd (upd (upd (upd (upd (upd (upd (upd e 11 (sI (x11))) 4 (sV x4)) 3 (sI (x3))) 2 (sI (x2))) 0 (sV (Value.slice x0a x0n x0c))) 19 (sI (x11))) 20 (sI ((IntKind.wrap .i64 (x11 + 1))))) 21 (sI (x2))) 22 (sB ((decide (((IntKind.wrap .i64 (x11 + 1)) : Int) < x2))))) 23 (sB (true))) 24 (sV x4)) 25 (sV (Value.slice x0a x0n x0c))) 26 (sI (x3))) 27 (sI (x11))) 28 (sI ((IntKind.wrap .i64 (x3 + x11))))) 29 (sV (ptr b1 (o2 + Int.toNat (IntKind.wrap .i64 (x3 + x11)) * 2)))) 30 (sV (Value.agg ⟨l3⟩))) 31 (sV (Value.slice x0a x0n x0c))) 32 (sI (x3))) 33 (sI (x11))) 34 (sI ((IntKind.wrap .i64 (x3 + x11))))) 35 (sI ((IntKind.wrap .i64 ((IntKind.wrap .i64 (x3 + x11)) + 1))))) 36 (sV (ptr b4 (o5 + Int.toNat (IntKind.wrap .i64 ((IntKind.wrap .i64 (x3 + x11)) + 1)) * 2)))) 37 (sV (Value.agg ⟨l6⟩))) 38 (sI (i12))) 39 (sB ((decide ((i12 : Int) < 0))))) 40 (sB ((decide ((i12 : Int) < 0))))) V0 h11)))))))))) (K (upd (upd (upd (upd (upd (upd (upd (upd (upd (upd (upd (upd (upd (upd (upd (upd (upd (upd (upd (upd (upd (upd (upd (upd (upd (upd (upd e 11 (sI (x11))) 4 (sV x4)) 3 (sI (x3))) 2 (sI (x2))) 0 (sV (Value.slice x0a x0n x0c))) 19 (sI (x11))) 20 (sI ((IntKind.wrap .i64 (x11 + 1))))) 21 (sI (x2))) 22 (sB ((decide (((IntKind.wrap .i64 (x11 + 1)) : Int) < x2))))) 23 (sB (false))) 24 (sV undef)) 25 (sV undef)) 26 (sV undef)) 27 (sV undef)) 28 (sV undef)) 29 (sV undef)) 30 (sV undef)) 31 (sV undef)) 32 (sV undef)) 33 (sV undef)) 34 (sV undef)) 35 (sV undef)) 36 (sV undef)) 37 (sV undef)) 38 (sV undef)) 39 (sV undef)) 40 (sB (false))) V0 hp)) := by kernel_rfl
def F171_l2 (x0a : Option Addr) (x0n : Nat) (x0c : Nat) (x2 : Int) (x3 : Int) (x4 : Value) (K : Value → HP → Prop) (I2 : (Int) → HP → Prop) (x10 : Int) (hp : HP) : Prop :=
  (ite2 (decide (((IntKind.wrap .i64 ((IntKind.wrap .i64 (2 * x10)) + 1)) : Int) ≥ x2)) (K (.tuple ⟨[]⟩) hp) (ite2 (decide (((IntKind.wrap .i64 ((IntKind.wrap .i64 ((IntKind.wrap .i64 (2 * x10)) + 1)) + 1)) : Int) < x2)) ((0 ≤ ((IntKind.wrap .i64 (x3 + (IntKind.wrap .i64 ((IntKind.wrap .i64 (2 * x10)) + 1)))) : Int)) ∧ (((IntKind.wrap .i64 (x3 + (IntKind.wrap .i64 ((IntKind.wrap .i64 (2 * x10)) + 1)))) : Int) < (x0n : Nat)) ∧ (ptrN x0a fun b_25 o_26 => (ldL (HP.cellN hp b_25 (o_26 + Int.toNat (IntKind.wrap .i64 (x3 + (IntKind.wrap .i64 ((IntKind.wrap .i64 (2 * x10)) + 1)))) * 2) 2) fun l_27 => ((0 ≤ ((IntKind.wrap .i64 ((IntKind.wrap .i64 (x3 + (IntKind.wrap .i64 ((IntKind.wrap .i64 (2 * x10)) + 1)))) + 1)) : Int)) ∧ (((IntKind.wrap .i64 ((IntKind.wrap .i64 (x3 + (IntKind.wrap .i64 ((IntKind.wrap .i64 (2 * x10)) + 1)))) + 1)) : Int) < (x0n : Nat)) ∧ (ptrN x0a fun b_28 o_29 => (ldL (HP.cellN hp b_28 (o_29 + Int.toNat (IntKind.wrap .i64 ((IntKind.wrap .i64 (x3 + (IntKind.wrap .i64 ((IntKind.wrap .i64 (2 * x10)) + 1)))) + 1)) * 2) 2) fun l_30 => (fnV x4 fun f_31 ga_32 gb_33 => (CF Try.prog f_31 (ga_32 ++ [(Value.agg ⟨l_27⟩), (Value.agg ⟨l_30⟩)] ++ gb_33) hp fun u_34 h_35 => (intV u_34 .i64 fun i_36 => (F171_j4 x0a x0n x0c x2 x3 x4 x10 (IntKind.wrap .i64 ((IntKind.wrap .i64 (2 * x10)) + 1)) (decide ((i_36 : Int) < 0)) h_35 I2 K)))))))))) (F171_j4 x0a x0n x0c x2 x3 x4 x10 (IntKind.wrap .i64 ((IntKind.wrap .i64 (2 * x10)) + 1)) false hp I2 K)))
def F171_j1 (x0a : Option Addr) (x0n : Nat) (x0c : Nat) (x2 : Int) (x3 : Int) (x4 : Value) (x10 : Int) (hp : HP) (K : Value → HP → Prop) : Prop :=
  (LoopP (σ := Int) (fun I s hp => F171_l2 x0a x0n x0c x2 x3 x4  K I s hp) x10 hp)
theorem F171_r7 (e : Env) (x1 : Int) (hp : HP) (K : Env → PV → HP → Prop) : RW Try.prog 82 [] (opsAt Try.f171 [0]) (List.range 2) (upd e 1 (sI (x1))) V0 hp K =
    (K (upd (upd (upd e 1 (sI (x1))) 12 (sI (x1))) 10 (sI (x1))) V0 hp) := by kernel_rfl
def F171 (x0a : Option Addr) (x0n : Nat) (x0c : Nat) (x1 : Int) (x2 : Int) (x3 : Int) (x4 : Value) (hp : HP) (K : Value → HP → Prop) : Prop :=
  (F171_j1 x0a x0n x0c x2 x3 x4 x1 hp  K)
noncomputable def F171_code : Code := (.seq (.region 0 (opsAt Try.f171 [0]) false) (.block 0 (.loop (.block 1 (.seq (.region 1 (opsAt Try.f171 [1, 0, 0, 0, 0]) false) (.seq (.seq (.region 2 (opsAt Try.f171 [1, 0, 0, 0, 1, 0, 0]) false) (.cond (.tmp 18) (.exit 0) .skip)) (.seq (.seq (.region 3 (opsAt Try.f171 [1, 0, 0, 0, 1, 1, 0, 0]) true) (.cond (.tmp 40) (.region 4 (opsAt Try.f171 [1, 0, 0, 0, 1, 1, 0, 1, 0]) false) .skip)) (.seq (.seq (.region 5 (opsAt Try.f171 [1, 0, 0, 0, 1, 1, 1, 0, 0]) true) (.cond (.tmp 58) .ret .skip)) (.seq (.region 6 (opsAt Try.f171 [1, 0, 0, 0, 1, 1, 1, 1, 0]) true) (.region 7 (opsAt Try.f171 [1, 0, 0, 0, 1, 1, 1, 1, 1]) false))))))))))
theorem F171_body : Try.f171.body = some F171_code := by kernel_rfl
theorem F171_ok (x0a : Option Addr) (x0n : Nat) (x0c : Nat) (x1 : Int) (x2 : Int) (x3 : Int) (x4 : Value) (hp : HP) (K : Value → HP → Prop) (h : F171 x0a x0n x0c x1 x2 x3 x4 hp K) : CF Try.prog 171 [(Value.slice x0a x0n x0c), (Value.int .i64 x1), (Value.int .i64 x2), (Value.int .i64 x3), x4] hp K := by
 refine .inl ⟨by kernel_rfl, AC.intro (N := 82) Try.func171 F171_body rfl (Nat.le_of_ble_eq_true rfl) ?_⟩
 unfold F171 at h
 unfold F171_code
 refine AWP.seq (fun env pv hp => ∃ (x0a : Option Addr) (x0n : Nat) (x0c : Nat) (x2 : Int) (x3 : Int) (x4 : Value) (x10 : Int), Sub (upd (upd (upd (upd (upd E0 10 (sI (x10))) 4 (sV x4)) 3 (sI (x3))) 2 (sI (x2))) 0 (sV (Value.slice x0a x0n x0c))) env ∧ Sub V0 pv ∧ (F171_j1 x0a x0n x0c x2 x3 x4 x10 hp  K)) ?_ ?_
 ·refine AWP.rgn (F171_r7 (upd (upd (upd (upd E0 4 (sV x4)) 3 (sI (x3))) 2 (sI (x2))) 0 (sV (Value.slice x0a x0n x0c))) x1 hp _) ?_ (Rv 1 _ (Rv 0 _ (Rv 2 _ (Rv 3 _ (Rv 4 _ (Rn)))))) (Sc rfl (Sc rfl (Sc rfl (Sc rfl (Sc rfl (Sn)))))) (Sn)
  exact ⟨x0a, x0n, x0c, x2, x3, x4, x1, (Sc rfl (Sc rfl (Sc rfl (Sc rfl (Sc rfl (Sn)))))), (Sn), h⟩
 ·rintro env pv hp ⟨x0a, x0n, x0c, x2, x3, x4, x10, he, hv, h⟩
  refine AWP.sub (env' := (upd (upd (upd (upd (upd E0 10 (sI (x10))) 4 (sV x4)) 3 (sI (x3))) 2 (sI (x2))) 0 (sV (Value.slice x0a x0n x0c)))) (pv' := V0) ?_ (Rv 0 _ (Rv 2 _ (Rv 3 _ (Rv 4 _ (Rv 10 _ (Rn)))))) he hv (HSub.refl _)
  clear he hv
  unfold F171_j1 at h
  refine AWP.block ?_
  refine AWP.loop (σ := Int) (fun I s hp => F171_l2 x0a x0n x0c x2 x3 x4  K I s hp) (fun s => (upd (upd (upd (upd (upd E0 10 (sI (s))) 4 (sV x4)) 3 (sI (x3))) 2 (sI (x2))) 0 (sV (Value.slice x0a x0n x0c)))) (fun s => V0) x10 h (fun s => (Rv 0 _ (Rv 2 _ (Rv 3 _ (Rv 4 _ (Rv 10 _ (Rn))))))) (Sc rfl (Sc rfl (Sc rfl (Sc rfl (Sc rfl (Sn)))))) (Sn) ?_
  intro I2 s hp h
  obtain ⟨x10, hs⟩ : ∃ x, x = s := ⟨s, rfl⟩
  subst hs
  replace h : F171_l2 x0a x0n x0c x2 x3 x4  K I2 x10 hp := h
  unfold F171_l2 at h
  refine AWP.block ?_
  refine AWP.seq' ?_
  refine AWP.rgn (F171_r0 (upd (upd (upd (upd E0 4 (sV x4)) 3 (sI (x3))) 2 (sI (x2))) 0 (sV (Value.slice x0a x0n x0c))) x10 hp _) ?_ (Rv 10 _ (Rv 0 _ (Rv 2 _ (Rv 3 _ (Rv 4 _ (Rn)))))) (Sc rfl (Sc rfl (Sc rfl (Sc rfl (Sc rfl (Sn)))))) (Sn)
  refine AWP.seq' ?_
  refine AWP.seq' ?_
  refine AWP.rgn (F171_r1 (upd (upd (upd (upd E0 10 (sI (x10))) 4 (sV x4)) 3 (sI (x3))) 0 (sV (Value.slice x0a x0n x0c))) x2 (IntKind.wrap .i64 ((IntKind.wrap .i64 (2 * x10)) + 1)) hp _) ?_ (Rv 2 _ (Rv 11 _ (Rv 0 _ (Rv 3 _ (Rv 4 _ (Rv 10 _ (Rn))))))) (Sc rfl (Sc rfl (Sc rfl (Sc rfl (Sc rfl (Sc rfl (Sn))))))) (Sn)
  refine AWP.cond (t := (decide (((IntKind.wrap .i64 ((IntKind.wrap .i64 (2 * x10)) + 1)) : Int) ≥ x2))) rfl (fun e => ?_) (fun e => ?_)
  ·replace h := ite2_t h e
   refine AWP.exit ?_
   exact h
  ·replace h := ite2_f h e
   refine AWP.skip ?_
   refine AWP.seq (fun env pv hp => ∃ (x10 : Int) (x11 : Int), Sub (upd (upd (upd (upd (upd (upd E0 11 (sI (x11))) 10 (sI (x10))) 4 (sV x4)) 3 (sI (x3))) 2 (sI (x2))) 0 (sV (Value.slice x0a x0n x0c))) env ∧ Sub V0 pv ∧ (F171_j3 x0a x0n x0c x2 x3 x4 x10 x11 hp I2 K)) ?_ ?_
   ·refine AWP.seq (fun env pv hp => ∃ (x10 : Int) (x11 : Int) (x40 : Bool), Sub (upd (upd (upd (upd (upd (upd (upd E0 40 (sB (x40))) 11 (sI (x11))) 10 (sI (x10))) 4 (sV x4)) 3 (sI (x3))) 2 (sI (x2))) 0 (sV (Value.slice x0a x0n x0c))) env ∧ Sub V0 pv ∧ (F171_j4 x0a x0n x0c x2 x3 x4 x10 x11 x40 hp I2 K)) ?_ ?_
    ·refine AWP.rgnD (by kernel_rfl) (by kernel_rfl) (F171_r6 (upd E0 10 (sI (x10))) x0a x0n x0c x2 x3 x4 (IntKind.wrap .i64 ((IntKind.wrap .i64 (2 * x10)) + 1)) hp _) ?_ (Rv 0 _ (Rv 2 _ (Rv 3 _ (Rv 4 _ (Rv 11 _ (Rv 10 _ (Rn))))))) (Sc rfl (Sc rfl (Sc rfl (Sc rfl (Sc rfl (Sc rfl (Sn))))))) (Sn)
     refine ite2_mono h (fun h => ?_) (fun h => ?_)
     ·refine ⟨h.1, h.2.1, ?_⟩
      replace h := h.2.2
      refine ptrN_mono h (fun b_25 o_26 h => ?_)
      refine ldL_mono h (fun l_27 h => ?_)
      refine ⟨h.1, h.2.1, ?_⟩
      replace h := h.2.2
      refine ptrN_mono h (fun b_28 o_29 h => ?_)
      refine ldL_mono h (fun l_30 h => ?_)
      refine fnV_mono h (fun f_31 ga_32 gb_33 h => ?_)
      refine CF_mono h (fun u_34 h_35 h => ?_)
      refine intV_mono h (fun i_36 h => ?_)
      exact ⟨x10, (IntKind.wrap .i64 ((IntKind.wrap .i64 (2 * x10)) + 1)), (decide ((i_36 : Int) < 0)), (Sc rfl (Sc rfl (Sc rfl (Sc rfl (Sc rfl (Sc rfl (Sc rfl (Sn)))))))), (Sn), h⟩
     ·exact ⟨x10, (IntKind.wrap .i64 ((IntKind.wrap .i64 (2 * x10)) + 1)), false, (Sc rfl (Sc rfl (Sc rfl (Sc rfl (Sc rfl (Sc rfl (Sc rfl (Sn)))))))), (Sn), h⟩
    ·rintro env pv hp ⟨x10, x11, x40, he, hv, h⟩
     refine AWP.sub (env' := (upd (upd (upd (upd (upd (upd (upd E0 40 (sB (x40))) 11 (sI (x11))) 10 (sI (x10))) 4 (sV x4)) 3 (sI (x3))) 2 (sI (x2))) 0 (sV (Value.slice x0a x0n x0c)))) (pv' := V0) ?_ (Rv 0 _ (Rv 2 _ (Rv 3 _ (Rv 4 _ (Rv 10 _ (Rv 11 _ (Rv 40 _ (Rn)))))))) he hv (HSub.refl _)
     clear he hv
     unfold F171_j4 at h
     refine AWP.cond (t := x40) rfl (fun e => ?_) (fun e => ?_)
     ·replace h := ite2_t h e
      refine AWP.rgn (F171_r5 (upd (upd (upd (upd (upd E0 10 (sI (x10))) 4 (sV x4)) 3 (sI (x3))) 2 (sI (x2))) 0 (sV (Value.slice x0a x0n x0c))) x11 hp _) ?_ (Rv 11 _ (Rv 0 _ (Rv 2 _ (Rv 3 _ (Rv 4 _ (Rv 10 _ (Rn))))))) (Sc rfl (Sc rfl (Sc rfl (Sc rfl (Sc rfl (Sc rfl (Sn))))))) (Sn)
      exact ⟨x10, (IntKind.wrap .i64 (x11 + 1)), (Sc rfl (Sc rfl (Sc rfl (Sc rfl (Sc rfl (Sc rfl (Sn))))))), (Sn), h⟩
     ·replace h := ite2_f h e
      refine AWP.skip ?_
      exact ⟨x10, x11, (Sc rfl (Sc rfl (Sc rfl (Sc rfl (Sc rfl (Sc rfl (Sn))))))), (Sn), h⟩
   ·rintro env pv hp ⟨x10, x11, he, hv, h⟩
    refine AWP.sub (env' := (upd (upd (upd (upd (upd (upd E0 11 (sI (x11))) 10 (sI (x10))) 4 (sV x4)) 3 (sI (x3))) 2 (sI (x2))) 0 (sV (Value.slice x0a x0n x0c)))) (pv' := V0) ?_ (Rv 0 _ (Rv 2 _ (Rv 3 _ (Rv 4 _ (Rv 10 _ (Rv 11 _ (Rn))))))) he hv (HSub.refl _)
    clear he hv
    unfold F171_j3 at h
    refine AWP.seq' ?_
    refine AWP.seq' ?_
    refine AWP.rgnD (by kernel_rfl) (by kernel_rfl) (F171_r2 (upd E0 2 (sI (x2))) x0a x0n x0c x3 x4 x10 x11 hp _) ?_ (Rv 0 _ (Rv 3 _ (Rv 4 _ (Rv 10 _ (Rv 11 _ (Rv 2 _ (Rn))))))) (Sc rfl (Sc rfl (Sc rfl (Sc rfl (Sc rfl (Sc rfl (Sn))))))) (Sn)
    refine ⟨h.1, h.2.1, ?_⟩
    replace h := h.2.2
    refine ptrN_mono h (fun b_1 o_2 h => ?_)
    refine ldL_mono h (fun l_3 h => ?_)
    refine ⟨h.1, h.2.1, ?_⟩
    replace h := h.2.2
    refine ptrN_mono h (fun b_4 o_5 h => ?_)
    refine ldL_mono h (fun l_6 h => ?_)
    refine fnV_mono h (fun f_7 ga_8 gb_9 h => ?_)
    refine CF_mono h (fun u_10 h_11 h => ?_)
    refine intV_mono h (fun i_12 h => ?_)
    refine AWP.cond (t := (!(decide ((i_12 : Int) < 0)))) rfl (fun e => ?_) (fun e => ?_)
    ·replace h := ite2_t h e
     refine AWP.ret ?_
     exact h
    ·replace h := ite2_f h e
     refine AWP.skip ?_
     refine AWP.seq' ?_
     refine AWP.rgnD (by kernel_rfl) (by kernel_rfl) (F171_r3 (upd (upd E0 4 (sV x4)) 2 (sI (x2))) x0a x0n x0c x3 x10 x11 h_11 _) ?_ (Rv 0 _ (Rv 3 _ (Rv 10 _ (Rv 11 _ (Rv 2 _ (Rv 4 _ (Rn))))))) (Sc rfl (Sc rfl (Sc rfl (Sc rfl (Sc rfl (Sc rfl (Sn))))))) (Sn)
     refine ⟨h.1, h.2.1, ?_⟩
     replace h := h.2.2
     refine ptrN_mono h (fun b_13 o_14 h => ?_)
     refine ldL_mono h (fun l_15 h => ?_)
     refine ⟨h.1, h.2.1, ?_⟩
     replace h := h.2.2
     refine ptrN_mono h (fun b_16 o_17 h => ?_)
     refine ldL_mono h (fun l_18 h => ?_)
     refine ⟨h.1, h.2.1, ?_⟩
     replace h := h.2.2
     refine ptrN_mono h (fun b_19 o_20 h => ?_)
     refine ⟨h.1, ?_⟩
     replace h := h.2
     refine stN_mono h (fun h_21 h => ?_)
     refine ⟨h.1, h.2.1, ?_⟩
     replace h := h.2.2
     refine ptrN_mono h (fun b_22 o_23 h => ?_)
     refine ⟨h.1, ?_⟩
     replace h := h.2
     refine stN_mono h (fun h_24 h => ?_)
     refine AWP.rgn (F171_r4 (upd (upd (upd (upd E0 4 (sV x4)) 3 (sI (x3))) 2 (sI (x2))) 0 (sV (Value.slice x0a x0n x0c))) x11 h_24 _) ?_ (Rv 11 _ (Rv 0 _ (Rv 2 _ (Rv 3 _ (Rv 4 _ (Rn)))))) (Sc rfl (Sc rfl (Sc rfl (Sc rfl (Sc rfl (Sn)))))) (Sn)
     exact ⟨x11, (Sc rfl (Sc rfl (Sc rfl (Sc rfl (Sc rfl (Sn)))))), (Sn), h⟩
-- 147 slices.heapSortCmpFunc[interpreter/expiry.thing]
theorem F147_r0 (e : Env) (x1 : Int) (hp : HP) (K : Env → PV → HP → Prop) : RW Try.prog 60 [] (opsAt Try.f147 [0]) (List.range 2) (upd e 1 (sI (x1))) V0 hp K =
    (K (upd (upd (upd e 1 (sI (x1))) 13 (sI (x1))) 8 (sI (x1))) V0 hp) := by kernel_rfl
theorem F147_r1 (e : Env) (hp : HP) (K : Env → PV → HP → Prop) : RW Try.prog 60 [] (opsAt Try.f147 [1, 0]) (List.range 1) e V0 hp K =
    (K (upd e 9 (sI (0))) V0 hp) := by kernel_rfl
theorem F147_r2 (e : Env) (x1 : Int) (x2 : Int) (hp : HP) (K : Env → PV → HP → Prop) : RW Try.prog 60 [] (opsAt Try.f147 [1, 1, 0]) (List.range 4) (upd (upd e 2 (sI (x2))) 1 (sI (x1))) V0 hp K =
    (K (upd (upd (upd (upd (upd (upd e 2 (sI (x2))) 1 (sI (x1))) 14 (sI (x2))) 15 (sI (x1))) 16 (sI ((IntKind.wrap .i64 (x2 - x1))))) 10 (sI ((IntKind.wrap .i64 (x2 - x1))))) V0 hp) := by kernel_rfl
theorem F147_r3 (e : Env) (x12 : Int) (hp : HP) (K : Env → PV → HP → Prop) : RW Try.prog 60 [] (opsAt Try.f147 [1, 1, 1, 1, 1, 0, 0, 0, 0]) (List.range 2) (upd e 12 (sI (x12))) V0 hp K =
    (K (upd (upd (upd e 12 (sI (x12))) 32 (sI (x12))) 33 (sB ((decide ((x12 : Int) ≥ 0))))) V0 hp) := by kernel_rfl
theorem F147_r4 (e : Env) (x0a : Option Addr) (x0n : Nat) (x0c : Nat) (x8 : Int) (x12 : Int) (hp : HP) (K : Env → PV → HP → Prop) : RW Try.prog 60 [] (opsAt Try.f147 [1, 1, 1, 1, 1, 0, 0, 1, 0, 0, 0]) (List.range 20) (upd (upd (upd e 12 (sI (x12))) 8 (sI (x8))) 0 (sV (Value.slice x0a x0n x0c))) V0 hp K =
    ((0 ≤ ((IntKind.wrap .i64 (x8 + x12)) : Int)) ∧ (((IntKind.wrap .i64 (x8 + x12)) : Int) < (x0n : Nat)) ∧ (ptrN x0a fun b1 o2 => (ldL (HP.cellN hp b1 (o2 + Int.toNat (IntKind.wrap .i64 (x8 + x12)) * 2) 2) fun l3 => ((0 ≤ (x8 : Int)) ∧ ((x8 : Int) < (x0n : Nat)) ∧ (ptrN x0a fun b4 o5 => (ldL (HP.cellN hp b4 (o5 + Int.toNat x8 * 2) 2) fun l6 => ((0 ≤ (x8 : Int)) ∧ ((x8 : Int) < (x0n : Nat)) ∧ (ptrN x0a fun b7 o8 => ((List.length l3 = 2) ∧ (HP.stN hp b7 (o8 + Int.toNat x8 * 2) l3 fun h9 => ((0 ≤ ((IntKind.wrap .i64 (x8 + x12)) : Int)) ∧ (((IntKind.wrap .i64 (x8 + x12)) : Int) < (x0n : Nat)) ∧ (ptrN x0a fun b10 o11 => ((List.length l6 = 2) ∧ (HP.stN h9 b10 (o11 + Int.toNat (IntKind.wrap .i64 (x8 + x12)) * 2) l6 fun h12 => (K (upd (upd (upd (upd (upd (upd (upd (upd (upd (upd (upd (upd (upd (upd (upd (upd (upd (upd (upd (upd (upd e 12 (sI (x12))) 8 (sI (x8))) 0 (sV (Value.slice x0a x0n x0c))) 36 (sV (Value.slice x0a x0n x0c))) 37 (sI (x8))) 38 (sV (Value.slice x0a x0n x0c))) 39 (sI (x8))) 40 (sI (x12))) 41 (sI ((IntKind.wrap .i64 (x8 + x12))))) 42 (sV (Value.slice x0a x0n x0c))) 43 (sI (x8))) 44 (sI (x12))) 45 (sI ((IntKind.wrap .i64 (x8 + x12))))) 46 (sV (ptr b1 (o2 + Int.toNat (IntKind.wrap .i64 (x8 + x12)) * 2)))) 47 (sV (Value.agg ⟨l3⟩))) 48 (sV (Value.slice x0a x0n x0c))) 49 (sI (x8))) 50 (sV (ptr b4 (o5 + Int.toNat x8 * 2)))) 51 (sV (Value.agg ⟨l6⟩))) 52 (sV (ptr b7 (o8 + Int.toNat x8 * 2)))) 53 (sV (ptr b10 (o11 + Int.toNat (IntKind.wrap .i64 (x8 + x12)) * 2)))) V0 h12))))))))))))))) := by kernel_rfl
theorem F147_r5 (e : Env) (x0a : Option Addr) (x0n : Nat) (x0c : Nat) (x3 : Value) (x8 : Int) (x9 : Int) (x12 : Int) (hp : HP) (K : Env → PV → HP → Prop) : RW Try.prog 60 [] (opsAt Try.f147 [1, 1, 1, 1, 1, 0, 0, 1, 0, 0, 1]) (List.range 6) (upd (upd (upd (upd (upd e 12 (sI (x12))) 9 (sI (x9))) 8 (sI (x8))) 3 (sV x3)) 0 (sV (Value.slice x0a x0n x0c))) V0 hp K =
    (CF Try.prog 171 [(Value.slice x0a x0n x0c), (Value.int .i64 x9), (Value.int .i64 x12), (Value.int .i64 x8), x3] hp fun u1 h2 => (K (upd (upd (upd (upd (upd (upd (upd (upd (upd (upd (upd e 12 (sI (x12))) 9 (sI (x9))) 8 (sI (x8))) 3 (sV x3)) 0 (sV (Value.slice x0a x0n x0c))) 54 (sV (Value.slice x0a x0n x0c))) 55 (sI (x9))) 56 (sI (x12))) 57 (sI (x8))) 58 (sV x3)) 59 (sV u1)) V0 h2)) := by kernel_rfl
theorem F147_r6 (e : Env) (x12 : Int) (hp : HP) (K : Env → PV → HP → Prop) : RW Try.prog 60 [] (opsAt Try.f147 [1, 1, 1, 1, 1, 0, 0, 1, 1]) (List.range 3) (upd e 12 (sI (x12))) V0 hp K =
    (K (upd (upd (upd (upd e 12 (sI (x12))) 34 (sI (x12))) 35 (sI ((IntKind.wrap .i64 (x12 - 1))))) 12 (sI ((IntKind.wrap .i64 (x12 - 1))))) V0 hp) := by kernel_rfl
def F147_l3 (x0a : Option Addr) (x0n : Nat) (x0c : Nat) (x3 : Value) (x8 : Int) (x9 : Int) (K : Value → HP → Prop) (I3 : (Int) → HP → Prop) (x12 : Int) (hp : HP) : Prop :=
  (ite2 (decide ((x12 : Int) ≥ 0)) ((0 ≤ ((IntKind.wrap .i64 (x8 + x12)) : Int)) ∧ (((IntKind.wrap .i64 (x8 + x12)) : Int) < (x0n : Nat)) ∧ (ptrN x0a fun b_1 o_2 => (ldL (HP.cellN hp b_1 (o_2 + Int.toNat (IntKind.wrap .i64 (x8 + x12)) * 2) 2) fun l_3 => ((0 ≤ (x8 : Int)) ∧ ((x8 : Int) < (x0n : Nat)) ∧ (ptrN x0a fun b_4 o_5 => (ldL (HP.cellN hp b_4 (o_5 + Int.toNat x8 * 2) 2) fun l_6 => ((0 ≤ (x8 : Int)) ∧ ((x8 : Int) < (x0n : Nat)) ∧ (ptrN x0a fun b_7 o_8 => ((List.length l_3 = 2) ∧ (HP.stN hp b_7 (o_8 + Int.toNat x8 * 2) l_3 fun h_9 => ((0 ≤ ((IntKind.wrap .i64 (x8 + x12)) : Int)) ∧ (((IntKind.wrap .i64 (x8 + x12)) : Int) < (x0n : Nat)) ∧ (ptrN x0a fun b_10 o_11 => ((List.length l_6 = 2) ∧ (HP.stN h_9 b_10 (o_11 + Int.toNat (IntKind.wrap .i64 (x8 + x12)) * 2) l_6 fun h_12 => (CF Try.prog 171 [(Value.slice x0a x0n x0c), (Value.int .i64 x9), (Value.int .i64 x12), (Value.int .i64 x8), x3] h_12 fun u_13 h_14 => (I3 (IntKind.wrap .i64 (x12 - 1)) h_14)))))))))))))))) (K (.tuple ⟨[]⟩) hp))
def F147_j2 (x0a : Option Addr) (x0n : Nat) (x0c : Nat) (x3 : Value) (x8 : Int) (x9 : Int) (x12 : Int) (hp : HP) (K : Value → HP → Prop) : Prop :=
  (LoopP (σ := Int) (fun I s hp => F147_l3 x0a x0n x0c x3 x8 x9  K I s hp) x12 hp)
theorem F147_r7 (e : Env) (x10 : Int) (hp : HP) (K : Env → PV → HP → Prop) : RW Try.prog 60 [] (opsAt Try.f147 [1, 1, 1, 1, 0]) (List.range 3) (upd e 10 (sI (x10))) V0 hp K =
    (K (upd (upd (upd (upd e 10 (sI (x10))) 30 (sI (x10))) 31 (sI ((IntKind.wrap .i64 (x10 - 1))))) 12 (sI ((IntKind.wrap .i64 (x10 - 1))))) V0 hp) := by kernel_rfl
def F147_j1 (x0a : Option Addr) (x0n : Nat) (x0c : Nat) (x3 : Value) (x8 : Int) (x9 : Int) (x10 : Int) (hp : HP) (K : Value → HP → Prop) : Prop :=
  (F147_j2 x0a x0n x0c x3 x8 x9 (IntKind.wrap .i64 (x10 - 1)) hp  K)
theorem F147_r8 (e : Env) (x11 : Int) (hp : HP) (K : Env → PV → HP → Prop) : RW Try.prog 60 [] (opsAt Try.f147 [1, 1, 1, 0, 1, 0, 0, 0, 0]) (List.range 2) (upd e 11 (sI (x11))) V0 hp K =
    (K (upd (upd (upd e 11 (sI (x11))) 20 (sI (x11))) 21 (sB ((decide ((x11 : Int) ≥ 0))))) V0 hp) := by kernel_rfl
theorem F147_r9 (e : Env) (x0a : Option Addr) (x0n : Nat) (x0c : Nat) (x3 : Value) (x8 : Int) (x10 : Int) (x11 : Int) (hp : HP) (K : Env → PV → HP → Prop) : RW Try.prog 60 [] (opsAt Try.f147 [1, 1, 1, 0, 1, 0, 0, 1, 0, 0]) (List.range 6) (upd (upd (upd (upd (upd e 11 (sI (x11))) 10 (sI (x10))) 8 (sI (x8))) 3 (sV x3)) 0 (sV (Value.slice x0a x0n x0c))) V0 hp K =
    (CF Try.prog 171 [(Value.slice x0a x0n x0c), (Value.int .i64 x11), (Value.int .i64 x10), (Value.int .i64 x8), x3] hp fun u1 h2 => (K (upd (upd (upd (upd (upd (upd (upd (upd (upd (upd (upd e 11 (sI (x11))) 10 (sI (x10))) 8 (sI (x8))) 3 (sV x3)) 0 (sV (Value.slice x0a x0n x0c))) 24 (sV (Value.slice x0a x0n x0c))) 25 (sI (x11))) 26 (sI (x10))) 27 (sI (x8))) 28 (sV x3)) 29 (sV u1)) V0 h2)) := by kernel_rfl
theorem F147_r10 (e : Env) (x11 : Int) (hp : HP) (K : Env → PV → HP → Prop) : RW Try.prog 60 [] (opsAt Try.f147 [1, 1, 1, 0, 1, 0, 0, 1, 1]) (List.range 3) (upd e 11 (sI (x11))) V0 hp K =
    (K (upd (upd (upd (upd e 11 (sI (x11))) 22 (sI (x11))) 23 (sI ((IntKind.wrap .i64 (x11 - 1))))) 11 (sI ((IntKind.wrap .i64 (x11 - 1))))) V0 hp) := by kernel_rfl
def F147_l5 (x0a : Option Addr) (x0n : Nat) (x0c : Nat) (x3 : Value) (x8 : Int) (x9 : Int) (x10 : Int) (K : Value → HP → Prop) (I5 : (Int) → HP → Prop) (x11 : Int) (hp : HP) : Prop :=
  (ite2 (decide ((x11 : Int) ≥ 0)) (CF Try.prog 171 [(Value.slice x0a x0n x0c), (Value.int .i64 x11), (Value.int .i64 x10), (Value.int .i64 x8), x3] hp fun u_15 h_16 => (I5 (IntKind.wrap .i64 (x11 - 1)) h_16)) (F147_j1 x0a x0n x0c x3 x8 x9 x10 hp  K))
def F147_j4 (x0a : Option Addr) (x0n : Nat) (x0c : Nat) (x3 : Value) (x8 : Int) (x9 : Int) (x10 : Int) (x11 : Int) (hp : HP) (K : Value → HP → Prop) : Prop :=
  (LoopP (σ := Int) (fun I s hp => F147_l5 x0a x0n x0c x3 x8 x9 x10  K I s hp) x11 hp)
theorem F147_r11 (e : Env) (x10 : Int) (hp : HP) (K : Env → PV → HP → Prop) : RW Try.prog 60 [] (opsAt Try.f147 [1, 1, 1, 0, 0]) (List.range 4) (upd e 10 (sI (x10))) V0 hp K =
    (((2 : Int) ≠ 0) ∧ (K (upd (upd (upd (upd (upd e 10 (sI (x10))) 17 (sI (x10))) 18 (sI ((IntKind.wrap .i64 (x10 - 1))))) 19 (sI ((IntKind.wrap .i64 (Int.tdiv (IntKind.wrap .i64 (x10 - 1)) 2))))) 11 (sI ((IntKind.wrap .i64 (Int.tdiv (IntKind.wrap .i64 (x10 - 1)) 2))))) V0 hp)) := by kernel_rfl
def F147 (x0a : Option Addr) (x0n : Nat) (x0c : Nat) (x1 : Int) (x2 : Int) (x3 : Value) (hp : HP) (K : Value → HP → Prop) : Prop :=
  (((2 : Int) ≠ 0) ∧ (F147_j4 x0a x0n x0c x3 x1 0 (IntKind.wrap .i64 (x2 - x1)) (IntKind.wrap .i64 (Int.tdiv (IntKind.wrap .i64 ((IntKind.wrap .i64 (x2 - x1)) - 1)) 2)) hp  K))
noncomputable def F147_code : Code := (.seq (.region 0 (opsAt Try.f147 [0]) false) (.seq (.region 1 (opsAt Try.f147 [1, 0]) false) (.seq (.region 2 (opsAt Try.f147 [1, 1, 0]) false) (.seq (.seq (.region 3 (opsAt Try.f147 [1, 1, 1, 0, 0]) false) (.block 0 (.loop (.seq (.seq (.region 4 (opsAt Try.f147 [1, 1, 1, 0, 1, 0, 0, 0, 0]) false) (.cond (.tmp 21) .skip (.exit 0))) (.seq (.block 1 (.region 6 (opsAt Try.f147 [1, 1, 1, 0, 1, 0, 0, 1, 0, 0]) false)) (.region 5 (opsAt Try.f147 [1, 1, 1, 0, 1, 0, 0, 1, 1]) false)))))) (.seq (.region 7 (opsAt Try.f147 [1, 1, 1, 1, 0]) false) (.block 2 (.loop (.seq (.seq (.region 8 (opsAt Try.f147 [1, 1, 1, 1, 1, 0, 0, 0, 0]) false) (.cond (.tmp 33) .skip (.exit 2))) (.seq (.block 3 (.seq (.region 10 (opsAt Try.f147 [1, 1, 1, 1, 1, 0, 0, 1, 0, 0, 0]) true) (.region 11 (opsAt Try.f147 [1, 1, 1, 1, 1, 0, 0, 1, 0, 0, 1]) false))) (.region 9 (opsAt Try.f147 [1, 1, 1, 1, 1, 0, 0, 1, 1]) false))))))))))
theorem F147_body : Try.f147.body = some F147_code := by kernel_rfl
theorem F147_ok (x0a : Option Addr) (x0n : Nat) (x0c : Nat) (x1 : Int) (x2 : Int) (x3 : Value) (hp : HP) (K : Value → HP → Prop) (h : F147 x0a x0n x0c x1 x2 x3 hp K) : CF Try.prog 147 [(Value.slice x0a x0n x0c), (Value.int .i64 x1), (Value.int .i64 x2), x3] hp K := by
 refine .inl ⟨by kernel_rfl, AC.intro (N := 60) Try.func147 F147_body rfl (Nat.le_of_ble_eq_true rfl) ?_⟩
 unfold F147 at h
 unfold F147_code
 refine AWP.seq' ?_
 refine AWP.rgn (F147_r0 (upd (upd (upd E0 3 (sV x3)) 2 (sI (x2))) 0 (sV (Value.slice x0a x0n x0c))) x1 hp _) ?_ (Rv 1 _ (Rv 0 _ (Rv 2 _ (Rv 3 _ (Rn))))) (Sc rfl (Sc rfl (Sc rfl (Sc rfl (Sn))))) (Sn)
 refine AWP.seq' ?_
 refine AWP.rgn (F147_r1 (upd (upd (upd (upd (upd E0 8 (sI (x1))) 3 (sV x3)) 2 (sI (x2))) 1 (sI (x1))) 0 (sV (Value.slice x0a x0n x0c)))  hp _) ?_ (Rv 0 _ (Rv 1 _ (Rv 2 _ (Rv 3 _ (Rv 8 _ (Rn)))))) (Sc rfl (Sc rfl (Sc rfl (Sc rfl (Sc rfl (Sn)))))) (Sn)
 refine AWP.seq' ?_
 refine AWP.rgn (F147_r2 (upd (upd (upd (upd E0 9 (sI (0))) 8 (sI (x1))) 3 (sV x3)) 0 (sV (Value.slice x0a x0n x0c))) x1 x2 hp _) ?_ (Rv 1 _ (Rv 2 _ (Rv 0 _ (Rv 3 _ (Rv 8 _ (Rv 9 _ (Rn))))))) (Sc rfl (Sc rfl (Sc rfl (Sc rfl (Sc rfl (Sc rfl (Sn))))))) (Sn)
 refine AWP.seq (fun env pv hp => ∃ (x0a : Option Addr) (x0n : Nat) (x0c : Nat) (x3 : Value) (x8 : Int) (x9 : Int) (x10 : Int), Sub (upd (upd (upd (upd (upd E0 10 (sI (x10))) 9 (sI (x9))) 8 (sI (x8))) 3 (sV x3)) 0 (sV (Value.slice x0a x0n x0c))) env ∧ Sub V0 pv ∧ (F147_j1 x0a x0n x0c x3 x8 x9 x10 hp  K)) ?_ ?_
 ·refine AWP.seq (fun env pv hp => ∃ (x0a : Option Addr) (x0n : Nat) (x0c : Nat) (x3 : Value) (x8 : Int) (x9 : Int) (x10 : Int) (x11 : Int), Sub (upd (upd (upd (upd (upd (upd E0 11 (sI (x11))) 10 (sI (x10))) 9 (sI (x9))) 8 (sI (x8))) 3 (sV x3)) 0 (sV (Value.slice x0a x0n x0c))) env ∧ Sub V0 pv ∧ (F147_j4 x0a x0n x0c x3 x8 x9 x10 x11 hp  K)) ?_ ?_
  ·refine AWP.rgn (F147_r11 (upd (upd (upd (upd E0 9 (sI (0))) 8 (sI (x1))) 3 (sV x3)) 0 (sV (Value.slice x0a x0n x0c))) (IntKind.wrap .i64 (x2 - x1)) hp _) ?_ (Rv 10 _ (Rv 0 _ (Rv 3 _ (Rv 8 _ (Rv 9 _ (Rn)))))) (Sc rfl (Sc rfl (Sc rfl (Sc rfl (Sc rfl (Sn)))))) (Sn)
   refine ⟨h.1, ?_⟩
   replace h := h.2
   exact ⟨x0a, x0n, x0c, x3, x1, 0, (IntKind.wrap .i64 (x2 - x1)), (IntKind.wrap .i64 (Int.tdiv (IntKind.wrap .i64 ((IntKind.wrap .i64 (x2 - x1)) - 1)) 2)), (Sc rfl (Sc rfl (Sc rfl (Sc rfl (Sc rfl (Sc rfl (Sn))))))), (Sn), h⟩
  ·rintro env pv hp ⟨x0a, x0n, x0c, x3, x8, x9, x10, x11, he, hv, h⟩
   refine AWP.sub (env' := (upd (upd (upd (upd (upd (upd E0 11 (sI (x11))) 10 (sI (x10))) 9 (sI (x9))) 8 (sI (x8))) 3 (sV x3)) 0 (sV (Value.slice x0a x0n x0c)))) (pv' := V0) ?_ (Rv 0 _ (Rv 3 _ (Rv 8 _ (Rv 9 _ (Rv 10 _ (Rv 11 _ (Rn))))))) he hv (HSub.refl _)
   clear he hv
   unfold F147_j4 at h
   refine AWP.block ?_
   refine AWP.loop (σ := Int) (fun I s hp => F147_l5 x0a x0n x0c x3 x8 x9 x10  K I s hp) (fun s => (upd (upd (upd (upd (upd (upd E0 11 (sI (s))) 10 (sI (x10))) 9 (sI (x9))) 8 (sI (x8))) 3 (sV x3)) 0 (sV (Value.slice x0a x0n x0c)))) (fun s => V0) x11 h (fun s => (Rv 0 _ (Rv 3 _ (Rv 8 _ (Rv 9 _ (Rv 10 _ (Rv 11 _ (Rn)))))))) (Sc rfl (Sc rfl (Sc rfl (Sc rfl (Sc rfl (Sc rfl (Sn))))))) (Sn) ?_
   intro I5 s hp h
   obtain ⟨x11, hs⟩ : ∃ x, x = s := ⟨s, rfl⟩
   subst hs
   replace h : F147_l5 x0a x0n x0c x3 x8 x9 x10  K I5 x11 hp := h
   unfold F147_l5 at h
   refine AWP.seq' ?_
   refine AWP.seq' ?_
   refine AWP.rgn (F147_r8 (upd (upd (upd (upd (upd E0 10 (sI (x10))) 9 (sI (x9))) 8 (sI (x8))) 3 (sV x3)) 0 (sV (Value.slice x0a x0n x0c))) x11 hp _) ?_ (Rv 11 _ (Rv 0 _ (Rv 3 _ (Rv 8 _ (Rv 9 _ (Rv 10 _ (Rn))))))) (Sc rfl (Sc rfl (Sc rfl (Sc rfl (Sc rfl (Sc rfl (Sn))))))) (Sn)
   refine AWP.cond (t := (decide ((x11 : Int) ≥ 0))) rfl (fun e => ?_) (fun e => ?_)
   ·replace h := ite2_t h e
    refine AWP.skip ?_
    refine AWP.seq' ?_
    refine AWP.block ?_
    refine AWP.rgn (F147_r9 (upd E0 9 (sI (x9))) x0a x0n x0c x3 x8 x10 x11 hp _) ?_ (Rv 0 _ (Rv 3 _ (Rv 8 _ (Rv 10 _ (Rv 11 _ (Rv 9 _ (Rn))))))) (Sc rfl (Sc rfl (Sc rfl (Sc rfl (Sc rfl (Sc rfl (Sn))))))) (Sn)
    refine CF_mono h (fun u_15 h_16 h => ?_)
    refine AWP.rgn (F147_r10 (upd (upd (upd (upd (upd E0 10 (sI (x10))) 9 (sI (x9))) 8 (sI (x8))) 3 (sV x3)) 0 (sV (Value.slice x0a x0n x0c))) x11 h_16 _) ?_ (Rv 11 _ (Rv 0 _ (Rv 3 _ (Rv 8 _ (Rv 9 _ (Rv 10 _ (Rn))))))) (Sc rfl (Sc rfl (Sc rfl (Sc rfl (Sc rfl (Sc rfl (Sn))))))) (Sn)
    exact ⟨(IntKind.wrap .i64 (x11 - 1)), (Sc rfl (Sc rfl (Sc rfl (Sc rfl (Sc rfl (Sc rfl (Sn))))))), (Sn), h⟩
   ·replace h := ite2_f h e
    refine AWP.exit ?_
    exact ⟨x0a, x0n, x0c, x3, x8, x9, x10, (Sc rfl (Sc rfl (Sc rfl (Sc rfl (Sc rfl (Sn)))))), (Sn), h⟩
 ·rintro env pv hp ⟨x0a, x0n, x0c, x3, x8, x9, x10, he, hv, h⟩
  refine AWP.sub (env' := (upd (upd (upd (upd (upd E0 10 (sI (x10))) 9 (sI (x9))) 8 (sI (x8))) 3 (sV x3)) 0 (sV (Value.slice x0a x0n x0c)))) (pv' := V0) ?_ (Rv 0 _ (Rv 3 _ (Rv 8 _ (Rv 9 _ (Rv 10 _ (Rn)))))) he hv (HSub.refl _)
  clear he hv
  unfold F147_j1 at h
  refine AWP.seq (fun env pv hp => ∃ (x0a : Option Addr) (x0n : Nat) (x0c : Nat) (x3 : Value) (x8 : Int) (x9 : Int) (x12 : Int), Sub (upd (upd (upd (upd (upd E0 12 (sI (x12))) 9 (sI (x9))) 8 (sI (x8))) 3 (sV x3)) 0 (sV (Value.slice x0a x0n x0c))) env ∧ Sub V0 pv ∧ (F147_j2 x0a x0n x0c x3 x8 x9 x12 hp  K)) ?_ ?_
  ·refine AWP.rgn (F147_r7 (upd (upd (upd (upd E0 9 (sI (x9))) 8 (sI (x8))) 3 (sV x3)) 0 (sV (Value.slice x0a x0n x0c))) x10 hp _) ?_ (Rv 10 _ (Rv 0 _ (Rv 3 _ (Rv 8 _ (Rv 9 _ (Rn)))))) (Sc rfl (Sc rfl (Sc rfl (Sc rfl (Sc rfl (Sn)))))) (Sn)
   exact ⟨x0a, x0n, x0c, x3, x8, x9, (IntKind.wrap .i64 (x10 - 1)), (Sc rfl (Sc rfl (Sc rfl (Sc rfl (Sc rfl (Sn)))))), (Sn), h⟩
  ·rintro env pv hp ⟨x0a, x0n, x0c, x3, x8, x9, x12, he, hv, h⟩
   refine AWP.sub (env' := (upd (upd (upd (upd (upd E0 12 (sI (x12))) 9 (sI (x9))) 8 (sI (x8))) 3 (sV x3)) 0 (sV (Value.slice x0a x0n x0c)))) (pv' := V0) ?_ (Rv 0 _ (Rv 3 _ (Rv 8 _ (Rv 9 _ (Rv 12 _ (Rn)))))) he hv (HSub.refl _)
   clear he hv
   unfold F147_j2 at h
   refine AWP.block ?_
   refine AWP.loop (σ := Int) (fun I s hp => F147_l3 x0a x0n x0c x3 x8 x9  K I s hp) (fun s => (upd (upd (upd (upd (upd E0 12 (sI (s))) 9 (sI (x9))) 8 (sI (x8))) 3 (sV x3)) 0 (sV (Value.slice x0a x0n x0c)))) (fun s => V0) x12 h (fun s => (Rv 0 _ (Rv 3 _ (Rv 8 _ (Rv 9 _ (Rv 12 _ (Rn))))))) (Sc rfl (Sc rfl (Sc rfl (Sc rfl (Sc rfl (Sn)))))) (Sn) ?_
   intro I3 s hp h
   obtain ⟨x12, hs⟩ : ∃ x, x = s := ⟨s, rfl⟩
   subst hs
   replace h : F147_l3 x0a x0n x0c x3 x8 x9  K I3 x12 hp := h
   unfold F147_l3 at h
   refine AWP.seq' ?_
   refine AWP.seq' ?_
   refine AWP.rgn (F147_r3 (upd (upd (upd (upd E0 9 (sI (x9))) 8 (sI (x8))) 3 (sV x3)) 0 (sV (Value.slice x0a x0n x0c))) x12 hp _) ?_ (Rv 12 _ (Rv 0 _ (Rv 3 _ (Rv 8 _ (Rv 9 _ (Rn)))))) (Sc rfl (Sc rfl (Sc rfl (Sc rfl (Sc rfl (Sn)))))) (Sn)
   refine AWP.cond (t := (decide ((x12 : Int) ≥ 0))) rfl (fun e => ?_) (fun e => ?_)
   ·replace h := ite2_t h e
    refine AWP.skip ?_
    refine AWP.seq' ?_
    refine AWP.block ?_
    refine AWP.seq' ?_
    refine AWP.rgnD (by kernel_rfl) (by kernel_rfl) (F147_r4 (upd (upd E0 9 (sI (x9))) 3 (sV x3)) x0a x0n x0c x8 x12 hp _) ?_ (Rv 0 _ (Rv 8 _ (Rv 12 _ (Rv 3 _ (Rv 9 _ (Rn)))))) (Sc rfl (Sc rfl (Sc rfl (Sc rfl (Sc rfl (Sn)))))) (Sn)
    refine ⟨h.1, h.2.1, ?_⟩
    replace h := h.2.2
    refine ptrN_mono h (fun b_1 o_2 h => ?_)
    refine ldL_mono h (fun l_3 h => ?_)
    refine ⟨h.1, h.2.1, ?_⟩
    replace h := h.2.2
    refine ptrN_mono h (fun b_4 o_5 h => ?_)
    refine ldL_mono h (fun l_6 h => ?_)
    refine ⟨h.1, h.2.1, ?_⟩
    replace h := h.2.2
    refine ptrN_mono h (fun b_7 o_8 h => ?_)
    refine ⟨h.1, ?_⟩
    replace h := h.2
    refine stN_mono h (fun h_9 h => ?_)
    refine ⟨h.1, h.2.1, ?_⟩
    replace h := h.2.2
    refine ptrN_mono h (fun b_10 o_11 h => ?_)
    refine ⟨h.1, ?_⟩
    replace h := h.2
    refine stN_mono h (fun h_12 h => ?_)
    refine AWP.rgn (F147_r5 E0 x0a x0n x0c x3 x8 x9 x12 h_12 _) ?_ (Rv 0 _ (Rv 3 _ (Rv 8 _ (Rv 9 _ (Rv 12 _ (Rn)))))) (Sc rfl (Sc rfl (Sc rfl (Sc rfl (Sc rfl (Sn)))))) (Sn)
    refine CF_mono h (fun u_13 h_14 h => ?_)
    refine AWP.rgn (F147_r6 (upd (upd (upd (upd E0 9 (sI (x9))) 8 (sI (x8))) 3 (sV x3)) 0 (sV (Value.slice x0a x0n x0c))) x12 h_14 _) ?_ (Rv 12 _ (Rv 0 _ (Rv 3 _ (Rv 8 _ (Rv 9 _ (Rn)))))) (Sc rfl (Sc rfl (Sc rfl (Sc rfl (Sc rfl (Sn)))))) (Sn)
    exact ⟨(IntKind.wrap .i64 (x12 - 1)), (Sc rfl (Sc rfl (Sc rfl (Sc rfl (Sc rfl (Sn)))))), (Sn), h⟩
   ·replace h := ite2_f h e
    refine AWP.exit ?_
    exact h
-- 150 slices.reverseRangeCmpFunc[interpreter/expiry.thing]
theorem F150_r0 (e : Env) (x1 : Int) (hp : HP) (K : Env → PV → HP → Prop) : RW Try.prog 34 [] (opsAt Try.f150 [0]) (List.range 2) (upd e 1 (sI (x1))) V0 hp K =
    (K (upd (upd (upd e 1 (sI (x1))) 10 (sI (x1))) 8 (sI (x1))) V0 hp) := by kernel_rfl
theorem F150_r1 (e : Env) (x8 : Int) (x9 : Int) (hp : HP) (K : Env → PV → HP → Prop) : RW Try.prog 34 [] (opsAt Try.f150 [1, 1, 0, 0, 0, 0]) (List.range 3) (upd (upd e 9 (sI (x9))) 8 (sI (x8))) V0 hp K =
    (K (upd (upd (upd (upd (upd e 9 (sI (x9))) 8 (sI (x8))) 13 (sI (x8))) 14 (sI (x9))) 15 (sB ((decide ((x8 : Int) < x9))))) V0 hp) := by kernel_rfl
theorem F150_r2 (e : Env) (x0a : Option Addr) (x0n : Nat) (x0c : Nat) (x8 : Int) (x9 : Int) (hp : HP) (K : Env → PV → HP → Prop) : RW Try.prog 34 [] (opsAt Try.f150 [1, 1, 0, 0, 1, 0, 0]) (List.range 16) (upd (upd (upd e 9 (sI (x9))) 8 (sI (x8))) 0 (sV (Value.slice x0a x0n x0c))) V0 hp K =
    ((0 ≤ (x9 : Int)) ∧ ((x9 : Int) < (x0n : Nat)) ∧ (ptrN x0a fun b1 o2 => (ldL (HP.cellN hp b1 (o2 + Int.toNat x9 * 2) 2) fun l3 => ((0 ≤ (x8 : Int)) ∧ ((x8 : Int) < (x0n : Nat)) ∧ (ptrN x0a fun b4 o5 => (ldL (HP.cellN hp b4 (o5 + Int.toNat x8 * 2) 2) fun l6 => ((0 ≤ (x8 : Int)) ∧ ((x8 : Int) < (x0n : Nat)) ∧ (ptrN x0a fun b7 o8 => ((List.length l3 = 2) ∧ (HP.stN hp b7 (o8 + Int.toNat x8 * 2) l3 fun h9 => ((0 ≤ (x9 : Int)) ∧ ((x9 : Int) < (x0n : Nat)) ∧ (ptrN x0a fun b10 o11 => ((List.length l6 = 2) ∧ (HP.stN h9 b10 (o11 + Int.toNat x9 * 2) l6 fun h12 => (K (upd (upd (upd (upd (upd (upd (upd (upd (upd (upd (upd (upd (upd (upd (upd (upd (upd e 9 (sI (x9))) 8 (sI (x8))) 0 (sV (Value.slice x0a x0n x0c))) 16 (sV (Value.slice x0a x0n x0c))) 17 (sI (x8))) 18 (sV (Value.slice x0a x0n x0c))) 19 (sI (x9))) 20 (sV (Value.slice x0a x0n x0c))) 21 (sI (x9))) 22 (sV (ptr b1 (o2 + Int.toNat x9 * 2)))) 23 (sV (Value.agg ⟨l3⟩))) 24 (sV (Value.slice x0a x0n x0c))) 25 (sI (x8))) 26 (sV (ptr b4 (o5 + Int.toNat x8 * 2)))) 27 (sV (Value.agg ⟨l6⟩))) 28 (sV (ptr b7 (o8 + Int.toNat x8 * 2)))) 29 (sV (ptr b10 (o11 + Int.toNat x9 * 2)))) V0 h12))))))))))))))) := by kernel_rfl
theorem F150_r3 (e : Env) (x8 : Int) (hp : HP) (K : Env → PV → HP → Prop) : RW Try.prog 34 [] (opsAt Try.f150 [1, 1, 0, 0, 1, 0, 1, 0]) (List.range 3) (upd e 8 (sI (x8))) V0 hp K =
    (K (upd (upd (upd (upd e 8 (sI (x8))) 30 (sI (x8))) 31 (sI ((IntKind.wrap .i64 (x8 + 1))))) 8 (sI ((IntKind.wrap .i64 (x8 + 1))))) V0 hp) := by kernel_rfl
theorem F150_r4 (e : Env) (x9 : Int) (hp : HP) (K : Env → PV → HP → Prop) : RW Try.prog 34 [] (opsAt Try.f150 [1, 1, 0, 0, 1, 0, 1, 1]) (List.range 3) (upd e 9 (sI (x9))) V0 hp K =
    (K (upd (upd (upd (upd e 9 (sI (x9))) 32 (sI (x9))) 33 (sI ((IntKind.wrap .i64 (x9 - 1))))) 9 (sI ((IntKind.wrap .i64 (x9 - 1))))) V0 hp) := by kernel_rfl
def F150_l2 (x0a : Option Addr) (x0n : Nat) (x0c : Nat) (K : Value → HP → Prop) (I2 : (Int × Int) → HP → Prop) (x8 : Int) (x9 : Int) (hp : HP) : Prop :=
  (ite2 (decide ((x8 : Int) < x9)) ((0 ≤ (x9 : Int)) ∧ ((x9 : Int) < (x0n : Nat)) ∧ (ptrN x0a fun b_1 o_2 => (ldL (HP.cellN hp b_1 (o_2 + Int.toNat x9 * 2) 2) fun l_3 => ((0 ≤ (x8 : Int)) ∧ ((x8 : Int) < (x0n : Nat)) ∧ (ptrN x0a fun b_4 o_5 => (ldL (HP.cellN hp b_4 (o_5 + Int.toNat x8 * 2) 2) fun l_6 => ((0 ≤ (x8 : Int)) ∧ ((x8 : Int) < (x0n : Nat)) ∧ (ptrN x0a fun b_7 o_8 => ((List.length l_3 = 2) ∧ (HP.stN hp b_7 (o_8 + Int.toNat x8 * 2) l_3 fun h_9 => ((0 ≤ (x9 : Int)) ∧ ((x9 : Int) < (x0n : Nat)) ∧ (ptrN x0a fun b_10 o_11 => ((List.length l_6 = 2) ∧ (HP.stN h_9 b_10 (o_11 + Int.toNat x9 * 2) l_6 fun h_12 => (I2 ((IntKind.wrap .i64 (x8 + 1)), (IntKind.wrap .i64 (x9 - 1))) h_12))))))))))))))) (K (.tuple ⟨[]⟩) hp))
def F150_j1 (x0a : Option Addr) (x0n : Nat) (x0c : Nat) (x8 : Int) (x9 : Int) (hp : HP) (K : Value → HP → Prop) : Prop :=
  (LoopP (σ := Int × Int) (fun I s hp => F150_l2 x0a x0n x0c  K I s.1 s.2 hp) (x8, x9) hp)
theorem F150_r5 (e : Env) (x2 : Int) (hp : HP) (K : Env → PV → HP → Prop) : RW Try.prog 34 [] (opsAt Try.f150 [1, 0]) (List.range 3) (upd e 2 (sI (x2))) V0 hp K =
    (K (upd (upd (upd (upd e 2 (sI (x2))) 11 (sI (x2))) 12 (sI ((IntKind.wrap .i64 (x2 - 1))))) 9 (sI ((IntKind.wrap .i64 (x2 - 1))))) V0 hp) := by kernel_rfl
def F150 (x0a : Option Addr) (x0n : Nat) (x0c : Nat) (x1 : Int) (x2 : Int) (x3 : Value) (hp : HP) (K : Value → HP → Prop) : Prop :=
  (F150_j1 x0a x0n x0c x1 (IntKind.wrap .i64 (x2 - 1)) hp  K)
noncomputable def F150_code : Code := (.seq (.region 0 (opsAt Try.f150 [0]) false) (.seq (.region 1 (opsAt Try.f150 [1, 0]) false) (.block 0 (.loop (.seq (.seq (.region 2 (opsAt Try.f150 [1, 1, 0, 0, 0, 0]) false) (.cond (.tmp 15) .skip (.exit 0))) (.block 1 (.seq (.region 3 (opsAt Try.f150 [1, 1, 0, 0, 1, 0, 0]) true) (.seq (.region 4 (opsAt Try.f150 [1, 1, 0, 0, 1, 0, 1, 0]) false) (.region 5 (opsAt Try.f150 [1, 1, 0, 0, 1, 0, 1, 1]) false)))))))))
theorem F150_body : Try.f150.body = some F150_code := by kernel_rfl
theorem F150_ok (x0a : Option Addr) (x0n : Nat) (x0c : Nat) (x1 : Int) (x2 : Int) (x3 : Value) (hp : HP) (K : Value → HP → Prop) (h : F150 x0a x0n x0c x1 x2 x3 hp K) : CF Try.prog 150 [(Value.slice x0a x0n x0c), (Value.int .i64 x1), (Value.int .i64 x2), x3] hp K := by
 refine .inl ⟨by kernel_rfl, AC.intro (N := 34) Try.func150 F150_body rfl (Nat.le_of_ble_eq_true rfl) ?_⟩
 unfold F150 at h
 unfold F150_code
 refine AWP.seq' ?_
 refine AWP.rgn (F150_r0 (upd (upd E0 2 (sI (x2))) 0 (sV (Value.slice x0a x0n x0c))) x1 hp _) ?_ (Rv 1 _ (Rv 0 _ (Rv 2 _ (Rn)))) (Sc rfl (Sc rfl (Sc rfl (Sn)))) (Sn)
 refine AWP.seq (fun env pv hp => ∃ (x0a : Option Addr) (x0n : Nat) (x0c : Nat) (x8 : Int) (x9 : Int), Sub (upd (upd (upd E0 9 (sI (x9))) 8 (sI (x8))) 0 (sV (Value.slice x0a x0n x0c))) env ∧ Sub V0 pv ∧ (F150_j1 x0a x0n x0c x8 x9 hp  K)) ?_ ?_
 ·refine AWP.rgn (F150_r5 (upd (upd E0 8 (sI (x1))) 0 (sV (Value.slice x0a x0n x0c))) x2 hp _) ?_ (Rv 2 _ (Rv 0 _ (Rv 8 _ (Rn)))) (Sc rfl (Sc rfl (Sc rfl (Sn)))) (Sn)
  exact ⟨x0a, x0n, x0c, x1, (IntKind.wrap .i64 (x2 - 1)), (Sc rfl (Sc rfl (Sc rfl (Sn)))), (Sn), h⟩
 ·rintro env pv hp ⟨x0a, x0n, x0c, x8, x9, he, hv, h⟩
  refine AWP.sub (env' := (upd (upd (upd E0 9 (sI (x9))) 8 (sI (x8))) 0 (sV (Value.slice x0a x0n x0c)))) (pv' := V0) ?_ (Rv 0 _ (Rv 8 _ (Rv 9 _ (Rn)))) he hv (HSub.refl _)
  clear he hv
  unfold F150_j1 at h
  refine AWP.block ?_
  refine AWP.loop (σ := Int × Int) (fun I s hp => F150_l2 x0a x0n x0c  K I s.1 s.2 hp) (fun s => (upd (upd (upd E0 9 (sI (s.2))) 8 (sI (s.1))) 0 (sV (Value.slice x0a x0n x0c)))) (fun s => V0) (x8, x9) h (fun s => (Rv 0 _ (Rv 8 _ (Rv 9 _ (Rn))))) (Sc rfl (Sc rfl (Sc rfl (Sn)))) (Sn) ?_
  intro I2 s hp h
  obtain ⟨x8, x9⟩ := s
  replace h : F150_l2 x0a x0n x0c  K I2 x8 x9 hp := h
  unfold F150_l2 at h
  refine AWP.seq' ?_
  refine AWP.seq' ?_
  refine AWP.rgn (F150_r1 (upd E0 0 (sV (Value.slice x0a x0n x0c))) x8 x9 hp _) ?_ (Rv 8 _ (Rv 9 _ (Rv 0 _ (Rn)))) (Sc rfl (Sc rfl (Sc rfl (Sn)))) (Sn)
  refine AWP.cond (t := (decide ((x8 : Int) < x9))) rfl (fun e => ?_) (fun e => ?_)
  ·replace h := ite2_t h e
   refine AWP.skip ?_
   refine AWP.block ?_
   refine AWP.seq' ?_
   refine AWP.rgnD (by kernel_rfl) (by kernel_rfl) (F150_r2 E0 x0a x0n x0c x8 x9 hp _) ?_ (Rv 0 _ (Rv 8 _ (Rv 9 _ (Rn)))) (Sc rfl (Sc rfl (Sc rfl (Sn)))) (Sn)
   refine ⟨h.1, h.2.1, ?_⟩
   replace h := h.2.2
   refine ptrN_mono h (fun b_1 o_2 h => ?_)
   refine ldL_mono h (fun l_3 h => ?_)
   refine ⟨h.1, h.2.1, ?_⟩
   replace h := h.2.2
   refine ptrN_mono h (fun b_4 o_5 h => ?_)
   refine ldL_mono h (fun l_6 h => ?_)
   refine ⟨h.1, h.2.1, ?_⟩
   replace h := h.2.2
   refine ptrN_mono h (fun b_7 o_8 h => ?_)
   refine ⟨h.1, ?_⟩
   replace h := h.2
   refine stN_mono h (fun h_9 h => ?_)
   refine ⟨h.1, h.2.1, ?_⟩
   replace h := h.2.2
   refine ptrN_mono h (fun b_10 o_11 h => ?_)
   refine ⟨h.1, ?_⟩
   replace h := h.2
   refine stN_mono h (fun h_12 h => ?_)
   refine AWP.seq' ?_
   refine AWP.rgn (F150_r3 (upd (upd E0 9 (sI (x9))) 0 (sV (Value.slice x0a x0n x0c))) x8 h_12 _) ?_ (Rv 8 _ (Rv 0 _ (Rv 9 _ (Rn)))) (Sc rfl (Sc rfl (Sc rfl (Sn)))) (Sn)
   refine AWP.rgn (F150_r4 (upd (upd E0 8 (sI ((IntKind.wrap .i64 (x8 + 1))))) 0 (sV (Value.slice x0a x0n x0c))) x9 h_12 _) ?_ (Rv 9 _ (Rv 0 _ (Rv 8 _ (Rn)))) (Sc rfl (Sc rfl (Sc rfl (Sn)))) (Sn)
   exact ⟨((IntKind.wrap .i64 (x8 + 1)), (IntKind.wrap .i64 (x9 - 1))), (Sc rfl (Sc rfl (Sc rfl (Sn)))), (Sn), h⟩
  ·replace h := ite2_f h e
   refine AWP.exit ?_
   exact h
-- 151 slices.partialInsertionSortCmpFunc[interpreter/expiry.thing]
theorem F151_r0 (e : Env) (hp : HP) (K : Env → PV → HP → Prop) : RW Try.prog 141 [] (opsAt Try.f151 [0]) (List.range 1) e V0 hp K =
    (K (upd e 8 (sB (false))) V0 hp) := by kernel_rfl
theorem F151_r1 (e : Env) (x1 : Int) (hp : HP) (K : Env → PV → HP → Prop) : RW Try.prog 141 [] (opsAt Try.f151 [1, 0]) (List.range 3) (upd e 1 (sI (x1))) V0 hp K =
    (K (upd (upd (upd (upd e 1 (sI (x1))) 13 (sI (x1))) 14 (sI ((IntKind.wrap .i64 (x1 + 1))))) 9 (sI ((IntKind.wrap .i64 (x1 + 1))))) V0 hp) := by kernel_rfl
theorem F151_r2 (e : Env) (x10 : Int) (hp : HP) (K : Env → PV → HP → Prop) : RW Try.prog 141 [] (opsAt Try.f151 [1, 1, 0, 1, 0, 0, 1, 1]) (List.range 3) (upd e 10 (sI (x10))) V0 hp K =
    (K (upd (upd (upd (upd e 10 (sI (x10))) 17 (sI (x10))) 18 (sI ((IntKind.wrap .i64 (x10 + 1))))) 10 (sI ((IntKind.wrap .i64 (x10 + 1))))) V0 hp) := by kernel_rfl
def F151_j4 (x0a : Option Addr) (x0n : Nat) (x0c : Nat) (x1 : Int) (x2 : Int) (x3 : Value) (x9 : Int) (x10 : Int) (hp : HP) (I2 : (Int × Int) → HP → Prop) (K : Value → HP → Prop) : Prop :=
  (I2 (x9, (IntKind.wrap .i64 (x10 + 1))) hp)
theorem F151_r3 (e : Env) (x2 : Int) (x9 : Int) (hp : HP) (K : Env → PV → HP → Prop) : RW Try.prog 141 [] (opsAt Try.f151 [1, 1, 0, 1, 0, 0, 1, 0, 0, 1, 0, 0]) (List.range 3) (upd (upd e 9 (sI (x9))) 2 (sI (x2))) V0 hp K =
    (K (upd (upd (upd (upd (upd e 9 (sI (x9))) 2 (sI (x2))) 39 (sI (x9))) 40 (sI (x2))) 41 (sB (((x9 : Int) == x2)))) V0 hp) := by kernel_rfl
theorem F151_r4 (e : Env) (hp : HP) (K : Env → PV → HP → Prop) : RW Try.prog 141 [] (opsAt Try.f151 [1, 1, 0, 1, 0, 0, 1, 0, 0, 1, 0, 1, 0, 0]) (List.range 1) e V0 hp K =
    (K (upd e 8 (sB (true))) V0 hp) := by kernel_rfl
theorem F151_r5 (e : Env) (x1 : Int) (x2 : Int) (hp : HP) (K : Env → PV → HP → Prop) : RW Try.prog 141 [] (opsAt Try.f151 [1, 1, 0, 1, 0, 0, 1, 0, 0, 1, 1, 0, 0]) (List.range 4) (upd (upd e 2 (sI (x2))) 1 (sI (x1))) V0 hp K =
    (K (upd (upd (upd (upd (upd (upd e 2 (sI (x2))) 1 (sI (x1))) 42 (sI (x2))) 43 (sI (x1))) 44 (sI ((IntKind.wrap .i64 (x2 - x1))))) 45 (sB ((decide (((IntKind.wrap .i64 (x2 - x1)) : Int) < 50))))) V0 hp) := by kernel_rfl
theorem F151_r6 (e : Env) (hp : HP) (K : Env → PV → HP → Prop) : RW Try.prog 141 [] (opsAt Try.f151 [1, 1, 0, 1, 0, 0, 1, 0, 0, 1, 1, 0, 1, 0, 0]) (List.range 1) e V0 hp K =
    (K (upd e 8 (sB (false))) V0 hp) := by kernel_rfl
theorem F151_r7 (e : Env) (x0a : Option Addr) (x0n : Nat) (x0c : Nat) (x9 : Int) (hp : HP) (K : Env → PV → HP → Prop) : RW Try.prog 141 [] (opsAt Try.f151 [1, 1, 0, 1, 0, 0, 1, 0, 0, 1, 1, 1, 0]) (List.range 18) (upd (upd e 9 (sI (x9))) 0 (sV (Value.slice x0a x0n x0c))) V0 hp K =
    ((0 ≤ ((IntKind.wrap .i64 (x9 - 1)) : Int)) ∧ (((IntKind.wrap .i64 (x9 - 1)) : Int) < (x0n : Nat)) ∧ (ptrN x0a fun b1 o2 => (ldL (HP.cellN hp b1 (o2 + Int.toNat (IntKind.wrap .i64 (x9 - 1)) * 2) 2) fun l3 => ((0 ≤ (x9 : Int)) ∧ ((x9 : Int) < (x0n : Nat)) ∧ (ptrN x0a fun b4 o5 => (ldL (HP.cellN hp b4 (o5 + Int.toNat x9 * 2) 2) fun l6 => ((0 ≤ (x9 : Int)) ∧ ((x9 : Int) < (x0n : Nat)) ∧ (ptrN x0a fun b7 o8 => ((List.length l3 = 2) ∧ (HP.stN hp b7 (o8 + Int.toNat x9 * 2) l3 fun h9 => ((0 ≤ ((IntKind.wrap .i64 (x9 - 1)) : Int)) ∧ (((IntKind.wrap .i64 (x9 - 1)) : Int) < (x0n : Nat)) ∧ (ptrN x0a fun b10 o11 => ((List.length l6 = 2) ∧ (HP.stN h9 b10 (o11 + Int.toNat (IntKind.wrap .i64 (x9 - 1)) * 2) l6 fun h12 => (K (upd (upd (upd (upd (upd (upd (upd (upd (upd (upd (upd (upd (upd (upd (upd (upd (upd (upd e 9 (sI (x9))) 0 (sV (Value.slice x0a x0n x0c))) 46 (sV (Value.slice x0a x0n x0c))) 47 (sI (x9))) 48 (sV (Value.slice x0a x0n x0c))) 49 (sI (x9))) 50 (sI ((IntKind.wrap .i64 (x9 - 1))))) 51 (sV (Value.slice x0a x0n x0c))) 52 (sI (x9))) 53 (sI ((IntKind.wrap .i64 (x9 - 1))))) 54 (sV (ptr b1 (o2 + Int.toNat (IntKind.wrap .i64 (x9 - 1)) * 2)))) 55 (sV (Value.agg ⟨l3⟩))) 56 (sV (Value.slice x0a x0n x0c))) 57 (sI (x9))) 58 (sV (ptr b4 (o5 + Int.toNat x9 * 2)))) 59 (sV (Value.agg ⟨l6⟩))) 60 (sV (ptr b7 (o8 + Int.toNat x9 * 2)))) 61 (sV (ptr b10 (o11 + Int.toNat (IntKind.wrap .i64 (x9 - 1)) * 2)))) V0 h12))))))))))))))) := by kernel_rfl
theorem F151_r8 (e : Env) (x2 : Int) (x9 : Int) (hp : HP) (K : Env → PV → HP → Prop) : RW Try.prog 141 [] (opsAt Try.f151 [1, 1, 0, 1, 0, 0, 1, 0, 0, 1, 1, 1, 1, 1, 0]) (List.range 4) (upd (upd e 9 (sI (x9))) 2 (sI (x2))) V0 hp K =
    (K (upd (upd (upd (upd (upd (upd e 9 (sI (x9))) 2 (sI (x2))) 101 (sI (x2))) 102 (sI (x9))) 103 (sI ((IntKind.wrap .i64 (x2 - x9))))) 104 (sB ((decide (((IntKind.wrap .i64 (x2 - x9)) : Int) ≥ 2))))) V0 hp) := by kernel_rfl
theorem F151_r9 (e : Env) (x2 : Int) (x12 : Int) (hp : HP) (K : Env → PV → HP → Prop) : RW Try.prog 141 [] (opsAt Try.f151 [1, 1, 0, 1, 0, 0, 1, 0, 0, 1, 1, 1, 1, 1, 1, 0, 1, 0, 0, 0, 0]) (List.range 3) (upd (upd e 12 (sI (x12))) 2 (sI (x2))) V0 hp K =
    (K (upd (upd (upd (upd (upd e 12 (sI (x12))) 2 (sI (x2))) 107 (sI (x12))) 108 (sI (x2))) 109 (sB ((decide ((x12 : Int) < x2))))) V0 hp) := by kernel_rfl
theorem F151_r10 (e : Env) (x0a : Option Addr) (x0n : Nat) (x0c : Nat) (x3 : Value) (x12 : Int) (hp : HP) (K : Env → PV → HP → Prop) : RW Try.prog 141 [] (opsAt Try.f151 [1, 1, 0, 1, 0, 0, 1, 0, 0, 1, 1, 1, 1, 1, 1, 0, 1, 0, 0, 1, 0, 0, 0, 0]) (List.range 13) (upd (upd (upd e 12 (sI (x12))) 3 (sV x3)) 0 (sV (Value.slice x0a x0n x0c))) V0 hp K =
    ((0 ≤ (x12 : Int)) ∧ ((x12 : Int) < (x0n : Nat)) ∧ (ptrN x0a fun b1 o2 => (ldL (HP.cellN hp b1 (o2 + Int.toNat x12 * 2) 2) fun l3 => ((0 ≤ ((IntKind.wrap .i64 (x12 - 1)) : Int)) ∧ (((IntKind.wrap .i64 (x12 - 1)) : Int) < (x0n : Nat)) ∧ (ptrN x0a fun b4 o5 => (ldL (HP.cellN hp b4 (o5 + Int.toNat (IntKind.wrap .i64 (x12 - 1)) * 2) 2) fun l6 => (fnV x3 fun f7 ga8 gb9 => (CF Try.prog f7 (ga8 ++ [(Value.agg ⟨l3⟩), (Value.agg ⟨l6⟩)] ++ gb9) hp fun u10 h11 => (intV u10 .i64 fun i12 => (K (upd (upd (upd (upd (upd (upd (upd (upd (upd (upd (upd (upd (upd (upd (upd (upd e 12 (sI (x12))) 3 (sV x3)) 0 (sV (Value.slice x0a x0n x0c))) 112 (sV x3)) 113 (sV (Value.slice x0a x0n x0c))) 114 (sI (x12))) 115 (sV (ptr b1 (o2 + Int.toNat x12 * 2)))) 116 (sV (Value.agg ⟨l3⟩))) 117 (sV (Value.slice x0a x0n x0c))) 118 (sI (x12))) 119 (sI ((IntKind.wrap .i64 (x12 - 1))))) 120 (sV (ptr b4 (o5 + Int.toNat (IntKind.wrap .i64 (x12 - 1)) * 2)))) 121 (sV (Value.agg ⟨l6⟩))) 122 (sI (i12))) 123 (sB ((decide ((i12 : Int) < 0))))) 124 (sB ((!(decide ((i12 : Int) < 0)))))) V0 h11)))))))))) := by kernel_rfl
theorem F151_r11 (e : Env) (x0a : Option Addr) (x0n : Nat) (x0c : Nat) (x12 : Int) (hp : HP) (K : Env → PV → HP → Prop) : RW Try.prog 141 [] (opsAt Try.f151 [1, 1, 0, 1, 0, 0, 1, 0, 0, 1, 1, 1, 1, 1, 1, 0, 1, 0, 0, 1, 0, 0, 1]) (List.range 18) (upd (upd e 12 (sI (x12))) 0 (sV (Value.slice x0a x0n x0c))) V0 hp K =
    ((0 ≤ ((IntKind.wrap .i64 (x12 - 1)) : Int)) ∧ (((IntKind.wrap .i64 (x12 - 1)) : Int) < (x0n : Nat)) ∧ (ptrN x0a fun b1 o2 => (ldL (HP.cellN hp b1 (o2 + Int.toNat (IntKind.wrap .i64 (x12 - 1)) * 2) 2) fun l3 => ((0 ≤ (x12 : Int)) ∧ ((x12 : Int) < (x0n : Nat)) ∧ (ptrN x0a fun b4 o5 => (ldL (HP.cellN hp b4 (o5 + Int.toNat x12 * 2) 2) fun l6 => ((0 ≤ (x12 : Int)) ∧ ((x12 : Int) < (x0n : Nat)) ∧ (ptrN x0a fun b7 o8 => ((List.length l3 = 2) ∧ (HP.stN hp b7 (o8 + Int.toNat x12 * 2) l3 fun h9 => ((0 ≤ ((IntKind.wrap .i64 (x12 - 1)) : Int)) ∧ (((IntKind.wrap .i64 (x12 - 1)) : Int) < (x0n : Nat)) ∧ (ptrN x0a fun b10 o11 => ((List.length l6 = 2) ∧ (HP.stN h9 b10 (o11 + Int.toNat (IntKind.wrap .i64 (x12 - 1)) * 2) l6 fun h12 => (K (upd (upd (upd (upd (upd (upd (upd (upd (upd (upd (upd (upd (upd (upd (upd (upd (upd (upd e 12 (sI (x12))) 0 (sV (Value.slice x0a x0n x0c))) 125 (sV (Value.slice x0a x0n x0c))) 126 (sI (x12))) 127 (sV (Value.slice x0a x0n x0c))) 128 (sI (x12))) 129 (sI ((IntKind.wrap .i64 (x12 - 1))))) 130 (sV (Value.slice x0a x0n x0c))) 131 (sI (x12))) 132 (sI ((IntKind.wrap .i64 (x12 - 1))))) 133 (sV (ptr b1 (o2 + Int.toNat (IntKind.wrap .i64 (x12 - 1)) * 2)))) 134 (sV (Value.agg ⟨l3⟩))) 135 (sV (Value.slice x0a x0n x0c))) 136 (sI (x12))) 137 (sV (ptr b4 (o5 + Int.toNat x12 * 2)))) 138 (sV (Value.agg ⟨l6⟩))) 139 (sV (ptr b7 (o8 + Int.toNat x12 * 2)))) 140 (sV (ptr b10 (o11 + Int.toNat (IntKind.wrap .i64 (x12 - 1)) * 2)))) V0 h12))))))))))))))) := by kernel_rfl
theorem F151_r12 (e : Env) (x12 : Int) (hp : HP) (K : Env → PV → HP → Prop) : RW Try.prog 141 [] (opsAt Try.f151 [1, 1, 0, 1, 0, 0, 1, 0, 0, 1, 1, 1, 1, 1, 1, 0, 1, 0, 0, 1, 1]) (List.range 3) (upd e 12 (sI (x12))) V0 hp K =
    (K (upd (upd (upd (upd e 12 (sI (x12))) 110 (sI (x12))) 111 (sI ((IntKind.wrap .i64 (x12 + 1))))) 12 (sI ((IntKind.wrap .i64 (x12 + 1))))) V0 hp) := by kernel_rfl
def F151_l8 (x0a : Option Addr) (x0n : Nat) (x0c : Nat) (x1 : Int) (x2 : Int) (x3 : Value) (x9 : Int) (x10 : Int) (I2 : (Int × Int) → HP → Prop) (K : Value → HP → Prop) (I8 : (Int) → HP → Prop) (x12 : Int) (hp : HP) : Prop :=
  (ite2 (decide ((x12 : Int) < x2)) ((0 ≤ (x12 : Int)) ∧ ((x12 : Int) < (x0n : Nat)) ∧ (ptrN x0a fun b_13 o_14 => (ldL (HP.cellN hp b_13 (o_14 + Int.toNat x12 * 2) 2) fun l_15 => ((0 ≤ ((IntKind.wrap .i64 (x12 - 1)) : Int)) ∧ (((IntKind.wrap .i64 (x12 - 1)) : Int) < (x0n : Nat)) ∧ (ptrN x0a fun b_16 o_17 => (ldL (HP.cellN hp b_16 (o_17 + Int.toNat (IntKind.wrap .i64 (x12 - 1)) * 2) 2) fun l_18 => (fnV x3 fun f_19 ga_20 gb_21 => (CF Try.prog f_19 (ga_20 ++ [(Value.agg ⟨l_15⟩), (Value.agg ⟨l_18⟩)] ++ gb_21) hp fun u_22 h_23 => (intV u_22 .i64 fun i_24 => (ite2 (!(decide ((i_24 : Int) < 0))) (F151_j4 x0a x0n x0c x1 x2 x3 x9 x10 h_23 I2 K) ((0 ≤ ((IntKind.wrap .i64 (x12 - 1)) : Int)) ∧ (((IntKind.wrap .i64 (x12 - 1)) : Int) < (x0n : Nat)) ∧ (ptrN x0a fun b_25 o_26 => (ldL (HP.cellN h_23 b_25 (o_26 + Int.toNat (IntKind.wrap .i64 (x12 - 1)) * 2) 2) fun l_27 => ((0 ≤ (x12 : Int)) ∧ ((x12 : Int) < (x0n : Nat)) ∧ (ptrN x0a fun b_28 o_29 => (ldL (HP.cellN h_23 b_28 (o_29 + Int.toNat x12 * 2) 2) fun l_30 => ((0 ≤ (x12 : Int)) ∧ ((x12 : Int) < (x0n : Nat)) ∧ (ptrN x0a fun b_31 o_32 => ((List.length l_27 = 2) ∧ (HP.stN h_23 b_31 (o_32 + Int.toNat x12 * 2) l_27 fun h_33 => ((0 ≤ ((IntKind.wrap .i64 (x12 - 1)) : Int)) ∧ (((IntKind.wrap .i64 (x12 - 1)) : Int) < (x0n : Nat)) ∧ (ptrN x0a fun b_34 o_35 => ((List.length l_30 = 2) ∧ (HP.stN h_33 b_34 (o_35 + Int.toNat (IntKind.wrap .i64 (x12 - 1)) * 2) l_30 fun h_36 => (I8 (IntKind.wrap .i64 (x12 + 1)) h_36))))))))))))))))))))))))) (F151_j4 x0a x0n x0c x1 x2 x3 x9 x10 hp I2 K))
def F151_j7 (x0a : Option Addr) (x0n : Nat) (x0c : Nat) (x1 : Int) (x2 : Int) (x3 : Value) (x9 : Int) (x10 : Int) (x12 : Int) (hp : HP) (I2 : (Int × Int) → HP → Prop) (K : Value → HP → Prop) : Prop :=
  (LoopP (σ := Int) (fun I s hp => F151_l8 x0a x0n x0c x1 x2 x3 x9 x10 I2 K I s hp) x12 hp)
theorem F151_r13 (e : Env) (x9 : Int) (hp : HP) (K : Env → PV → HP → Prop) : RW Try.prog 141 [] (opsAt Try.f151 [1, 1, 0, 1, 0, 0, 1, 0, 0, 1, 1, 1, 1, 1, 1, 0, 0]) (List.range 3) (upd e 9 (sI (x9))) V0 hp K =
    (K (upd (upd (upd (upd e 9 (sI (x9))) 105 (sI (x9))) 106 (sI ((IntKind.wrap .i64 (x9 + 1))))) 12 (sI ((IntKind.wrap .i64 (x9 + 1))))) V0 hp) := by kernel_rfl
def F151_j6 (x0a : Option Addr) (x0n : Nat) (x0c : Nat) (x1 : Int) (x2 : Int) (x3 : Value) (x9 : Int) (x10 : Int) (hp : HP) (I2 : (Int × Int) → HP → Prop) (K : Value → HP → Prop) : Prop :=
  (ite2 (decide (((IntKind.wrap .i64 (x2 - x9)) : Int) ≥ 2)) (F151_j7 x0a x0n x0c x1 x2 x3 x9 x10 (IntKind.wrap .i64 (x9 + 1)) hp I2 K) (F151_j4 x0a x0n x0c x1 x2 x3 x9 x10 hp I2 K))
theorem F151_r14 (e : Env) (x1 : Int) (x9 : Int) (hp : HP) (K : Env → PV → HP → Prop) : RW Try.prog 141 [] (opsAt Try.f151 [1, 1, 0, 1, 0, 0, 1, 0, 0, 1, 1, 1, 1, 0, 0]) (List.range 4) (upd (upd e 9 (sI (x9))) 1 (sI (x1))) V0 hp K =
    (K (upd (upd (upd (upd (upd (upd e 9 (sI (x9))) 1 (sI (x1))) 62 (sI (x9))) 63 (sI (x1))) 64 (sI ((IntKind.wrap .i64 (x9 - x1))))) 65 (sB ((decide (((IntKind.wrap .i64 (x9 - x1)) : Int) ≥ 2))))) V0 hp) := by kernel_rfl
theorem F151_r15 (e : Env) (x11 : Int) (hp : HP) (K : Env → PV → HP → Prop) : RW Try.prog 141 [] (opsAt Try.f151 [1, 1, 0, 1, 0, 0, 1, 0, 0, 1, 1, 1, 1, 0, 1, 0, 1, 0, 0, 0, 0]) (List.range 2) (upd e 11 (sI (x11))) V0 hp K =
    (K (upd (upd (upd e 11 (sI (x11))) 68 (sI (x11))) 69 (sB ((decide ((x11 : Int) ≥ 1))))) V0 hp) := by kernel_rfl
theorem F151_r16 (e : Env) (x0a : Option Addr) (x0n : Nat) (x0c : Nat) (x3 : Value) (x11 : Int) (hp : HP) (K : Env → PV → HP → Prop) : RW Try.prog 141 [] (opsAt Try.f151 [1, 1, 0, 1, 0, 0, 1, 0, 0, 1, 1, 1, 1, 0, 1, 0, 1, 0, 0, 1, 0, 0, 0, 0]) (List.range 13) (upd (upd (upd e 11 (sI (x11))) 3 (sV x3)) 0 (sV (Value.slice x0a x0n x0c))) V0 hp K =
    ((0 ≤ (x11 : Int)) ∧ ((x11 : Int) < (x0n : Nat)) ∧ (ptrN x0a fun b1 o2 => (ldL (HP.cellN hp b1 (o2 + Int.toNat x11 * 2) 2) fun l3 => ((0 ≤ ((IntKind.wrap .i64 (x11 - 1)) : Int)) ∧ (((IntKind.wrap .i64 (x11 - 1)) : Int) < (x0n : Nat)) ∧ (ptrN x0a fun b4 o5 => (ldL (HP.cellN hp b4 (o5 + Int.toNat (IntKind.wrap .i64 (x11 - 1)) * 2) 2) fun l6 => (fnV x3 fun f7 ga8 gb9 => (CF Try.prog f7 (ga8 ++ [(Value.agg ⟨l3⟩), (Value.agg ⟨l6⟩)] ++ gb9) hp fun u10 h11 => (intV u10 .i64 fun i12 => (K (upd (upd (upd (upd (upd (upd (upd (upd (upd (upd (upd (upd (upd (upd (upd (upd e 11 (sI (x11))) 3 (sV x3)) 0 (sV (Value.slice x0a x0n x0c))) 72 (sV x3)) 73 (sV (Value.slice x0a x0n x0c))) 74 (sI (x11))) 75 (sV (ptr b1 (o2 + Int.toNat x11 * 2)))) 76 (sV (Value.agg ⟨l3⟩))) 77 (sV (Value.slice x0a x0n x0c))) 78 (sI (x11))) 79 (sI ((IntKind.wrap .i64 (x11 - 1))))) 80 (sV (ptr b4 (o5 + Int.toNat (IntKind.wrap .i64 (x11 - 1)) * 2)))) 81 (sV (Value.agg ⟨l6⟩))) 82 (sI (i12))) 83 (sB ((decide ((i12 : Int) < 0))))) 84 (sB ((!(decide ((i12 : Int) < 0)))))) V0 h11)))))))))) := by kernel_rfl
theorem F151_r17 (e : Env) (x0a : Option Addr) (x0n : Nat) (x0c : Nat) (x11 : Int) (hp : HP) (K : Env → PV → HP → Prop) : RW Try.prog 141 [] (opsAt Try.f151 [1, 1, 0, 1, 0, 0, 1, 0, 0, 1, 1, 1, 1, 0, 1, 0, 1, 0, 0, 1, 0, 0, 1]) (List.range 18) (upd (upd e 11 (sI (x11))) 0 (sV (Value.slice x0a x0n x0c))) V0 hp K =
    ((0 ≤ ((IntKind.wrap .i64 (x11 - 1)) : Int)) ∧ (((IntKind.wrap .i64 (x11 - 1)) : Int) < (x0n : Nat)) ∧ (ptrN x0a fun b1 o2 => (ldL (HP.cellN hp b1 (o2 + Int.toNat (IntKind.wrap .i64 (x11 - 1)) * 2) 2) fun l3 => ((0 ≤ (x11 : Int)) ∧ ((x11 : Int) < (x0n : Nat)) ∧ (ptrN x0a fun b4 o5 => (ldL (HP.cellN hp b4 (o5 + Int.toNat x11 * 2) 2) fun l6 => ((0 ≤ (x11 : Int)) ∧ ((x11 : Int) < (x0n : Nat)) ∧ (ptrN x0a fun b7 o8 => ((List.length l3 = 2) ∧ (HP.stN hp b7 (o8 + Int.toNat x11 * 2) l3 fun h9 => ((0 ≤ ((IntKind.wrap .i64 (x11 - 1)) : Int)) ∧ (((IntKind.wrap .i64 (x11 - 1)) : Int) < (x0n : Nat)) ∧ (ptrN x0a fun b10 o11 => ((List.length l6 = 2) ∧ (HP.stN h9 b10 (o11 + Int.toNat (IntKind.wrap .i64 (x11 - 1)) * 2) l6 fun h12 => (K (upd (upd (upd (upd (upd (upd (upd (upd (upd (upd (upd (upd (upd (upd (upd (upd (upd (upd e 11 (sI (x11))) 0 (sV (Value.slice x0a x0n x0c))) 85 (sV (Value.slice x0a x0n x0c))) 86 (sI (x11))) 87 (sV (Value.slice x0a x0n x0c))) 88 (sI (x11))) 89 (sI ((IntKind.wrap .i64 (x11 - 1))))) 90 (sV (Value.slice x0a x0n x0c))) 91 (sI (x11))) 92 (sI ((IntKind.wrap .i64 (x11 - 1))))) 93 (sV (ptr b1 (o2 + Int.toNat (IntKind.wrap .i64 (x11 - 1)) * 2)))) 94 (sV (Value.agg ⟨l3⟩))) 95 (sV (Value.slice x0a x0n x0c))) 96 (sI (x11))) 97 (sV (ptr b4 (o5 + Int.toNat x11 * 2)))) 98 (sV (Value.agg ⟨l6⟩))) 99 (sV (ptr b7 (o8 + Int.toNat x11 * 2)))) 100 (sV (ptr b10 (o11 + Int.toNat (IntKind.wrap .i64 (x11 - 1)) * 2)))) V0 h12))))))))))))))) := by kernel_rfl
theorem F151_r18 (e : Env) (x11 : Int) (hp : HP) (K : Env → PV → HP → Prop) : RW Try.prog 141 [] (opsAt Try.f151 [1, 1, 0, 1, 0, 0, 1, 0, 0, 1, 1, 1, 1, 0, 1, 0, 1, 0, 0, 1, 1]) (List.range 3) (upd e 11 (sI (x11))) V0 hp K =
    (K (upd (upd (upd (upd e 11 (sI (x11))) 70 (sI (x11))) 71 (sI ((IntKind.wrap .i64 (x11 - 1))))) 11 (sI ((IntKind.wrap .i64 (x11 - 1))))) V0 hp) := by kernel_rfl
def F151_l10 (x0a : Option Addr) (x0n : Nat) (x0c : Nat) (x1 : Int) (x2 : Int) (x3 : Value) (x9 : Int) (x10 : Int) (I2 : (Int × Int) → HP → Prop) (K : Value → HP → Prop) (I10 : (Int) → HP → Prop) (x11 : Int) (hp : HP) : Prop :=
  (ite2 (decide ((x11 : Int) ≥ 1)) ((0 ≤ (x11 : Int)) ∧ ((x11 : Int) < (x0n : Nat)) ∧ (ptrN x0a fun b_37 o_38 => (ldL (HP.cellN hp b_37 (o_38 + Int.toNat x11 * 2) 2) fun l_39 => ((0 ≤ ((IntKind.wrap .i64 (x11 - 1)) : Int)) ∧ (((IntKind.wrap .i64 (x11 - 1)) : Int) < (x0n : Nat)) ∧ (ptrN x0a fun b_40 o_41 => (ldL (HP.cellN hp b_40 (o_41 + Int.toNat (IntKind.wrap .i64 (x11 - 1)) * 2) 2) fun l_42 => (fnV x3 fun f_43 ga_44 gb_45 => (CF Try.prog f_43 (ga_44 ++ [(Value.agg ⟨l_39⟩), (Value.agg ⟨l_42⟩)] ++ gb_45) hp fun u_46 h_47 => (intV u_46 .i64 fun i_48 => (ite2 (!(decide ((i_48 : Int) < 0))) (F151_j6 x0a x0n x0c x1 x2 x3 x9 x10 h_47 I2 K) ((0 ≤ ((IntKind.wrap .i64 (x11 - 1)) : Int)) ∧ (((IntKind.wrap .i64 (x11 - 1)) : Int) < (x0n : Nat)) ∧ (ptrN x0a fun b_49 o_50 => (ldL (HP.cellN h_47 b_49 (o_50 + Int.toNat (IntKind.wrap .i64 (x11 - 1)) * 2) 2) fun l_51 => ((0 ≤ (x11 : Int)) ∧ ((x11 : Int) < (x0n : Nat)) ∧ (ptrN x0a fun b_52 o_53 => (ldL (HP.cellN h_47 b_52 (o_53 + Int.toNat x11 * 2) 2) fun l_54 => ((0 ≤ (x11 : Int)) ∧ ((x11 : Int) < (x0n : Nat)) ∧ (ptrN x0a fun b_55 o_56 => ((List.length l_51 = 2) ∧ (HP.stN h_47 b_55 (o_56 + Int.toNat x11 * 2) l_51 fun h_57 => ((0 ≤ ((IntKind.wrap .i64 (x11 - 1)) : Int)) ∧ (((IntKind.wrap .i64 (x11 - 1)) : Int) < (x0n : Nat)) ∧ (ptrN x0a fun b_58 o_59 => ((List.length l_54 = 2) ∧ (HP.stN h_57 b_58 (o_59 + Int.toNat (IntKind.wrap .i64 (x11 - 1)) * 2) l_54 fun h_60 => (I10 (IntKind.wrap .i64 (x11 - 1)) h_60))))))))))))))))))))))))) (F151_j6 x0a x0n x0c x1 x2 x3 x9 x10 hp I2 K))
def F151_j9 (x0a : Option Addr) (x0n : Nat) (x0c : Nat) (x1 : Int) (x2 : Int) (x3 : Value) (x9 : Int) (x10 : Int) (x11 : Int) (hp : HP) (I2 : (Int × Int) → HP → Prop) (K : Value → HP → Prop) : Prop :=
  (LoopP (σ := Int) (fun I s hp => F151_l10 x0a x0n x0c x1 x2 x3 x9 x10 I2 K I s hp) x11 hp)
theorem F151_r19 (e : Env) (x9 : Int) (hp : HP) (K : Env → PV → HP → Prop) : RW Try.prog 141 [] (opsAt Try.f151 [1, 1, 0, 1, 0, 0, 1, 0, 0, 1, 1, 1, 1, 0, 1, 0, 0]) (List.range 3) (upd e 9 (sI (x9))) V0 hp K =
    (K (upd (upd (upd (upd e 9 (sI (x9))) 66 (sI (x9))) 67 (sI ((IntKind.wrap .i64 (x9 - 1))))) 11 (sI ((IntKind.wrap .i64 (x9 - 1))))) V0 hp) := by kernel_rfl
def F151_j5 (x0a : Option Addr) (x0n : Nat) (x0c : Nat) (x1 : Int) (x2 : Int) (x3 : Value) (x9 : Int) (x10 : Int) (hp : HP) (I2 : (Int × Int) → HP → Prop) (K : Value → HP → Prop) : Prop :=
  (ite2 ((x9 : Int) == x2) (K (Value.bool true) hp) (ite2 (decide (((IntKind.wrap .i64 (x2 - x1)) : Int) < 50)) (K (Value.bool false) hp) ((0 ≤ ((IntKind.wrap .i64 (x9 - 1)) : Int)) ∧ (((IntKind.wrap .i64 (x9 - 1)) : Int) < (x0n : Nat)) ∧ (ptrN x0a fun b_1 o_2 => (ldL (HP.cellN hp b_1 (o_2 + Int.toNat (IntKind.wrap .i64 (x9 - 1)) * 2) 2) fun l_3 => ((0 ≤ (x9 : Int)) ∧ ((x9 : Int) < (x0n : Nat)) ∧ (ptrN x0a fun b_4 o_5 => (ldL (HP.cellN hp b_4 (o_5 + Int.toNat x9 * 2) 2) fun l_6 => ((0 ≤ (x9 : Int)) ∧ ((x9 : Int) < (x0n : Nat)) ∧ (ptrN x0a fun b_7 o_8 => ((List.length l_3 = 2) ∧ (HP.stN hp b_7 (o_8 + Int.toNat x9 * 2) l_3 fun h_9 => ((0 ≤ ((IntKind.wrap .i64 (x9 - 1)) : Int)) ∧ (((IntKind.wrap .i64 (x9 - 1)) : Int) < (x0n : Nat)) ∧ (ptrN x0a fun b_10 o_11 => ((List.length l_6 = 2) ∧ (HP.stN h_9 b_10 (o_11 + Int.toNat (IntKind.wrap .i64 (x9 - 1)) * 2) l_6 fun h_12 => (ite2 (decide (((IntKind.wrap .i64 (x9 - x1)) : Int) ≥ 2)) (F151_j9 x0a x0n x0c x1 x2 x3 x9 x10 (IntKind.wrap .i64 (x9 - 1)) h_12 I2 K) (F151_j6 x0a x0n x0c x1 x2 x3 x9 x10 h_12 I2 K))))))))))))))))))
theorem F151_r20 (e : Env) (x9 : Int) (hp : HP) (K : Env → PV → HP → Prop) : RW Try.prog 141 [] (opsAt Try.f151 [1, 1, 0, 1, 0, 0, 1, 0, 0, 0, 0, 0, 1, 0]) (List.range 3) (upd e 9 (sI (x9))) V0 hp K =
    (K (upd (upd (upd (upd e 9 (sI (x9))) 37 (sI (x9))) 38 (sI ((IntKind.wrap .i64 (x9 + 1))))) 9 (sI ((IntKind.wrap .i64 (x9 + 1))))) V0 hp) := by kernel_rfl
def F151_j12 (x0a : Option Addr) (x0n : Nat) (x0c : Nat) (x1 : Int) (x2 : Int) (x3 : Value) (x9 : Int) (x10 : Int) (x36 : Bool) (hp : HP) (I2 : (Int × Int) → HP → Prop) (I11 : (Int) → HP → Prop) (K : Value → HP → Prop) : Prop :=
  (ite2 x36 (I11 (IntKind.wrap .i64 (x9 + 1)) hp) (F151_j5 x0a x0n x0c x1 x2 x3 x9 x10 hp I2 K))
theorem F151_r21 (e : Env) (x0a : Option Addr) (x0n : Nat) (x0c : Nat) (x2 : Int) (x3 : Value) (x9 : Int) (hp : HP) (K : Env → PV → HP → Prop) : RW Try.prog 141 [] (opsAt Try.f151 [1, 1, 0, 1, 0, 0, 1, 0, 0, 0, 0, 0, 0, 0]) (List.range 18) (upd (upd (upd (upd e 9 (sI (x9))) 3 (sV x3)) 2 (sI (x2))) 0 (sV (Value.slice x0a x0n x0c))) V0 hp K =
    (ite2 (decide ((x9 : Int) < x2)) ((0 ≤ (x9 : Int)) ∧ ((x9 : Int) < (x0n : Nat)) ∧ (ptrN x0a fun b1 o2 => (ldL (HP.cellN hp b1 (o2 + Int.toNat x9 * 2) 2) fun l3 => ((0 ≤ ((IntKind.wrap .i64 (x9 - 1)) : Int)) ∧ (((IntKind.wrap .i64 (x9 - 1)) : Int) < (x0n : Nat)) ∧ (ptrN x0a fun b4 o5 => (ldL (HP.cellN hp b4 (o5 + Int.toNat (IntKind.wrap .i64 (x9 - 1)) * 2) 2) fun l6 => (fnV x3 fun f7 ga8 gb9 => (CF Try.prog f7 (ga8 ++ [(Value.agg ⟨l3⟩), (Value.agg ⟨l6⟩)] ++ gb9) hp fun u10 h11 => (intV u10 .i64 fun i12 => (K (upd (upd (upd (upd (upd (upd (upd (upd (upd (upd (upd (upd (upd (upd (upd (upd (upd (upd (upd (upd (upd (upd e 9 (sI (x9))) 3 (sV x3)) 2 (sI (x2))) 0 (sV (Value.slice x0a x0n x0c))) 19 (sI (x9))) 20 (sI (x2))) 21 (sB ((decide ((x9 : Int) < x2))))) 22 (sB (true))) 23 (sV x3)) 24 (sV (Value.slice x0a x0n x0c))) 25 (sI (x9))) 26 (sV (ptr b1 (o2 + Int.toNat x9 * 2)))) 27 (sV (Value.agg ⟨l3⟩))) 28 (sV (Value.slice x0a x0n x0c))) 29 (sI (x9))) 30 (sI ((IntKind.wrap .i64 (x9 - 1))))) 31 (sV (ptr b4 (o5 + Int.toNat (IntKind.wrap .i64 (x9 - 1)) * 2)))) 32 (sV (Value.agg ⟨l6⟩))) 33 (sI (i12))) 34 (sB ((decide ((i12 : Int) < 0))))) 35 (sB ((!(decide ((i12 : Int) < 0)))))) 36 (sB ((!(decide ((i12 : Int) < 0)))))) V0 h11)))))))))) (K (upd (upd (upd (upd (upd (upd (upd (upd (upd (upd (upd (upd (upd (upd (upd (upd (upd (upd (upd (upd (upd (upd e 9 (sI (x9))) 3 (sV x3)) 2 (sI (x2))) 0 (sV (Value.slice x0a x0n x0c))) 19 (sI (x9))) 20 (sI (x2))) 21 (sB ((decide ((x9 : Int) < x2))))) 22 (sB (false))) 23 (sV undef)) 24 (sV undef)) 25 (sV undef)) 26 (sV undef)) 27 (sV undef)) 28 (sV undef)) 29 (sV undef)) 30 (sV undef)) 31 (sV undef)) 32 (sV undef)) 33 (sV undef)) 34 (sV undef)) 35 (sV undef)) 36 (sB (false))) V0 hp)) := by kernel_rfl
def F151_l11 (x0a : Option Addr) (x0n : Nat) (x0c : Nat) (x1 : Int) (x2 : Int) (x3 : Value) (x10 : Int) (I2 : (Int × Int) → HP → Prop) (K : Value → HP → Prop) (I11 : (Int) → HP → Prop) (x9 : Int) (hp : HP) : Prop :=
  (ite2 (decide ((x9 : Int) < x2)) ((0 ≤ (x9 : Int)) ∧ ((x9 : Int) < (x0n : Nat)) ∧ (ptrN x0a fun b_61 o_62 => (ldL (HP.cellN hp b_61 (o_62 + Int.toNat x9 * 2) 2) fun l_63 => ((0 ≤ ((IntKind.wrap .i64 (x9 - 1)) : Int)) ∧ (((IntKind.wrap .i64 (x9 - 1)) : Int) < (x0n : Nat)) ∧ (ptrN x0a fun b_64 o_65 => (ldL (HP.cellN hp b_64 (o_65 + Int.toNat (IntKind.wrap .i64 (x9 - 1)) * 2) 2) fun l_66 => (fnV x3 fun f_67 ga_68 gb_69 => (CF Try.prog f_67 (ga_68 ++ [(Value.agg ⟨l_63⟩), (Value.agg ⟨l_66⟩)] ++ gb_69) hp fun u_70 h_71 => (intV u_70 .i64 fun i_72 => (F151_j12 x0a x0n x0c x1 x2 x3 x9 x10 (!(decide ((i_72 : Int) < 0))) h_71 I2 I11 K)))))))))) (F151_j12 x0a x0n x0c x1 x2 x3 x9 x10 false hp I2 I11 K))
def F151_j3 (x0a : Option Addr) (x0n : Nat) (x0c : Nat) (x1 : Int) (x2 : Int) (x3 : Value) (x9 : Int) (x10 : Int) (hp : HP) (I2 : (Int × Int) → HP → Prop) (K : Value → HP → Prop) : Prop :=
  (LoopP (σ := Int) (fun I s hp => F151_l11 x0a x0n x0c x1 x2 x3 x10 I2 K I s hp) x9 hp)
theorem F151_r22 (e : Env) (x10 : Int) (hp : HP) (K : Env → PV → HP → Prop) : RW Try.prog 141 [] (opsAt Try.f151 [1, 1, 0, 1, 0, 0, 0, 0]) (List.range 2) (upd e 10 (sI (x10))) V0 hp K =
    (K (upd (upd (upd e 10 (sI (x10))) 15 (sI (x10))) 16 (sB ((decide ((x10 : Int) < 5))))) V0 hp) := by kernel_rfl
theorem F151_r23 (e : Env) (hp : HP) (K : Env → PV → HP → Prop) : RW Try.prog 141 [] (opsAt Try.f151 [1, 1, 1, 0]) (List.range 1) e V0 hp K =
    (K (upd e 8 (sB (false))) V0 hp) := by kernel_rfl
def F151_l2 (x0a : Option Addr) (x0n : Nat) (x0c : Nat) (x1 : Int) (x2 : Int) (x3 : Value) (K : Value → HP → Prop) (I2 : (Int × Int) → HP → Prop) (x9 : Int) (x10 : Int) (hp : HP) : Prop :=
  (ite2 (decide ((x10 : Int) < 5)) (F151_j3 x0a x0n x0c x1 x2 x3 x9 x10 hp I2 K) (K (Value.bool false) hp))
def F151_j1 (x0a : Option Addr) (x0n : Nat) (x0c : Nat) (x1 : Int) (x2 : Int) (x3 : Value) (x9 : Int) (x10 : Int) (hp : HP) (K : Value → HP → Prop) : Prop :=
  (LoopP (σ := Int × Int) (fun I s hp => F151_l2 x0a x0n x0c x1 x2 x3  K I s.1 s.2 hp) (x9, x10) hp)
theorem F151_r24 (e : Env) (hp : HP) (K : Env → PV → HP → Prop) : RW Try.prog 141 [] (opsAt Try.f151 [1, 1, 0, 0]) (List.range 1) e V0 hp K =
    (K (upd e 10 (sI (0))) V0 hp) := by kernel_rfl
def F151 (x0a : Option Addr) (x0n : Nat) (x0c : Nat) (x1 : Int) (x2 : Int) (x3 : Value) (hp : HP) (K : Value → HP → Prop) : Prop :=
  (F151_j1 x0a x0n x0c x1 x2 x3 (IntKind.wrap .i64 (x1 + 1)) 0 hp  K)
noncomputable def F151_code : Code := (.seq (.region 0 (opsAt Try.f151 [0]) false) (.seq (.region 1 (opsAt Try.f151 [1, 0]) false) (.seq (.seq (.region 2 (opsAt Try.f151 [1, 1, 0, 0]) false) (.block 0 (.loop (.seq (.seq (.region 3 (opsAt Try.f151 [1, 1, 0, 1, 0, 0, 0, 0]) false) (.cond (.tmp 16) .skip (.exit 0))) (.seq (.block 1 (.seq (.block 2 (.loop (.seq (.seq (.region 5 (opsAt Try.f151 [1, 1, 0, 1, 0, 0, 1, 0, 0, 0, 0, 0, 0, 0]) true) (.cond (.tmp 36) .skip (.exit 2))) (.block 3 (.region 6 (opsAt Try.f151 [1, 1, 0, 1, 0, 0, 1, 0, 0, 0, 0, 0, 1, 0]) false))))) (.seq (.seq (.region 7 (opsAt Try.f151 [1, 1, 0, 1, 0, 0, 1, 0, 0, 1, 0, 0]) false) (.cond (.tmp 41) (.seq (.region 8 (opsAt Try.f151 [1, 1, 0, 1, 0, 0, 1, 0, 0, 1, 0, 1, 0, 0]) false) .ret) .skip)) (.seq (.seq (.region 9 (opsAt Try.f151 [1, 1, 0, 1, 0, 0, 1, 0, 0, 1, 1, 0, 0]) false) (.cond (.tmp 45) (.seq (.region 10 (opsAt Try.f151 [1, 1, 0, 1, 0, 0, 1, 0, 0, 1, 1, 0, 1, 0, 0]) false) .ret) .skip)) (.seq (.region 11 (opsAt Try.f151 [1, 1, 0, 1, 0, 0, 1, 0, 0, 1, 1, 1, 0]) true) (.seq (.seq (.region 12 (opsAt Try.f151 [1, 1, 0, 1, 0, 0, 1, 0, 0, 1, 1, 1, 1, 0, 0]) false) (.cond (.tmp 65) (.seq (.region 13 (opsAt Try.f151 [1, 1, 0, 1, 0, 0, 1, 0, 0, 1, 1, 1, 1, 0, 1, 0, 0]) false) (.block 4 (.loop (.seq (.seq (.region 14 (opsAt Try.f151 [1, 1, 0, 1, 0, 0, 1, 0, 0, 1, 1, 1, 1, 0, 1, 0, 1, 0, 0, 0, 0]) false) (.cond (.tmp 69) .skip (.exit 4))) (.seq (.block 5 (.seq (.seq (.region 16 (opsAt Try.f151 [1, 1, 0, 1, 0, 0, 1, 0, 0, 1, 1, 1, 1, 0, 1, 0, 1, 0, 0, 1, 0, 0, 0, 0]) true) (.cond (.tmp 84) (.exit 4) .skip)) (.region 17 (opsAt Try.f151 [1, 1, 0, 1, 0, 0, 1, 0, 0, 1, 1, 1, 1, 0, 1, 0, 1, 0, 0, 1, 0, 0, 1]) true))) (.region 15 (opsAt Try.f151 [1, 1, 0, 1, 0, 0, 1, 0, 0, 1, 1, 1, 1, 0, 1, 0, 1, 0, 0, 1, 1]) false)))))) .skip)) (.seq (.region 18 (opsAt Try.f151 [1, 1, 0, 1, 0, 0, 1, 0, 0, 1, 1, 1, 1, 1, 0]) false) (.cond (.tmp 104) (.seq (.region 19 (opsAt Try.f151 [1, 1, 0, 1, 0, 0, 1, 0, 0, 1, 1, 1, 1, 1, 1, 0, 0]) false) (.block 6 (.loop (.seq (.seq (.region 20 (opsAt Try.f151 [1, 1, 0, 1, 0, 0, 1, 0, 0, 1, 1, 1, 1, 1, 1, 0, 1, 0, 0, 0, 0]) false) (.cond (.tmp 109) .skip (.exit 6))) (.seq (.block 7 (.seq (.seq (.region 22 (opsAt Try.f151 [1, 1, 0, 1, 0, 0, 1, 0, 0, 1, 1, 1, 1, 1, 1, 0, 1, 0, 0, 1, 0, 0, 0, 0]) true) (.cond (.tmp 124) (.exit 6) .skip)) (.region 23 (opsAt Try.f151 [1, 1, 0, 1, 0, 0, 1, 0, 0, 1, 1, 1, 1, 1, 1, 0, 1, 0, 0, 1, 0, 0, 1]) true))) (.region 21 (opsAt Try.f151 [1, 1, 0, 1, 0, 0, 1, 0, 0, 1, 1, 1, 1, 1, 1, 0, 1, 0, 0, 1, 1]) false)))))) .skip)))))))) (.region 4 (opsAt Try.f151 [1, 1, 0, 1, 0, 0, 1, 1]) false)))))) (.seq (.region 24 (opsAt Try.f151 [1, 1, 1, 0]) false) .ret))))
theorem F151_body : Try.f151.body = some F151_code := by kernel_rfl
theorem F151_ok (x0a : Option Addr) (x0n : Nat) (x0c : Nat) (x1 : Int) (x2 : Int) (x3 : Value) (hp : HP) (K : Value → HP → Prop) (h : F151 x0a x0n x0c x1 x2 x3 hp K) : CF Try.prog 151 [(Value.slice x0a x0n x0c), (Value.int .i64 x1), (Value.int .i64 x2), x3] hp K := by
 refine .inl ⟨by kernel_rfl, AC.intro (N := 141) Try.func151 F151_body rfl (Nat.le_of_ble_eq_true rfl) ?_⟩
 unfold F151 at h
 unfold F151_code
 refine AWP.seq' ?_
 refine AWP.rgn (F151_r0 (upd (upd (upd (upd E0 3 (sV x3)) 2 (sI (x2))) 1 (sI (x1))) 0 (sV (Value.slice x0a x0n x0c)))  hp _) ?_ (Rv 0 _ (Rv 1 _ (Rv 2 _ (Rv 3 _ (Rn))))) (Sc rfl (Sc rfl (Sc rfl (Sc rfl (Sn))))) (Sn)
 refine AWP.seq' ?_
 refine AWP.rgn (F151_r1 (upd (upd (upd E0 3 (sV x3)) 2 (sI (x2))) 0 (sV (Value.slice x0a x0n x0c))) x1 hp _) ?_ (Rv 1 _ (Rv 0 _ (Rv 2 _ (Rv 3 _ (Rn))))) (Sc rfl (Sc rfl (Sc rfl (Sc rfl (Sn))))) (Sn)
 refine AWP.seq' ?_
 refine AWP.seq (fun env pv hp => ∃ (x0a : Option Addr) (x0n : Nat) (x0c : Nat) (x1 : Int) (x2 : Int) (x3 : Value) (x9 : Int) (x10 : Int), Sub (upd (upd (upd (upd (upd (upd E0 10 (sI (x10))) 9 (sI (x9))) 3 (sV x3)) 2 (sI (x2))) 1 (sI (x1))) 0 (sV (Value.slice x0a x0n x0c))) env ∧ Sub V0 pv ∧ (F151_j1 x0a x0n x0c x1 x2 x3 x9 x10 hp  K)) ?_ ?_
 ·refine AWP.rgn (F151_r24 (upd (upd (upd (upd (upd E0 9 (sI ((IntKind.wrap .i64 (x1 + 1))))) 3 (sV x3)) 2 (sI (x2))) 1 (sI (x1))) 0 (sV (Value.slice x0a x0n x0c)))  hp _) ?_ (Rv 0 _ (Rv 1 _ (Rv 2 _ (Rv 3 _ (Rv 9 _ (Rn)))))) (Sc rfl (Sc rfl (Sc rfl (Sc rfl (Sc rfl (Sn)))))) (Sn)
  exact ⟨x0a, x0n, x0c, x1, x2, x3, (IntKind.wrap .i64 (x1 + 1)), 0, (Sc rfl (Sc rfl (Sc rfl (Sc rfl (Sc rfl (Sc rfl (Sn))))))), (Sn), h⟩
 ·rintro env pv hp ⟨x0a, x0n, x0c, x1, x2, x3, x9, x10, he, hv, h⟩
  refine AWP.sub (env' := (upd (upd (upd (upd (upd (upd E0 10 (sI (x10))) 9 (sI (x9))) 3 (sV x3)) 2 (sI (x2))) 1 (sI (x1))) 0 (sV (Value.slice x0a x0n x0c)))) (pv' := V0) ?_ (Rv 0 _ (Rv 1 _ (Rv 2 _ (Rv 3 _ (Rv 9 _ (Rv 10 _ (Rn))))))) he hv (HSub.refl _)
  clear he hv
  unfold F151_j1 at h
  refine AWP.block ?_
  refine AWP.loop (σ := Int × Int) (fun I s hp => F151_l2 x0a x0n x0c x1 x2 x3  K I s.1 s.2 hp) (fun s => (upd (upd (upd (upd (upd (upd E0 10 (sI (s.2))) 9 (sI (s.1))) 3 (sV x3)) 2 (sI (x2))) 1 (sI (x1))) 0 (sV (Value.slice x0a x0n x0c)))) (fun s => V0) (x9, x10) h (fun s => (Rv 0 _ (Rv 1 _ (Rv 2 _ (Rv 3 _ (Rv 9 _ (Rv 10 _ (Rn)))))))) (Sc rfl (Sc rfl (Sc rfl (Sc rfl (Sc rfl (Sc rfl (Sn))))))) (Sn) ?_
  intro I2 s hp h
  obtain ⟨x9, x10⟩ := s
  replace h : F151_l2 x0a x0n x0c x1 x2 x3  K I2 x9 x10 hp := h
  unfold F151_l2 at h
  refine AWP.seq (fun env pv hp => ∃ (x9 : Int) (x10 : Int), Sub (upd (upd (upd (upd (upd (upd E0 10 (sI (x10))) 9 (sI (x9))) 3 (sV x3)) 2 (sI (x2))) 1 (sI (x1))) 0 (sV (Value.slice x0a x0n x0c))) env ∧ Sub V0 pv ∧ (F151_j3 x0a x0n x0c x1 x2 x3 x9 x10 hp I2 K)) ?_ ?_
  ·refine AWP.seq' ?_
   refine AWP.rgn (F151_r22 (upd (upd (upd (upd (upd E0 9 (sI (x9))) 3 (sV x3)) 2 (sI (x2))) 1 (sI (x1))) 0 (sV (Value.slice x0a x0n x0c))) x10 hp _) ?_ (Rv 10 _ (Rv 0 _ (Rv 1 _ (Rv 2 _ (Rv 3 _ (Rv 9 _ (Rn))))))) (Sc rfl (Sc rfl (Sc rfl (Sc rfl (Sc rfl (Sc rfl (Sn))))))) (Sn)
   refine AWP.cond (t := (decide ((x10 : Int) < 5))) rfl (fun e => ?_) (fun e => ?_)
   ·replace h := ite2_t h e
    refine AWP.skip ?_
    exact ⟨x9, x10, (Sc rfl (Sc rfl (Sc rfl (Sc rfl (Sc rfl (Sc rfl (Sn))))))), (Sn), h⟩
   ·replace h := ite2_f h e
    refine AWP.exit ?_
    refine AWP.seq' ?_
    refine AWP.rgn (F151_r23 E0  hp _) ?_ (Rn) (Sn) (Sn)
    refine AWP.ret ?_
    exact h
  ·rintro env pv hp ⟨x9, x10, he, hv, h⟩
   refine AWP.sub (env' := (upd (upd (upd (upd (upd (upd E0 10 (sI (x10))) 9 (sI (x9))) 3 (sV x3)) 2 (sI (x2))) 1 (sI (x1))) 0 (sV (Value.slice x0a x0n x0c)))) (pv' := V0) ?_ (Rv 0 _ (Rv 1 _ (Rv 2 _ (Rv 3 _ (Rv 9 _ (Rv 10 _ (Rn))))))) he hv (HSub.refl _)
   clear he hv
   unfold F151_j3 at h
   refine AWP.seq (fun env pv hp => ∃ (x9 : Int) (x10 : Int), Sub (upd (upd (upd (upd (upd (upd E0 10 (sI (x10))) 9 (sI (x9))) 3 (sV x3)) 2 (sI (x2))) 1 (sI (x1))) 0 (sV (Value.slice x0a x0n x0c))) env ∧ Sub V0 pv ∧ (F151_j4 x0a x0n x0c x1 x2 x3 x9 x10 hp I2 K)) ?_ ?_
   ·refine AWP.block ?_
    refine AWP.seq (fun env pv hp => ∃ (x9 : Int) (x10 : Int), Sub (upd (upd (upd (upd (upd (upd E0 10 (sI (x10))) 9 (sI (x9))) 3 (sV x3)) 2 (sI (x2))) 1 (sI (x1))) 0 (sV (Value.slice x0a x0n x0c))) env ∧ Sub V0 pv ∧ (F151_j5 x0a x0n x0c x1 x2 x3 x9 x10 hp I2 K)) ?_ ?_
    ·refine AWP.block ?_
     refine AWP.loop (σ := Int) (fun I s hp => F151_l11 x0a x0n x0c x1 x2 x3 x10 I2 K I s hp) (fun s => (upd (upd (upd (upd (upd (upd E0 10 (sI (x10))) 9 (sI (s))) 3 (sV x3)) 2 (sI (x2))) 1 (sI (x1))) 0 (sV (Value.slice x0a x0n x0c)))) (fun s => V0) x9 h (fun s => (Rv 0 _ (Rv 1 _ (Rv 2 _ (Rv 3 _ (Rv 9 _ (Rv 10 _ (Rn)))))))) (Sc rfl (Sc rfl (Sc rfl (Sc rfl (Sc rfl (Sc rfl (Sn))))))) (Sn) ?_
     intro I11 s hp h
     obtain ⟨x9, hs⟩ : ∃ x, x = s := ⟨s, rfl⟩
     subst hs
     replace h : F151_l11 x0a x0n x0c x1 x2 x3 x10 I2 K I11 x9 hp := h
     unfold F151_l11 at h
     refine AWP.seq' ?_
     refine AWP.seq (fun env pv hp => ∃ (x9 : Int) (x36 : Bool), Sub (upd (upd (upd (upd (upd (upd (upd E0 36 (sB (x36))) 10 (sI (x10))) 9 (sI (x9))) 3 (sV x3)) 2 (sI (x2))) 1 (sI (x1))) 0 (sV (Value.slice x0a x0n x0c))) env ∧ Sub V0 pv ∧ (F151_j12 x0a x0n x0c x1 x2 x3 x9 x10 x36 hp I2 I11 K)) ?_ ?_
     ·refine AWP.rgnD (by kernel_rfl) (by kernel_rfl) (F151_r21 (upd (upd E0 10 (sI (x10))) 1 (sI (x1))) x0a x0n x0c x2 x3 x9 hp _) ?_ (Rv 0 _ (Rv 2 _ (Rv 3 _ (Rv 9 _ (Rv 1 _ (Rv 10 _ (Rn))))))) (Sc rfl (Sc rfl (Sc rfl (Sc rfl (Sc rfl (Sc rfl (Sn))))))) (Sn)
      refine ite2_mono h (fun h => ?_) (fun h => ?_)
      ·refine ⟨h.1, h.2.1, ?_⟩
       replace h := h.2.2
       refine ptrN_mono h (fun b_61 o_62 h => ?_)
       refine ldL_mono h (fun l_63 h => ?_)
       refine ⟨h.1, h.2.1, ?_⟩
       replace h := h.2.2
       refine ptrN_mono h (fun b_64 o_65 h => ?_)
       refine ldL_mono h (fun l_66 h => ?_)
       refine fnV_mono h (fun f_67 ga_68 gb_69 h => ?_)
       refine CF_mono h (fun u_70 h_71 h => ?_)
       refine intV_mono h (fun i_72 h => ?_)
       exact ⟨x9, (!(decide ((i_72 : Int) < 0))), (Sc rfl (Sc rfl (Sc rfl (Sc rfl (Sc rfl (Sc rfl (Sc rfl (Sn)))))))), (Sn), h⟩
      ·exact ⟨x9, false, (Sc rfl (Sc rfl (Sc rfl (Sc rfl (Sc rfl (Sc rfl (Sc rfl (Sn)))))))), (Sn), h⟩
     ·rintro env pv hp ⟨x9, x36, he, hv, h⟩
      refine AWP.sub (env' := (upd (upd (upd (upd (upd (upd (upd E0 36 (sB (x36))) 10 (sI (x10))) 9 (sI (x9))) 3 (sV x3)) 2 (sI (x2))) 1 (sI (x1))) 0 (sV (Value.slice x0a x0n x0c)))) (pv' := V0) ?_ (Rv 0 _ (Rv 1 _ (Rv 2 _ (Rv 3 _ (Rv 9 _ (Rv 10 _ (Rv 36 _ (Rn)))))))) he hv (HSub.refl _)
      clear he hv
      unfold F151_j12 at h
      refine AWP.cond (t := x36) rfl (fun e => ?_) (fun e => ?_)
      ·replace h := ite2_t h e
       refine AWP.skip ?_
       refine AWP.block ?_
       refine AWP.rgn (F151_r20 (upd (upd (upd (upd (upd E0 10 (sI (x10))) 3 (sV x3)) 2 (sI (x2))) 1 (sI (x1))) 0 (sV (Value.slice x0a x0n x0c))) x9 hp _) ?_ (Rv 9 _ (Rv 0 _ (Rv 1 _ (Rv 2 _ (Rv 3 _ (Rv 10 _ (Rn))))))) (Sc rfl (Sc rfl (Sc rfl (Sc rfl (Sc rfl (Sc rfl (Sn))))))) (Sn)
       exact ⟨(IntKind.wrap .i64 (x9 + 1)), (Sc rfl (Sc rfl (Sc rfl (Sc rfl (Sc rfl (Sc rfl (Sn))))))), (Sn), h⟩
      ·replace h := ite2_f h e
       refine AWP.exit ?_
       exact ⟨x9, x10, (Sc rfl (Sc rfl (Sc rfl (Sc rfl (Sc rfl (Sc rfl (Sn))))))), (Sn), h⟩
    ·rintro env pv hp ⟨x9, x10, he, hv, h⟩
     refine AWP.sub (env' := (upd (upd (upd (upd (upd (upd E0 10 (sI (x10))) 9 (sI (x9))) 3 (sV x3)) 2 (sI (x2))) 1 (sI (x1))) 0 (sV (Value.slice x0a x0n x0c)))) (pv' := V0) ?_ (Rv 0 _ (Rv 1 _ (Rv 2 _ (Rv 3 _ (Rv 9 _ (Rv 10 _ (Rn))))))) he hv (HSub.refl _)
     clear he hv
     unfold F151_j5 at h
     refine AWP.seq' ?_
     refine AWP.seq' ?_
     refine AWP.rgn (F151_r3 (upd (upd (upd (upd E0 10 (sI (x10))) 3 (sV x3)) 1 (sI (x1))) 0 (sV (Value.slice x0a x0n x0c))) x2 x9 hp _) ?_ (Rv 2 _ (Rv 9 _ (Rv 0 _ (Rv 1 _ (Rv 3 _ (Rv 10 _ (Rn))))))) (Sc rfl (Sc rfl (Sc rfl (Sc rfl (Sc rfl (Sc rfl (Sn))))))) (Sn)
     refine AWP.cond (t := ((x9 : Int) == x2)) rfl (fun e => ?_) (fun e => ?_)
     ·replace h := ite2_t h e
      refine AWP.seq' ?_
      refine AWP.rgn (F151_r4 E0  hp _) ?_ (Rn) (Sn) (Sn)
      refine AWP.ret ?_
      exact h
     ·replace h := ite2_f h e
      refine AWP.skip ?_
      refine AWP.seq' ?_
      refine AWP.seq' ?_
      refine AWP.rgn (F151_r5 (upd (upd (upd (upd E0 10 (sI (x10))) 9 (sI (x9))) 3 (sV x3)) 0 (sV (Value.slice x0a x0n x0c))) x1 x2 hp _) ?_ (Rv 1 _ (Rv 2 _ (Rv 0 _ (Rv 3 _ (Rv 9 _ (Rv 10 _ (Rn))))))) (Sc rfl (Sc rfl (Sc rfl (Sc rfl (Sc rfl (Sc rfl (Sn))))))) (Sn)
      refine AWP.cond (t := (decide (((IntKind.wrap .i64 (x2 - x1)) : Int) < 50))) rfl (fun e => ?_) (fun e => ?_)
      ·replace h := ite2_t h e
       refine AWP.seq' ?_
       refine AWP.rgn (F151_r6 E0  hp _) ?_ (Rn) (Sn) (Sn)
       refine AWP.ret ?_
       exact h
      ·replace h := ite2_f h e
       refine AWP.skip ?_
       refine AWP.seq' ?_
       refine AWP.rgnD (by kernel_rfl) (by kernel_rfl) (F151_r7 (upd (upd (upd (upd E0 10 (sI (x10))) 3 (sV x3)) 2 (sI (x2))) 1 (sI (x1))) x0a x0n x0c x9 hp _) ?_ (Rv 0 _ (Rv 9 _ (Rv 1 _ (Rv 2 _ (Rv 3 _ (Rv 10 _ (Rn))))))) (Sc rfl (Sc rfl (Sc rfl (Sc rfl (Sc rfl (Sc rfl (Sn))))))) (Sn)
       refine ⟨h.1, h.2.1, ?_⟩
       replace h := h.2.2
       refine ptrN_mono h (fun b_1 o_2 h => ?_)
       refine ldL_mono h (fun l_3 h => ?_)
       refine ⟨h.1, h.2.1, ?_⟩
       replace h := h.2.2
       refine ptrN_mono h (fun b_4 o_5 h => ?_)
       refine ldL_mono h (fun l_6 h => ?_)
       refine ⟨h.1, h.2.1, ?_⟩
       replace h := h.2.2
       refine ptrN_mono h (fun b_7 o_8 h => ?_)
       refine ⟨h.1, ?_⟩
       replace h := h.2
       refine stN_mono h (fun h_9 h => ?_)
       refine ⟨h.1, h.2.1, ?_⟩
       replace h := h.2.2
       refine ptrN_mono h (fun b_10 o_11 h => ?_)
       refine ⟨h.1, ?_⟩
       replace h := h.2
       refine stN_mono h (fun h_12 h => ?_)
       refine AWP.seq (fun env pv hp => ∃ (x9 : Int) (x10 : Int), Sub (upd (upd (upd (upd (upd (upd E0 10 (sI (x10))) 9 (sI (x9))) 3 (sV x3)) 2 (sI (x2))) 1 (sI (x1))) 0 (sV (Value.slice x0a x0n x0c))) env ∧ Sub V0 pv ∧ (F151_j6 x0a x0n x0c x1 x2 x3 x9 x10 hp I2 K)) ?_ ?_
       ·refine AWP.seq' ?_
        refine AWP.rgn (F151_r14 (upd (upd (upd (upd E0 10 (sI (x10))) 3 (sV x3)) 2 (sI (x2))) 0 (sV (Value.slice x0a x0n x0c))) x1 x9 h_12 _) ?_ (Rv 1 _ (Rv 9 _ (Rv 0 _ (Rv 2 _ (Rv 3 _ (Rv 10 _ (Rn))))))) (Sc rfl (Sc rfl (Sc rfl (Sc rfl (Sc rfl (Sc rfl (Sn))))))) (Sn)
        refine AWP.cond (t := (decide (((IntKind.wrap .i64 (x9 - x1)) : Int) ≥ 2))) rfl (fun e => ?_) (fun e => ?_)
        ·replace h := ite2_t h e
         refine AWP.seq (fun env pv hp => ∃ (x9 : Int) (x10 : Int) (x11 : Int), Sub (upd (upd (upd (upd (upd (upd (upd E0 11 (sI (x11))) 10 (sI (x10))) 9 (sI (x9))) 3 (sV x3)) 2 (sI (x2))) 1 (sI (x1))) 0 (sV (Value.slice x0a x0n x0c))) env ∧ Sub V0 pv ∧ (F151_j9 x0a x0n x0c x1 x2 x3 x9 x10 x11 hp I2 K)) ?_ ?_
         ·refine AWP.rgn (F151_r19 (upd (upd (upd (upd (upd E0 10 (sI (x10))) 3 (sV x3)) 2 (sI (x2))) 1 (sI (x1))) 0 (sV (Value.slice x0a x0n x0c))) x9 h_12 _) ?_ (Rv 9 _ (Rv 0 _ (Rv 1 _ (Rv 2 _ (Rv 3 _ (Rv 10 _ (Rn))))))) (Sc rfl (Sc rfl (Sc rfl (Sc rfl (Sc rfl (Sc rfl (Sn))))))) (Sn)
          exact ⟨x9, x10, (IntKind.wrap .i64 (x9 - 1)), (Sc rfl (Sc rfl (Sc rfl (Sc rfl (Sc rfl (Sc rfl (Sc rfl (Sn)))))))), (Sn), h⟩
         ·rintro env pv hp ⟨x9, x10, x11, he, hv, h⟩
          refine AWP.sub (env' := (upd (upd (upd (upd (upd (upd (upd E0 11 (sI (x11))) 10 (sI (x10))) 9 (sI (x9))) 3 (sV x3)) 2 (sI (x2))) 1 (sI (x1))) 0 (sV (Value.slice x0a x0n x0c)))) (pv' := V0) ?_ (Rv 0 _ (Rv 1 _ (Rv 2 _ (Rv 3 _ (Rv 9 _ (Rv 10 _ (Rv 11 _ (Rn)))))))) he hv (HSub.refl _)
          clear he hv
          unfold F151_j9 at h
          refine AWP.block ?_
          refine AWP.loop (σ := Int) (fun I s hp => F151_l10 x0a x0n x0c x1 x2 x3 x9 x10 I2 K I s hp) (fun s => (upd (upd (upd (upd (upd (upd (upd E0 11 (sI (s))) 10 (sI (x10))) 9 (sI (x9))) 3 (sV x3)) 2 (sI (x2))) 1 (sI (x1))) 0 (sV (Value.slice x0a x0n x0c)))) (fun s => V0) x11 h (fun s => (Rv 0 _ (Rv 1 _ (Rv 2 _ (Rv 3 _ (Rv 9 _ (Rv 10 _ (Rv 11 _ (Rn))))))))) (Sc rfl (Sc rfl (Sc rfl (Sc rfl (Sc rfl (Sc rfl (Sc rfl (Sn)))))))) (Sn) ?_
          intro I10 s hp h
          obtain ⟨x11, hs⟩ : ∃ x, x = s := ⟨s, rfl⟩
          subst hs
          replace h : F151_l10 x0a x0n x0c x1 x2 x3 x9 x10 I2 K I10 x11 hp := h
          unfold F151_l10 at h
          refine AWP.seq' ?_
          refine AWP.seq' ?_
          refine AWP.rgn (F151_r15 (upd (upd (upd (upd (upd (upd E0 10 (sI (x10))) 9 (sI (x9))) 3 (sV x3)) 2 (sI (x2))) 1 (sI (x1))) 0 (sV (Value.slice x0a x0n x0c))) x11 hp _) ?_ (Rv 11 _ (Rv 0 _ (Rv 1 _ (Rv 2 _ (Rv 3 _ (Rv 9 _ (Rv 10 _ (Rn)))))))) (Sc rfl (Sc rfl (Sc rfl (Sc rfl (Sc rfl (Sc rfl (Sc rfl (Sn)))))))) (Sn)
          refine AWP.cond (t := (decide ((x11 : Int) ≥ 1))) rfl (fun e => ?_) (fun e => ?_)
          ·replace h := ite2_t h e
           refine AWP.skip ?_
           refine AWP.seq' ?_
           refine AWP.block ?_
           refine AWP.seq' ?_
           refine AWP.seq' ?_
           refine AWP.rgnD (by kernel_rfl) (by kernel_rfl) (F151_r16 (upd (upd (upd (upd E0 10 (sI (x10))) 9 (sI (x9))) 2 (sI (x2))) 1 (sI (x1))) x0a x0n x0c x3 x11 hp _) ?_ (Rv 0 _ (Rv 3 _ (Rv 11 _ (Rv 1 _ (Rv 2 _ (Rv 9 _ (Rv 10 _ (Rn)))))))) (Sc rfl (Sc rfl (Sc rfl (Sc rfl (Sc rfl (Sc rfl (Sc rfl (Sn)))))))) (Sn)
           refine ⟨h.1, h.2.1, ?_⟩
           replace h := h.2.2
           refine ptrN_mono h (fun b_37 o_38 h => ?_)
           refine ldL_mono h (fun l_39 h => ?_)
           refine ⟨h.1, h.2.1, ?_⟩
           replace h := h.2.2
           refine ptrN_mono h (fun b_40 o_41 h => ?_)
           refine ldL_mono h (fun l_42 h => ?_)
           refine fnV_mono h (fun f_43 ga_44 gb_45 h => ?_)
           refine CF_mono h (fun u_46 h_47 h => ?_)
           refine intV_mono h (fun i_48 h => ?_)
           refine AWP.cond (t := (!(decide ((i_48 : Int) < 0)))) rfl (fun e => ?_) (fun e => ?_)
           ·replace h := ite2_t h e
            refine AWP.exit ?_
            exact ⟨x9, x10, (Sc rfl (Sc rfl (Sc rfl (Sc rfl (Sc rfl (Sc rfl (Sn))))))), (Sn), h⟩
           ·replace h := ite2_f h e
            refine AWP.skip ?_
            refine AWP.rgnD (by kernel_rfl) (by kernel_rfl) (F151_r17 (upd (upd (upd (upd (upd E0 10 (sI (x10))) 9 (sI (x9))) 3 (sV x3)) 2 (sI (x2))) 1 (sI (x1))) x0a x0n x0c x11 h_47 _) ?_ (Rv 0 _ (Rv 11 _ (Rv 1 _ (Rv 2 _ (Rv 3 _ (Rv 9 _ (Rv 10 _ (Rn)))))))) (Sc rfl (Sc rfl (Sc rfl (Sc rfl (Sc rfl (Sc rfl (Sc rfl (Sn)))))))) (Sn)
            refine ⟨h.1, h.2.1, ?_⟩
            replace h := h.2.2
            refine ptrN_mono h (fun b_49 o_50 h => ?_)
            refine ldL_mono h (fun l_51 h => ?_)
            refine ⟨h.1, h.2.1, ?_⟩
            replace h := h.2.2
            refine ptrN_mono h (fun b_52 o_53 h => ?_)
            refine ldL_mono h (fun l_54 h => ?_)
            refine ⟨h.1, h.2.1, ?_⟩
            replace h := h.2.2
            refine ptrN_mono h (fun b_55 o_56 h => ?_)
            refine ⟨h.1, ?_⟩
            replace h := h.2
            refine stN_mono h (fun h_57 h => ?_)
            refine ⟨h.1, h.2.1, ?_⟩
            replace h := h.2.2
            refine ptrN_mono h (fun b_58 o_59 h => ?_)
            refine ⟨h.1, ?_⟩
            replace h := h.2
            refine stN_mono h (fun h_60 h => ?_)
            refine AWP.rgn (F151_r18 (upd (upd (upd (upd (upd (upd E0 10 (sI (x10))) 9 (sI (x9))) 3 (sV x3)) 2 (sI (x2))) 1 (sI (x1))) 0 (sV (Value.slice x0a x0n x0c))) x11 h_60 _) ?_ (Rv 11 _ (Rv 0 _ (Rv 1 _ (Rv 2 _ (Rv 3 _ (Rv 9 _ (Rv 10 _ (Rn)))))))) (Sc rfl (Sc rfl (Sc rfl (Sc rfl (Sc rfl (Sc rfl (Sc rfl (Sn)))))))) (Sn)
            exact ⟨(IntKind.wrap .i64 (x11 - 1)), (Sc rfl (Sc rfl (Sc rfl (Sc rfl (Sc rfl (Sc rfl (Sc rfl (Sn)))))))), (Sn), h⟩
          ·replace h := ite2_f h e
           refine AWP.exit ?_
           exact ⟨x9, x10, (Sc rfl (Sc rfl (Sc rfl (Sc rfl (Sc rfl (Sc rfl (Sn))))))), (Sn), h⟩
        ·replace h := ite2_f h e
         refine AWP.skip ?_
         exact ⟨x9, x10, (Sc rfl (Sc rfl (Sc rfl (Sc rfl (Sc rfl (Sc rfl (Sn))))))), (Sn), h⟩
       ·rintro env pv hp ⟨x9, x10, he, hv, h⟩
        refine AWP.sub (env' := (upd (upd (upd (upd (upd (upd E0 10 (sI (x10))) 9 (sI (x9))) 3 (sV x3)) 2 (sI (x2))) 1 (sI (x1))) 0 (sV (Value.slice x0a x0n x0c)))) (pv' := V0) ?_ (Rv 0 _ (Rv 1 _ (Rv 2 _ (Rv 3 _ (Rv 9 _ (Rv 10 _ (Rn))))))) he hv (HSub.refl _)
        clear he hv
        unfold F151_j6 at h
        refine AWP.seq' ?_
        refine AWP.rgn (F151_r8 (upd (upd (upd (upd E0 10 (sI (x10))) 3 (sV x3)) 1 (sI (x1))) 0 (sV (Value.slice x0a x0n x0c))) x2 x9 hp _) ?_ (Rv 2 _ (Rv 9 _ (Rv 0 _ (Rv 1 _ (Rv 3 _ (Rv 10 _ (Rn))))))) (Sc rfl (Sc rfl (Sc rfl (Sc rfl (Sc rfl (Sc rfl (Sn))))))) (Sn)
        refine AWP.cond (t := (decide (((IntKind.wrap .i64 (x2 - x9)) : Int) ≥ 2))) rfl (fun e => ?_) (fun e => ?_)
        ·replace h := ite2_t h e
         refine AWP.seq (fun env pv hp => ∃ (x9 : Int) (x10 : Int) (x12 : Int), Sub (upd (upd (upd (upd (upd (upd (upd E0 12 (sI (x12))) 10 (sI (x10))) 9 (sI (x9))) 3 (sV x3)) 2 (sI (x2))) 1 (sI (x1))) 0 (sV (Value.slice x0a x0n x0c))) env ∧ Sub V0 pv ∧ (F151_j7 x0a x0n x0c x1 x2 x3 x9 x10 x12 hp I2 K)) ?_ ?_
         ·refine AWP.rgn (F151_r13 (upd (upd (upd (upd (upd E0 10 (sI (x10))) 3 (sV x3)) 2 (sI (x2))) 1 (sI (x1))) 0 (sV (Value.slice x0a x0n x0c))) x9 hp _) ?_ (Rv 9 _ (Rv 0 _ (Rv 1 _ (Rv 2 _ (Rv 3 _ (Rv 10 _ (Rn))))))) (Sc rfl (Sc rfl (Sc rfl (Sc rfl (Sc rfl (Sc rfl (Sn))))))) (Sn)
          exact ⟨x9, x10, (IntKind.wrap .i64 (x9 + 1)), (Sc rfl (Sc rfl (Sc rfl (Sc rfl (Sc rfl (Sc rfl (Sc rfl (Sn)))))))), (Sn), h⟩
         ·rintro env pv hp ⟨x9, x10, x12, he, hv, h⟩
          refine AWP.sub (env' := (upd (upd (upd (upd (upd (upd (upd E0 12 (sI (x12))) 10 (sI (x10))) 9 (sI (x9))) 3 (sV x3)) 2 (sI (x2))) 1 (sI (x1))) 0 (sV (Value.slice x0a x0n x0c)))) (pv' := V0) ?_ (Rv 0 _ (Rv 1 _ (Rv 2 _ (Rv 3 _ (Rv 9 _ (Rv 10 _ (Rv 12 _ (Rn)))))))) he hv (HSub.refl _)
          clear he hv
          unfold F151_j7 at h
          refine AWP.block ?_
          refine AWP.loop (σ := Int) (fun I s hp => F151_l8 x0a x0n x0c x1 x2 x3 x9 x10 I2 K I s hp) (fun s => (upd (upd (upd (upd (upd (upd (upd E0 12 (sI (s))) 10 (sI (x10))) 9 (sI (x9))) 3 (sV x3)) 2 (sI (x2))) 1 (sI (x1))) 0 (sV (Value.slice x0a x0n x0c)))) (fun s => V0) x12 h (fun s => (Rv 0 _ (Rv 1 _ (Rv 2 _ (Rv 3 _ (Rv 9 _ (Rv 10 _ (Rv 12 _ (Rn))))))))) (Sc rfl (Sc rfl (Sc rfl (Sc rfl (Sc rfl (Sc rfl (Sc rfl (Sn)))))))) (Sn) ?_
          intro I8 s hp h
          obtain ⟨x12, hs⟩ : ∃ x, x = s := ⟨s, rfl⟩
          subst hs
          replace h : F151_l8 x0a x0n x0c x1 x2 x3 x9 x10 I2 K I8 x12 hp := h
          unfold F151_l8 at h
          refine AWP.seq' ?_
          refine AWP.seq' ?_
          refine AWP.rgn (F151_r9 (upd (upd (upd (upd (upd E0 10 (sI (x10))) 9 (sI (x9))) 3 (sV x3)) 1 (sI (x1))) 0 (sV (Value.slice x0a x0n x0c))) x2 x12 hp _) ?_ (Rv 2 _ (Rv 12 _ (Rv 0 _ (Rv 1 _ (Rv 3 _ (Rv 9 _ (Rv 10 _ (Rn)))))))) (Sc rfl (Sc rfl (Sc rfl (Sc rfl (Sc rfl (Sc rfl (Sc rfl (Sn)))))))) (Sn)
          refine AWP.cond (t := (decide ((x12 : Int) < x2))) rfl (fun e => ?_) (fun e => ?_)
          ·replace h := ite2_t h e
           refine AWP.skip ?_
           refine AWP.seq' ?_
           refine AWP.block ?_
           refine AWP.seq' ?_
           refine AWP.seq' ?_
           refine AWP.rgnD (by kernel_rfl) (by kernel_rfl) (F151_r10 (upd (upd (upd (upd E0 10 (sI (x10))) 9 (sI (x9))) 2 (sI (x2))) 1 (sI (x1))) x0a x0n x0c x3 x12 hp _) ?_ (Rv 0 _ (Rv 3 _ (Rv 12 _ (Rv 1 _ (Rv 2 _ (Rv 9 _ (Rv 10 _ (Rn)))))))) (Sc rfl (Sc rfl (Sc rfl (Sc rfl (Sc rfl (Sc rfl (Sc rfl (Sn)))))))) (Sn)
           refine ⟨h.1, h.2.1, ?_⟩
           replace h := h.2.2
           refine ptrN_mono h (fun b_13 o_14 h => ?_)
           refine ldL_mono h (fun l_15 h => ?_)
           refine ⟨h.1, h.2.1, ?_⟩
           replace h := h.2.2
           refine ptrN_mono h (fun b_16 o_17 h => ?_)
           refine ldL_mono h (fun l_18 h => ?_)
           refine fnV_mono h (fun f_19 ga_20 gb_21 h => ?_)
           refine CF_mono h (fun u_22 h_23 h => ?_)
           refine intV_mono h (fun i_24 h => ?_)
           refine AWP.cond (t := (!(decide ((i_24 : Int) < 0)))) rfl (fun e => ?_) (fun e => ?_)
           ·replace h := ite2_t h e
            refine AWP.exit ?_
            exact ⟨x9, x10, (Sc rfl (Sc rfl (Sc rfl (Sc rfl (Sc rfl (Sc rfl (Sn))))))), (Sn), h⟩
           ·replace h := ite2_f h e
            refine AWP.skip ?_
            refine AWP.rgnD (by kernel_rfl) (by kernel_rfl) (F151_r11 (upd (upd (upd (upd (upd E0 10 (sI (x10))) 9 (sI (x9))) 3 (sV x3)) 2 (sI (x2))) 1 (sI (x1))) x0a x0n x0c x12 h_23 _) ?_ (Rv 0 _ (Rv 12 _ (Rv 1 _ (Rv 2 _ (Rv 3 _ (Rv 9 _ (Rv 10 _ (Rn)))))))) (Sc rfl (Sc rfl (Sc rfl (Sc rfl (Sc rfl (Sc rfl (Sc rfl (Sn)))))))) (Sn)
            refine ⟨h.1, h.2.1, ?_⟩
            replace h := h.2.2
            refine ptrN_mono h (fun b_25 o_26 h => ?_)
            refine ldL_mono h (fun l_27 h => ?_)
            refine ⟨h.1, h.2.1, ?_⟩
            replace h := h.2.2
            refine ptrN_mono h (fun b_28 o_29 h => ?_)
            refine ldL_mono h (fun l_30 h => ?_)
            refine ⟨h.1, h.2.1, ?_⟩
            replace h := h.2.2
            refine ptrN_mono h (fun b_31 o_32 h => ?_)
            refine ⟨h.1, ?_⟩
            replace h := h.2
            refine stN_mono h (fun h_33 h => ?_)
            refine ⟨h.1, h.2.1, ?_⟩
            replace h := h.2.2
            refine ptrN_mono h (fun b_34 o_35 h => ?_)
            refine ⟨h.1, ?_⟩
            replace h := h.2
            refine stN_mono h (fun h_36 h => ?_)
            refine AWP.rgn (F151_r12 (upd (upd (upd (upd (upd (upd E0 10 (sI (x10))) 9 (sI (x9))) 3 (sV x3)) 2 (sI (x2))) 1 (sI (x1))) 0 (sV (Value.slice x0a x0n x0c))) x12 h_36 _) ?_ (Rv 12 _ (Rv 0 _ (Rv 1 _ (Rv 2 _ (Rv 3 _ (Rv 9 _ (Rv 10 _ (Rn)))))))) (Sc rfl (Sc rfl (Sc rfl (Sc rfl (Sc rfl (Sc rfl (Sc rfl (Sn)))))))) (Sn)
            exact ⟨(IntKind.wrap .i64 (x12 + 1)), (Sc rfl (Sc rfl (Sc rfl (Sc rfl (Sc rfl (Sc rfl (Sc rfl (Sn)))))))), (Sn), h⟩
          ·replace h := ite2_f h e
           refine AWP.exit ?_
           exact ⟨x9, x10, (Sc rfl (Sc rfl (Sc rfl (Sc rfl (Sc rfl (Sc rfl (Sn))))))), (Sn), h⟩
        ·replace h := ite2_f h e
         refine AWP.skip ?_
         exact ⟨x9, x10, (Sc rfl (Sc rfl (Sc rfl (Sc rfl (Sc rfl (Sc rfl (Sn))))))), (Sn), h⟩
   ·rintro env pv hp ⟨x9, x10, he, hv, h⟩
    refine AWP.sub (env' := (upd (upd (upd (upd (upd (upd E0 10 (sI (x10))) 9 (sI (x9))) 3 (sV x3)) 2 (sI (x2))) 1 (sI (x1))) 0 (sV (Value.slice x0a x0n x0c)))) (pv' := V0) ?_ (Rv 0 _ (Rv 1 _ (Rv 2 _ (Rv 3 _ (Rv 9 _ (Rv 10 _ (Rn))))))) he hv (HSub.refl _)
    clear he hv
    unfold F151_j4 at h
    refine AWP.rgn (F151_r2 (upd (upd (upd (upd (upd E0 9 (sI (x9))) 3 (sV x3)) 2 (sI (x2))) 1 (sI (x1))) 0 (sV (Value.slice x0a x0n x0c))) x10 hp _) ?_ (Rv 10 _ (Rv 0 _ (Rv 1 _ (Rv 2 _ (Rv 3 _ (Rv 9 _ (Rn))))))) (Sc rfl (Sc rfl (Sc rfl (Sc rfl (Sc rfl (Sc rfl (Sn))))))) (Sn)
    exact ⟨(x9, (IntKind.wrap .i64 (x10 + 1))), (Sc rfl (Sc rfl (Sc rfl (Sc rfl (Sc rfl (Sc rfl (Sn))))))), (Sn), h⟩
-- 152 slices.partitionEqualCmpFunc[interpreter/expiry.thing]
theorem F152_r0 (e : Env) (hp : HP) (K : Env → PV → HP → Prop) : RW Try.prog 90 [] (opsAt Try.f152 [0]) (List.range 1) e V0 hp K =
    (K (upd e 10 (sI (0))) V0 hp) := by kernel_rfl
theorem F152_r1 (e : Env) (x0a : Option Addr) (x0n : Nat) (x0c : Nat) (x1 : Int) (x3 : Int) (hp : HP) (K : Env → PV → HP → Prop) : RW Try.prog 90 [] (opsAt Try.f152 [1, 0]) (List.range 16) (upd (upd (upd e 3 (sI (x3))) 1 (sI (x1))) 0 (sV (Value.slice x0a x0n x0c))) V0 hp K =
    ((0 ≤ (x3 : Int)) ∧ ((x3 : Int) < (x0n : Nat)) ∧ (ptrN x0a fun b1 o2 => (ldL (HP.cellN hp b1 (o2 + Int.toNat x3 * 2) 2) fun l3 => ((0 ≤ (x1 : Int)) ∧ ((x1 : Int) < (x0n : Nat)) ∧ (ptrN x0a fun b4 o5 => (ldL (HP.cellN hp b4 (o5 + Int.toNat x1 * 2) 2) fun l6 => ((0 ≤ (x1 : Int)) ∧ ((x1 : Int) < (x0n : Nat)) ∧ (ptrN x0a fun b7 o8 => ((List.length l3 = 2) ∧ (HP.stN hp b7 (o8 + Int.toNat x1 * 2) l3 fun h9 => ((0 ≤ (x3 : Int)) ∧ ((x3 : Int) < (x0n : Nat)) ∧ (ptrN x0a fun b10 o11 => ((List.length l6 = 2) ∧ (HP.stN h9 b10 (o11 + Int.toNat x3 * 2) l6 fun h12 => (K (upd (upd (upd (upd (upd (upd (upd (upd (upd (upd (upd (upd (upd (upd (upd (upd (upd e 3 (sI (x3))) 1 (sI (x1))) 0 (sV (Value.slice x0a x0n x0c))) 13 (sV (Value.slice x0a x0n x0c))) 14 (sI (x1))) 15 (sV (Value.slice x0a x0n x0c))) 16 (sI (x3))) 17 (sV (Value.slice x0a x0n x0c))) 18 (sI (x3))) 19 (sV (ptr b1 (o2 + Int.toNat x3 * 2)))) 20 (sV (Value.agg ⟨l3⟩))) 21 (sV (Value.slice x0a x0n x0c))) 22 (sI (x1))) 23 (sV (ptr b4 (o5 + Int.toNat x1 * 2)))) 24 (sV (Value.agg ⟨l6⟩))) 25 (sV (ptr b7 (o8 + Int.toNat x1 * 2)))) 26 (sV (ptr b10 (o11 + Int.toNat x3 * 2)))) V0 h12))))))))))))))) := by kernel_rfl
theorem F152_r2 (e : Env) (x11 : Int) (hp : HP) (K : Env → PV → HP → Prop) : RW Try.prog 90 [] (opsAt Try.f152 [1, 1, 1, 1, 0]) (List.range 2) (upd e 11 (sI (x11))) V0 hp K =
    (K (upd (upd (upd e 11 (sI (x11))) 89 (sI (x11))) 10 (sI (x11))) V0 hp) := by kernel_rfl
def F152_j2 (x11 : Int) (hp : HP) (K : Value → HP → Prop) : Prop :=
  (K (Value.int .i64 x11) hp)
theorem F152_r3 (e : Env) (x11 : Int) (x12 : Int) (hp : HP) (K : Env → PV → HP → Prop) : RW Try.prog 90 [] (opsAt Try.f152 [1, 1, 1, 0, 0, 0, 0, 1, 1, 0, 0]) (List.range 3) (upd (upd e 12 (sI (x12))) 11 (sI (x11))) V0 hp K =
    (K (upd (upd (upd (upd (upd e 12 (sI (x12))) 11 (sI (x11))) 68 (sI (x11))) 69 (sI (x12))) 70 (sB ((decide ((x11 : Int) > x12))))) V0 hp) := by kernel_rfl
theorem F152_r4 (e : Env) (x0a : Option Addr) (x0n : Nat) (x0c : Nat) (x11 : Int) (x12 : Int) (hp : HP) (K : Env → PV → HP → Prop) : RW Try.prog 90 [] (opsAt Try.f152 [1, 1, 1, 0, 0, 0, 0, 1, 1, 1, 0]) (List.range 16) (upd (upd (upd e 12 (sI (x12))) 11 (sI (x11))) 0 (sV (Value.slice x0a x0n x0c))) V0 hp K =
    ((0 ≤ (x12 : Int)) ∧ ((x12 : Int) < (x0n : Nat)) ∧ (ptrN x0a fun b1 o2 => (ldL (HP.cellN hp b1 (o2 + Int.toNat x12 * 2) 2) fun l3 => ((0 ≤ (x11 : Int)) ∧ ((x11 : Int) < (x0n : Nat)) ∧ (ptrN x0a fun b4 o5 => (ldL (HP.cellN hp b4 (o5 + Int.toNat x11 * 2) 2) fun l6 => ((0 ≤ (x11 : Int)) ∧ ((x11 : Int) < (x0n : Nat)) ∧ (ptrN x0a fun b7 o8 => ((List.length l3 = 2) ∧ (HP.stN hp b7 (o8 + Int.toNat x11 * 2) l3 fun h9 => ((0 ≤ (x12 : Int)) ∧ ((x12 : Int) < (x0n : Nat)) ∧ (ptrN x0a fun b10 o11 => ((List.length l6 = 2) ∧ (HP.stN h9 b10 (o11 + Int.toNat x12 * 2) l6 fun h12 => (K (upd (upd (upd (upd (upd (upd (upd (upd (upd (upd (upd (upd (upd (upd (upd (upd (upd e 12 (sI (x12))) 11 (sI (x11))) 0 (sV (Value.slice x0a x0n x0c))) 71 (sV (Value.slice x0a x0n x0c))) 72 (sI (x11))) 73 (sV (Value.slice x0a x0n x0c))) 74 (sI (x12))) 75 (sV (Value.slice x0a x0n x0c))) 76 (sI (x12))) 77 (sV (ptr b1 (o2 + Int.toNat x12 * 2)))) 78 (sV (Value.agg ⟨l3⟩))) 79 (sV (Value.slice x0a x0n x0c))) 80 (sI (x11))) 81 (sV (ptr b4 (o5 + Int.toNat x11 * 2)))) 82 (sV (Value.agg ⟨l6⟩))) 83 (sV (ptr b7 (o8 + Int.toNat x11 * 2)))) 84 (sV (ptr b10 (o11 + Int.toNat x12 * 2)))) V0 h12))))))))))))))) := by kernel_rfl
theorem F152_r5 (e : Env) (x11 : Int) (hp : HP) (K : Env → PV → HP → Prop) : RW Try.prog 90 [] (opsAt Try.f152 [1, 1, 1, 0, 0, 0, 0, 1, 1, 1, 1, 0]) (List.range 3) (upd e 11 (sI (x11))) V0 hp K =
    (K (upd (upd (upd (upd e 11 (sI (x11))) 85 (sI (x11))) 86 (sI ((IntKind.wrap .i64 (x11 + 1))))) 11 (sI ((IntKind.wrap .i64 (x11 + 1))))) V0 hp) := by kernel_rfl
theorem F152_r6 (e : Env) (x12 : Int) (hp : HP) (K : Env → PV → HP → Prop) : RW Try.prog 90 [] (opsAt Try.f152 [1, 1, 1, 0, 0, 0, 0, 1, 1, 1, 1, 1]) (List.range 3) (upd e 12 (sI (x12))) V0 hp K =
    (K (upd (upd (upd (upd e 12 (sI (x12))) 87 (sI (x12))) 88 (sI ((IntKind.wrap .i64 (x12 - 1))))) 12 (sI ((IntKind.wrap .i64 (x12 - 1))))) V0 hp) := by kernel_rfl
def F152_j5 (x0a : Option Addr) (x0n : Nat) (x0c : Nat) (x1 : Int) (x4 : Value) (x11 : Int) (x12 : Int) (hp : HP) (I3 : (Int × Int) → HP → Prop) (K : Value → HP → Prop) : Prop :=
  (ite2 (decide ((x11 : Int) > x12)) (F152_j2 x11 hp  K) ((0 ≤ (x12 : Int)) ∧ ((x12 : Int) < (x0n : Nat)) ∧ (ptrN x0a fun b_13 o_14 => (ldL (HP.cellN hp b_13 (o_14 + Int.toNat x12 * 2) 2) fun l_15 => ((0 ≤ (x11 : Int)) ∧ ((x11 : Int) < (x0n : Nat)) ∧ (ptrN x0a fun b_16 o_17 => (ldL (HP.cellN hp b_16 (o_17 + Int.toNat x11 * 2) 2) fun l_18 => ((0 ≤ (x11 : Int)) ∧ ((x11 : Int) < (x0n : Nat)) ∧ (ptrN x0a fun b_19 o_20 => ((List.length l_15 = 2) ∧ (HP.stN hp b_19 (o_20 + Int.toNat x11 * 2) l_15 fun h_21 => ((0 ≤ (x12 : Int)) ∧ ((x12 : Int) < (x0n : Nat)) ∧ (ptrN x0a fun b_22 o_23 => ((List.length l_18 = 2) ∧ (HP.stN h_21 b_22 (o_23 + Int.toNat x12 * 2) l_18 fun h_24 => (I3 ((IntKind.wrap .i64 (x11 + 1)), (IntKind.wrap .i64 (x12 - 1))) h_24))))))))))))))))
theorem F152_r7 (e : Env) (x12 : Int) (hp : HP) (K : Env → PV → HP → Prop) : RW Try.prog 90 [] (opsAt Try.f152 [1, 1, 1, 0, 0, 0, 0, 1, 0, 0, 0, 1, 0]) (List.range 3) (upd e 12 (sI (x12))) V0 hp K =
    (K (upd (upd (upd (upd e 12 (sI (x12))) 66 (sI (x12))) 67 (sI ((IntKind.wrap .i64 (x12 - 1))))) 12 (sI ((IntKind.wrap .i64 (x12 - 1))))) V0 hp) := by kernel_rfl
def F152_j7 (x0a : Option Addr) (x0n : Nat) (x0c : Nat) (x1 : Int) (x4 : Value) (x11 : Int) (x12 : Int) (x65 : Bool) (hp : HP) (I3 : (Int × Int) → HP → Prop) (I6 : (Int) → HP → Prop) (K : Value → HP → Prop) : Prop :=
  (ite2 x65 (I6 (IntKind.wrap .i64 (x12 - 1)) hp) (F152_j5 x0a x0n x0c x1 x4 x11 x12 hp I3 K))
theorem F152_r8 (e : Env) (x0a : Option Addr) (x0n : Nat) (x0c : Nat) (x1 : Int) (x4 : Value) (x11 : Int) (x12 : Int) (hp : HP) (K : Env → PV → HP → Prop) : RW Try.prog 90 [] (opsAt Try.f152 [1, 1, 1, 0, 0, 0, 0, 1, 0, 0, 0, 0, 0]) (List.range 16) (upd (upd (upd (upd (upd e 12 (sI (x12))) 11 (sI (x11))) 4 (sV x4)) 1 (sI (x1))) 0 (sV (Value.slice x0a x0n x0c))) V0 hp K =
    (ite2 (decide ((x11 : Int) ≤ x12)) ((0 ≤ (x1 : Int)) ∧ ((x1 : Int) < (x0n : Nat)) ∧ (ptrN x0a fun b1 o2 => (ldL (HP.cellN hp b1 (o2 + Int.toNat x1 * 2) 2) fun l3 => ((0 ≤ (x12 : Int)) ∧ ((x12 : Int) < (x0n : Nat)) ∧ (ptrN x0a fun b4 o5 => (ldL (HP.cellN hp b4 (o5 + Int.toNat x12 * 2) 2) fun l6 => (fnV x4 fun f7 ga8 gb9 => (CF Try.prog f7 (ga8 ++ [(Value.agg ⟨l3⟩), (Value.agg ⟨l6⟩)] ++ gb9) hp fun u10 h11 => (intV u10 .i64 fun i12 => (K (upd (upd (upd (upd (upd (upd (upd (upd (upd (upd (upd (upd (upd (upd (upd (upd (upd (upd (upd (upd (upd e 12 (sI (x12))) 11 (sI (x11))) 4 (sV x4)) 1 (sI (x1))) 0 (sV (Value.slice x0a x0n x0c))) 50 (sI (x11))) 51 (sI (x12))) 52 (sB ((decide ((x11 : Int) ≤ x12))))) 53 (sB (true))) 54 (sV x4)) 55 (sV (Value.slice x0a x0n x0c))) 56 (sI (x1))) 57 (sV (ptr b1 (o2 + Int.toNat x1 * 2)))) 58 (sV (Value.agg ⟨l3⟩))) 59 (sV (Value.slice x0a x0n x0c))) 60 (sI (x12))) 61 (sV (ptr b4 (o5 + Int.toNat x12 * 2)))) 62 (sV (Value.agg ⟨l6⟩))) 63 (sI (i12))) 64 (sB ((decide ((i12 : Int) < 0))))) 65 (sB ((decide ((i12 : Int) < 0))))) V0 h11)))))))))) (K (upd (upd (upd (upd (upd (upd (upd (upd (upd (upd (upd (upd (upd (upd (upd (upd (upd (upd (upd (upd (upd e 12 (sI (x12))) 11 (sI (x11))) 4 (sV x4)) 1 (sI (x1))) 0 (sV (Value.slice x0a x0n x0c))) 50 (sI (x11))) 51 (sI (x12))) 52 (sB ((decide ((x11 : Int) ≤ x12))))) 53 (sB (false))) 54 (sV undef)) 55 (sV undef)) 56 (sV undef)) 57 (sV undef)) 58 (sV undef)) 59 (sV undef)) 60 (sV undef)) 61 (sV undef)) 62 (sV undef)) 63 (sV undef)) 64 (sV undef)) 65 (sB (false))) V0 hp)) := by kernel_rfl
def F152_l6 (x0a : Option Addr) (x0n : Nat) (x0c : Nat) (x1 : Int) (x4 : Value) (x11 : Int) (I3 : (Int × Int) → HP → Prop) (K : Value → HP → Prop) (I6 : (Int) → HP → Prop) (x12 : Int) (hp : HP) : Prop :=
  (ite2 (decide ((x11 : Int) ≤ x12)) ((0 ≤ (x1 : Int)) ∧ ((x1 : Int) < (x0n : Nat)) ∧ (ptrN x0a fun b_25 o_26 => (ldL (HP.cellN hp b_25 (o_26 + Int.toNat x1 * 2) 2) fun l_27 => ((0 ≤ (x12 : Int)) ∧ ((x12 : Int) < (x0n : Nat)) ∧ (ptrN x0a fun b_28 o_29 => (ldL (HP.cellN hp b_28 (o_29 + Int.toNat x12 * 2) 2) fun l_30 => (fnV x4 fun f_31 ga_32 gb_33 => (CF Try.prog f_31 (ga_32 ++ [(Value.agg ⟨l_27⟩), (Value.agg ⟨l_30⟩)] ++ gb_33) hp fun u_34 h_35 => (intV u_34 .i64 fun i_36 => (F152_j7 x0a x0n x0c x1 x4 x11 x12 (decide ((i_36 : Int) < 0)) h_35 I3 I6 K)))))))))) (F152_j7 x0a x0n x0c x1 x4 x11 x12 false hp I3 I6 K))
def F152_j4 (x0a : Option Addr) (x0n : Nat) (x0c : Nat) (x1 : Int) (x4 : Value) (x11 : Int) (x12 : Int) (hp : HP) (I3 : (Int × Int) → HP → Prop) (K : Value → HP → Prop) : Prop :=
  (LoopP (σ := Int) (fun I s hp => F152_l6 x0a x0n x0c x1 x4 x11 I3 K I s hp) x12 hp)
theorem F152_r9 (e : Env) (x11 : Int) (hp : HP) (K : Env → PV → HP → Prop) : RW Try.prog 90 [] (opsAt Try.f152 [1, 1, 1, 0, 0, 0, 0, 0, 0, 0, 1, 0]) (List.range 3) (upd e 11 (sI (x11))) V0 hp K =
    (K (upd (upd (upd (upd e 11 (sI (x11))) 48 (sI (x11))) 49 (sI ((IntKind.wrap .i64 (x11 + 1))))) 11 (sI ((IntKind.wrap .i64 (x11 + 1))))) V0 hp) := by kernel_rfl
def F152_j9 (x0a : Option Addr) (x0n : Nat) (x0c : Nat) (x1 : Int) (x4 : Value) (x11 : Int) (x12 : Int) (x47 : Bool) (hp : HP) (I3 : (Int × Int) → HP → Prop) (I8 : (Int) → HP → Prop) (K : Value → HP → Prop) : Prop :=
  (ite2 x47 (I8 (IntKind.wrap .i64 (x11 + 1)) hp) (F152_j4 x0a x0n x0c x1 x4 x11 x12 hp I3 K))
theorem F152_r10 (e : Env) (x0a : Option Addr) (x0n : Nat) (x0c : Nat) (x1 : Int) (x4 : Value) (x11 : Int) (x12 : Int) (hp : HP) (K : Env → PV → HP → Prop) : RW Try.prog 90 [] (opsAt Try.f152 [1, 1, 1, 0, 0, 0, 0, 0, 0, 0, 0, 0]) (List.range 17) (upd (upd (upd (upd (upd e 12 (sI (x12))) 11 (sI (x11))) 4 (sV x4)) 1 (sI (x1))) 0 (sV (Value.slice x0a x0n x0c))) V0 hp K =
    (ite2 (decide ((x11 : Int) ≤ x12)) ((0 ≤ (x1 : Int)) ∧ ((x1 : Int) < (x0n : Nat)) ∧ (ptrN x0a fun b1 o2 => (ldL (HP.cellN hp b1 (o2 + Int.toNat x1 * 2) 2) fun l3 => ((0 ≤ (x11 : Int)) ∧ ((x11 : Int) < (x0n : Nat)) ∧ (ptrN x0a fun b4 o5 => (ldL (HP.cellN hp b4 (o5 + Int.toNat x11 * 2) 2) fun l6 => (fnV x4 fun f7 ga8 gb9 => (CF Try.prog f7 (ga8 ++ [(Value.agg ⟨l3⟩), (Value.agg ⟨l6⟩)] ++ gb9) hp fun u10 h11 => (intV u10 .i64 fun i12 => (K (upd (upd (upd (upd (upd (upd (upd (upd (upd (upd (upd (upd (upd (upd (upd (upd (upd (upd (upd (upd (upd (upd e 12 (sI (x12))) 11 (sI (x11))) 4 (sV x4)) 1 (sI (x1))) 0 (sV (Value.slice x0a x0n x0c))) 31 (sI (x11))) 32 (sI (x12))) 33 (sB ((decide ((x11 : Int) ≤ x12))))) 34 (sB (true))) 35 (sV x4)) 36 (sV (Value.slice x0a x0n x0c))) 37 (sI (x1))) 38 (sV (ptr b1 (o2 + Int.toNat x1 * 2)))) 39 (sV (Value.agg ⟨l3⟩))) 40 (sV (Value.slice x0a x0n x0c))) 41 (sI (x11))) 42 (sV (ptr b4 (o5 + Int.toNat x11 * 2)))) 43 (sV (Value.agg ⟨l6⟩))) 44 (sI (i12))) 45 (sB ((decide ((i12 : Int) < 0))))) 46 (sB ((!(decide ((i12 : Int) < 0)))))) 47 (sB ((!(decide ((i12 : Int) < 0)))))) V0 h11)))))))))) (K (upd (upd (upd (upd (upd (upd (upd (upd (upd (upd (upd (upd (upd (upd (upd (upd (upd (upd (upd (upd (upd (upd e 12 (sI (x12))) 11 (sI (x11))) 4 (sV x4)) 1 (sI (x1))) 0 (sV (Value.slice x0a x0n x0c))) 31 (sI (x11))) 32 (sI (x12))) 33 (sB ((decide ((x11 : Int) ≤ x12))))) 34 (sB (false))) 35 (sV undef)) 36 (sV undef)) 37 (sV undef)) 38 (sV undef)) 39 (sV undef)) 40 (sV undef)) 41 (sV undef)) 42 (sV undef)) 43 (sV undef)) 44 (sV undef)) 45 (sV undef)) 46 (sV undef)) 47 (sB (false))) V0 hp)) := by kernel_rfl
def F152_l8 (x0a : Option Addr) (x0n : Nat) (x0c : Nat) (x1 : Int) (x4 : Value) (x12 : Int) (I3 : (Int × Int) → HP → Prop) (K : Value → HP → Prop) (I8 : (Int) → HP → Prop) (x11 : Int) (hp : HP) : Prop :=
  (ite2 (decide ((x11 : Int) ≤ x12)) ((0 ≤ (x1 : Int)) ∧ ((x1 : Int) < (x0n : Nat)) ∧ (ptrN x0a fun b_37 o_38 => (ldL (HP.cellN hp b_37 (o_38 + Int.toNat x1 * 2) 2) fun l_39 => ((0 ≤ (x11 : Int)) ∧ ((x11 : Int) < (x0n : Nat)) ∧ (ptrN x0a fun b_40 o_41 => (ldL (HP.cellN hp b_40 (o_41 + Int.toNat x11 * 2) 2) fun l_42 => (fnV x4 fun f_43 ga_44 gb_45 => (CF Try.prog f_43 (ga_44 ++ [(Value.agg ⟨l_39⟩), (Value.agg ⟨l_42⟩)] ++ gb_45) hp fun u_46 h_47 => (intV u_46 .i64 fun i_48 => (F152_j9 x0a x0n x0c x1 x4 x11 x12 (!(decide ((i_48 : Int) < 0))) h_47 I3 I8 K)))))))))) (F152_j9 x0a x0n x0c x1 x4 x11 x12 false hp I3 I8 K))
def F152_l3 (x0a : Option Addr) (x0n : Nat) (x0c : Nat) (x1 : Int) (x4 : Value) (K : Value → HP → Prop) (I3 : (Int × Int) → HP → Prop) (x11 : Int) (x12 : Int) (hp : HP) : Prop :=
  (LoopP (σ := Int) (fun I s hp => F152_l8 x0a x0n x0c x1 x4 x12 I3 K I s hp) x11 hp)
def F152_j1 (x0a : Option Addr) (x0n : Nat) (x0c : Nat) (x1 : Int) (x4 : Value) (x11 : Int) (x12 : Int) (hp : HP) (K : Value → HP → Prop) : Prop :=
  (LoopP (σ := Int × Int) (fun I s hp => F152_l3 x0a x0n x0c x1 x4  K I s.1 s.2 hp) (x11, x12) hp)
theorem F152_r11 (e : Env) (x1 : Int) (x2 : Int) (hp : HP) (K : Env → PV → HP → Prop) : RW Try.prog 90 [] (opsAt Try.f152 [1, 1, 0]) (List.range 6) (upd (upd e 2 (sI (x2))) 1 (sI (x1))) V0 hp K =
    (K (upd (upd (upd (upd (upd (upd (upd (upd e 2 (sI (x2))) 1 (sI (x1))) 27 (sI (x1))) 28 (sI ((IntKind.wrap .i64 (x1 + 1))))) 29 (sI (x2))) 30 (sI ((IntKind.wrap .i64 (x2 - 1))))) 11 (sI ((IntKind.wrap .i64 (x1 + 1))))) 12 (sI ((IntKind.wrap .i64 (x2 - 1))))) V0 hp) := by kernel_rfl
def F152 (x0a : Option Addr) (x0n : Nat) (x0c : Nat) (x1 : Int) (x2 : Int) (x3 : Int) (x4 : Value) (hp : HP) (K : Value → HP → Prop) : Prop :=
  ((0 ≤ (x3 : Int)) ∧ ((x3 : Int) < (x0n : Nat)) ∧ (ptrN x0a fun b_1 o_2 => (ldL (HP.cellN hp b_1 (o_2 + Int.toNat x3 * 2) 2) fun l_3 => ((0 ≤ (x1 : Int)) ∧ ((x1 : Int) < (x0n : Nat)) ∧ (ptrN x0a fun b_4 o_5 => (ldL (HP.cellN hp b_4 (o_5 + Int.toNat x1 * 2) 2) fun l_6 => ((0 ≤ (x1 : Int)) ∧ ((x1 : Int) < (x0n : Nat)) ∧ (ptrN x0a fun b_7 o_8 => ((List.length l_3 = 2) ∧ (HP.stN hp b_7 (o_8 + Int.toNat x1 * 2) l_3 fun h_9 => ((0 ≤ (x3 : Int)) ∧ ((x3 : Int) < (x0n : Nat)) ∧ (ptrN x0a fun b_10 o_11 => ((List.length l_6 = 2) ∧ (HP.stN h_9 b_10 (o_11 + Int.toNat x3 * 2) l_6 fun h_12 => (F152_j1 x0a x0n x0c x1 x4 (IntKind.wrap .i64 (x1 + 1)) (IntKind.wrap .i64 (x2 - 1)) h_12  K)))))))))))))))
noncomputable def F152_code : Code := (.seq (.region 0 (opsAt Try.f152 [0]) false) (.seq (.region 1 (opsAt Try.f152 [1, 0]) true) (.seq (.region 2 (opsAt Try.f152 [1, 1, 0]) false) (.seq (.block 0 (.loop (.block 1 (.seq (.block 2 (.loop (.seq (.seq (.region 3 (opsAt Try.f152 [1, 1, 1, 0, 0, 0, 0, 0, 0, 0, 0, 0]) true) (.cond (.tmp 47) .skip (.exit 2))) (.block 3 (.region 4 (opsAt Try.f152 [1, 1, 1, 0, 0, 0, 0, 0, 0, 0, 1, 0]) false))))) (.seq (.block 4 (.loop (.seq (.seq (.region 5 (opsAt Try.f152 [1, 1, 1, 0, 0, 0, 0, 1, 0, 0, 0, 0, 0]) true) (.cond (.tmp 65) .skip (.exit 4))) (.block 5 (.region 6 (opsAt Try.f152 [1, 1, 1, 0, 0, 0, 0, 1, 0, 0, 0, 1, 0]) false))))) (.seq (.seq (.region 7 (opsAt Try.f152 [1, 1, 1, 0, 0, 0, 0, 1, 1, 0, 0]) false) (.cond (.tmp 70) (.exit 0) .skip)) (.seq (.region 8 (opsAt Try.f152 [1, 1, 1, 0, 0, 0, 0, 1, 1, 1, 0]) true) (.seq (.region 9 (opsAt Try.f152 [1, 1, 1, 0, 0, 0, 0, 1, 1, 1, 1, 0]) false) (.region 10 (opsAt Try.f152 [1, 1, 1, 0, 0, 0, 0, 1, 1, 1, 1, 1]) false))))))))) (.seq (.region 11 (opsAt Try.f152 [1, 1, 1, 1, 0]) false) .ret)))))
theorem F152_body : Try.f152.body = some F152_code := by kernel_rfl
theorem F152_ok (x0a : Option Addr) (x0n : Nat) (x0c : Nat) (x1 : Int) (x2 : Int) (x3 : Int) (x4 : Value) (hp : HP) (K : Value → HP → Prop) (h : F152 x0a x0n x0c x1 x2 x3 x4 hp K) : CF Try.prog 152 [(Value.slice x0a x0n x0c), (Value.int .i64 x1), (Value.int .i64 x2), (Value.int .i64 x3), x4] hp K := by
 refine .inl ⟨by kernel_rfl, AC.intro (N := 90) Try.func152 F152_body rfl (Nat.le_of_ble_eq_true rfl) ?_⟩
 unfold F152 at h
 unfold F152_code
 refine AWP.seq' ?_
 refine AWP.rgn (F152_r0 (upd (upd (upd (upd (upd E0 4 (sV x4)) 3 (sI (x3))) 2 (sI (x2))) 1 (sI (x1))) 0 (sV (Value.slice x0a x0n x0c)))  hp _) ?_ (Rv 0 _ (Rv 1 _ (Rv 2 _ (Rv 3 _ (Rv 4 _ (Rn)))))) (Sc rfl (Sc rfl (Sc rfl (Sc rfl (Sc rfl (Sn)))))) (Sn)
 refine AWP.seq' ?_
 refine AWP.rgnD (by kernel_rfl) (by kernel_rfl) (F152_r1 (upd (upd E0 4 (sV x4)) 2 (sI (x2))) x0a x0n x0c x1 x3 hp _) ?_ (Rv 0 _ (Rv 1 _ (Rv 3 _ (Rv 2 _ (Rv 4 _ (Rn)))))) (Sc rfl (Sc rfl (Sc rfl (Sc rfl (Sc rfl (Sn)))))) (Sn)
 refine ⟨h.1, h.2.1, ?_⟩
 replace h := h.2.2
 refine ptrN_mono h (fun b_1 o_2 h => ?_)
 refine ldL_mono h (fun l_3 h => ?_)
 refine ⟨h.1, h.2.1, ?_⟩
 replace h := h.2.2
 refine ptrN_mono h (fun b_4 o_5 h => ?_)
 refine ldL_mono h (fun l_6 h => ?_)
 refine ⟨h.1, h.2.1, ?_⟩
 replace h := h.2.2
 refine ptrN_mono h (fun b_7 o_8 h => ?_)
 refine ⟨h.1, ?_⟩
 replace h := h.2
 refine stN_mono h (fun h_9 h => ?_)
 refine ⟨h.1, h.2.1, ?_⟩
 replace h := h.2.2
 refine ptrN_mono h (fun b_10 o_11 h => ?_)
 refine ⟨h.1, ?_⟩
 replace h := h.2
 refine stN_mono h (fun h_12 h => ?_)
 refine AWP.seq (fun env pv hp => ∃ (x0a : Option Addr) (x0n : Nat) (x0c : Nat) (x1 : Int) (x4 : Value) (x11 : Int) (x12 : Int), Sub (upd (upd (upd (upd (upd E0 12 (sI (x12))) 11 (sI (x11))) 4 (sV x4)) 1 (sI (x1))) 0 (sV (Value.slice x0a x0n x0c))) env ∧ Sub V0 pv ∧ (F152_j1 x0a x0n x0c x1 x4 x11 x12 hp  K)) ?_ ?_
 ·refine AWP.rgn (F152_r11 (upd (upd E0 4 (sV x4)) 0 (sV (Value.slice x0a x0n x0c))) x1 x2 h_12 _) ?_ (Rv 1 _ (Rv 2 _ (Rv 0 _ (Rv 4 _ (Rn))))) (Sc rfl (Sc rfl (Sc rfl (Sc rfl (Sn))))) (Sn)
  exact ⟨x0a, x0n, x0c, x1, x4, (IntKind.wrap .i64 (x1 + 1)), (IntKind.wrap .i64 (x2 - 1)), (Sc rfl (Sc rfl (Sc rfl (Sc rfl (Sc rfl (Sn)))))), (Sn), h⟩
 ·rintro env pv hp ⟨x0a, x0n, x0c, x1, x4, x11, x12, he, hv, h⟩
  refine AWP.sub (env' := (upd (upd (upd (upd (upd E0 12 (sI (x12))) 11 (sI (x11))) 4 (sV x4)) 1 (sI (x1))) 0 (sV (Value.slice x0a x0n x0c)))) (pv' := V0) ?_ (Rv 0 _ (Rv 1 _ (Rv 4 _ (Rv 11 _ (Rv 12 _ (Rn)))))) he hv (HSub.refl _)
  clear he hv
  unfold F152_j1 at h
  refine AWP.seq (fun env pv hp => ∃ (x11 : Int), Sub (upd E0 11 (sI (x11))) env ∧ Sub V0 pv ∧ (F152_j2 x11 hp  K)) ?_ ?_
  ·refine AWP.block ?_
   refine AWP.loop (σ := Int × Int) (fun I s hp => F152_l3 x0a x0n x0c x1 x4  K I s.1 s.2 hp) (fun s => (upd (upd (upd (upd (upd E0 12 (sI (s.2))) 11 (sI (s.1))) 4 (sV x4)) 1 (sI (x1))) 0 (sV (Value.slice x0a x0n x0c)))) (fun s => V0) (x11, x12) h (fun s => (Rv 0 _ (Rv 1 _ (Rv 4 _ (Rv 11 _ (Rv 12 _ (Rn))))))) (Sc rfl (Sc rfl (Sc rfl (Sc rfl (Sc rfl (Sn)))))) (Sn) ?_
   intro I3 s hp h
   obtain ⟨x11, x12⟩ := s
   replace h : F152_l3 x0a x0n x0c x1 x4  K I3 x11 x12 hp := h
   unfold F152_l3 at h
   refine AWP.block ?_
   refine AWP.seq (fun env pv hp => ∃ (x11 : Int) (x12 : Int), Sub (upd (upd (upd (upd (upd E0 12 (sI (x12))) 11 (sI (x11))) 4 (sV x4)) 1 (sI (x1))) 0 (sV (Value.slice x0a x0n x0c))) env ∧ Sub V0 pv ∧ (F152_j4 x0a x0n x0c x1 x4 x11 x12 hp I3 K)) ?_ ?_
   ·refine AWP.block ?_
    refine AWP.loop (σ := Int) (fun I s hp => F152_l8 x0a x0n x0c x1 x4 x12 I3 K I s hp) (fun s => (upd (upd (upd (upd (upd E0 12 (sI (x12))) 11 (sI (s))) 4 (sV x4)) 1 (sI (x1))) 0 (sV (Value.slice x0a x0n x0c)))) (fun s => V0) x11 h (fun s => (Rv 0 _ (Rv 1 _ (Rv 4 _ (Rv 11 _ (Rv 12 _ (Rn))))))) (Sc rfl (Sc rfl (Sc rfl (Sc rfl (Sc rfl (Sn)))))) (Sn) ?_
    intro I8 s hp h
    obtain ⟨x11, hs⟩ : ∃ x, x = s := ⟨s, rfl⟩
    subst hs
    replace h : F152_l8 x0a x0n x0c x1 x4 x12 I3 K I8 x11 hp := h
    unfold F152_l8 at h
    refine AWP.seq' ?_
    refine AWP.seq (fun env pv hp => ∃ (x11 : Int) (x47 : Bool), Sub (upd (upd (upd (upd (upd (upd E0 47 (sB (x47))) 12 (sI (x12))) 11 (sI (x11))) 4 (sV x4)) 1 (sI (x1))) 0 (sV (Value.slice x0a x0n x0c))) env ∧ Sub V0 pv ∧ (F152_j9 x0a x0n x0c x1 x4 x11 x12 x47 hp I3 I8 K)) ?_ ?_
    ·refine AWP.rgnD (by kernel_rfl) (by kernel_rfl) (F152_r10 E0 x0a x0n x0c x1 x4 x11 x12 hp _) ?_ (Rv 0 _ (Rv 1 _ (Rv 4 _ (Rv 11 _ (Rv 12 _ (Rn)))))) (Sc rfl (Sc rfl (Sc rfl (Sc rfl (Sc rfl (Sn)))))) (Sn)
     refine ite2_mono h (fun h => ?_) (fun h => ?_)
     ·refine ⟨h.1, h.2.1, ?_⟩
      replace h := h.2.2
      refine ptrN_mono h (fun b_37 o_38 h => ?_)
      refine ldL_mono h (fun l_39 h => ?_)
      refine ⟨h.1, h.2.1, ?_⟩
      replace h := h.2.2
      refine ptrN_mono h (fun b_40 o_41 h => ?_)
      refine ldL_mono h (fun l_42 h => ?_)
      refine fnV_mono h (fun f_43 ga_44 gb_45 h => ?_)
      refine CF_mono h (fun u_46 h_47 h => ?_)
      refine intV_mono h (fun i_48 h => ?_)
      exact ⟨x11, (!(decide ((i_48 : Int) < 0))), (Sc rfl (Sc rfl (Sc rfl (Sc rfl (Sc rfl (Sc rfl (Sn))))))), (Sn), h⟩
     ·exact ⟨x11, false, (Sc rfl (Sc rfl (Sc rfl (Sc rfl (Sc rfl (Sc rfl (Sn))))))), (Sn), h⟩
    ·rintro env pv hp ⟨x11, x47, he, hv, h⟩
     refine AWP.sub (env' := (upd (upd (upd (upd (upd (upd E0 47 (sB (x47))) 12 (sI (x12))) 11 (sI (x11))) 4 (sV x4)) 1 (sI (x1))) 0 (sV (Value.slice x0a x0n x0c)))) (pv' := V0) ?_ (Rv 0 _ (Rv 1 _ (Rv 4 _ (Rv 11 _ (Rv 12 _ (Rv 47 _ (Rn))))))) he hv (HSub.refl _)
     clear he hv
     unfold F152_j9 at h
     refine AWP.cond (t := x47) rfl (fun e => ?_) (fun e => ?_)
     ·replace h := ite2_t h e
      refine AWP.skip ?_
      refine AWP.block ?_
      refine AWP.rgn (F152_r9 (upd (upd (upd (upd E0 12 (sI (x12))) 4 (sV x4)) 1 (sI (x1))) 0 (sV (Value.slice x0a x0n x0c))) x11 hp _) ?_ (Rv 11 _ (Rv 0 _ (Rv 1 _ (Rv 4 _ (Rv 12 _ (Rn)))))) (Sc rfl (Sc rfl (Sc rfl (Sc rfl (Sc rfl (Sn)))))) (Sn)
      exact ⟨(IntKind.wrap .i64 (x11 + 1)), (Sc rfl (Sc rfl (Sc rfl (Sc rfl (Sc rfl (Sn)))))), (Sn), h⟩
     ·replace h := ite2_f h e
      refine AWP.exit ?_
      exact ⟨x11, x12, (Sc rfl (Sc rfl (Sc rfl (Sc rfl (Sc rfl (Sn)))))), (Sn), h⟩
   ·rintro env pv hp ⟨x11, x12, he, hv, h⟩
    refine AWP.sub (env' := (upd (upd (upd (upd (upd E0 12 (sI (x12))) 11 (sI (x11))) 4 (sV x4)) 1 (sI (x1))) 0 (sV (Value.slice x0a x0n x0c)))) (pv' := V0) ?_ (Rv 0 _ (Rv 1 _ (Rv 4 _ (Rv 11 _ (Rv 12 _ (Rn)))))) he hv (HSub.refl _)
    clear he hv
    unfold F152_j4 at h
    refine AWP.seq (fun env pv hp => ∃ (x11 : Int) (x12 : Int), Sub (upd (upd (upd (upd (upd E0 12 (sI (x12))) 11 (sI (x11))) 4 (sV x4)) 1 (sI (x1))) 0 (sV (Value.slice x0a x0n x0c))) env ∧ Sub V0 pv ∧ (F152_j5 x0a x0n x0c x1 x4 x11 x12 hp I3 K)) ?_ ?_
    ·refine AWP.block ?_
     refine AWP.loop (σ := Int) (fun I s hp => F152_l6 x0a x0n x0c x1 x4 x11 I3 K I s hp) (fun s => (upd (upd (upd (upd (upd E0 12 (sI (s))) 11 (sI (x11))) 4 (sV x4)) 1 (sI (x1))) 0 (sV (Value.slice x0a x0n x0c)))) (fun s => V0) x12 h (fun s => (Rv 0 _ (Rv 1 _ (Rv 4 _ (Rv 11 _ (Rv 12 _ (Rn))))))) (Sc rfl (Sc rfl (Sc rfl (Sc rfl (Sc rfl (Sn)))))) (Sn) ?_
     intro I6 s hp h
     obtain ⟨x12, hs⟩ : ∃ x, x = s := ⟨s, rfl⟩
     subst hs
     replace h : F152_l6 x0a x0n x0c x1 x4 x11 I3 K I6 x12 hp := h
     unfold F152_l6 at h
     refine AWP.seq' ?_
     refine AWP.seq (fun env pv hp => ∃ (x12 : Int) (x65 : Bool), Sub (upd (upd (upd (upd (upd (upd E0 65 (sB (x65))) 12 (sI (x12))) 11 (sI (x11))) 4 (sV x4)) 1 (sI (x1))) 0 (sV (Value.slice x0a x0n x0c))) env ∧ Sub V0 pv ∧ (F152_j7 x0a x0n x0c x1 x4 x11 x12 x65 hp I3 I6 K)) ?_ ?_
     ·refine AWP.rgnD (by kernel_rfl) (by kernel_rfl) (F152_r8 E0 x0a x0n x0c x1 x4 x11 x12 hp _) ?_ (Rv 0 _ (Rv 1 _ (Rv 4 _ (Rv 11 _ (Rv 12 _ (Rn)))))) (Sc rfl (Sc rfl (Sc rfl (Sc rfl (Sc rfl (Sn)))))) (Sn)
      refine ite2_mono h (fun h => ?_) (fun h => ?_)
      ·refine ⟨h.1, h.2.1, ?_⟩
       replace h := h.2.2
       refine ptrN_mono h (fun b_25 o_26 h => ?_)
       refine ldL_mono h (fun l_27 h => ?_)
       refine ⟨h.1, h.2.1, ?_⟩
       replace h := h.2.2
       refine ptrN_mono h (fun b_28 o_29 h => ?_)
       refine ldL_mono h (fun l_30 h => ?_)
       refine fnV_mono h (fun f_31 ga_32 gb_33 h => ?_)
       refine CF_mono h (fun u_34 h_35 h => ?_)
       refine intV_mono h (fun i_36 h => ?_)
       exact ⟨x12, (decide ((i_36 : Int) < 0)), (Sc rfl (Sc rfl (Sc rfl (Sc rfl (Sc rfl (Sc rfl (Sn))))))), (Sn), h⟩
      ·exact ⟨x12, false, (Sc rfl (Sc rfl (Sc rfl (Sc rfl (Sc rfl (Sc rfl (Sn))))))), (Sn), h⟩
     ·rintro env pv hp ⟨x12, x65, he, hv, h⟩
      refine AWP.sub (env' := (upd (upd (upd (upd (upd (upd E0 65 (sB (x65))) 12 (sI (x12))) 11 (sI (x11))) 4 (sV x4)) 1 (sI (x1))) 0 (sV (Value.slice x0a x0n x0c)))) (pv' := V0) ?_ (Rv 0 _ (Rv 1 _ (Rv 4 _ (Rv 11 _ (Rv 12 _ (Rv 65 _ (Rn))))))) he hv (HSub.refl _)
      clear he hv
      unfold F152_j7 at h
      refine AWP.cond (t := x65) rfl (fun e => ?_) (fun e => ?_)
      ·replace h := ite2_t h e
       refine AWP.skip ?_
       refine AWP.block ?_
       refine AWP.rgn (F152_r7 (upd (upd (upd (upd E0 11 (sI (x11))) 4 (sV x4)) 1 (sI (x1))) 0 (sV (Value.slice x0a x0n x0c))) x12 hp _) ?_ (Rv 12 _ (Rv 0 _ (Rv 1 _ (Rv 4 _ (Rv 11 _ (Rn)))))) (Sc rfl (Sc rfl (Sc rfl (Sc rfl (Sc rfl (Sn)))))) (Sn)
       exact ⟨(IntKind.wrap .i64 (x12 - 1)), (Sc rfl (Sc rfl (Sc rfl (Sc rfl (Sc rfl (Sn)))))), (Sn), h⟩
      ·replace h := ite2_f h e
       refine AWP.exit ?_
       exact ⟨x11, x12, (Sc rfl (Sc rfl (Sc rfl (Sc rfl (Sc rfl (Sn)))))), (Sn), h⟩
    ·rintro env pv hp ⟨x11, x12, he, hv, h⟩
     refine AWP.sub (env' := (upd (upd (upd (upd (upd E0 12 (sI (x12))) 11 (sI (x11))) 4 (sV x4)) 1 (sI (x1))) 0 (sV (Value.slice x0a x0n x0c)))) (pv' := V0) ?_ (Rv 0 _ (Rv 1 _ (Rv 4 _ (Rv 11 _ (Rv 12 _ (Rn)))))) he hv (HSub.refl _)
     clear he hv
     unfold F152_j5 at h
     refine AWP.seq' ?_
     refine AWP.seq' ?_
     refine AWP.rgn (F152_r3 (upd (upd (upd E0 4 (sV x4)) 1 (sI (x1))) 0 (sV (Value.slice x0a x0n x0c))) x11 x12 hp _) ?_ (Rv 11 _ (Rv 12 _ (Rv 0 _ (Rv 1 _ (Rv 4 _ (Rn)))))) (Sc rfl (Sc rfl (Sc rfl (Sc rfl (Sc rfl (Sn)))))) (Sn)
     refine AWP.cond (t := (decide ((x11 : Int) > x12))) rfl (fun e => ?_) (fun e => ?_)
     ·replace h := ite2_t h e
      refine AWP.exit ?_
      exact ⟨x11, (Sc rfl (Sn)), (Sn), h⟩
     ·replace h := ite2_f h e
      refine AWP.skip ?_
      refine AWP.seq' ?_
      refine AWP.rgnD (by kernel_rfl) (by kernel_rfl) (F152_r4 (upd (upd E0 4 (sV x4)) 1 (sI (x1))) x0a x0n x0c x11 x12 hp _) ?_ (Rv 0 _ (Rv 11 _ (Rv 12 _ (Rv 1 _ (Rv 4 _ (Rn)))))) (Sc rfl (Sc rfl (Sc rfl (Sc rfl (Sc rfl (Sn)))))) (Sn)
      refine ⟨h.1, h.2.1, ?_⟩
      replace h := h.2.2
      refine ptrN_mono h (fun b_13 o_14 h => ?_)
      refine ldL_mono h (fun l_15 h => ?_)
      refine ⟨h.1, h.2.1, ?_⟩
      replace h := h.2.2
      refine ptrN_mono h (fun b_16 o_17 h => ?_)
      refine ldL_mono h (fun l_18 h => ?_)
      refine ⟨h.1, h.2.1, ?_⟩
      replace h := h.2.2
      refine ptrN_mono h (fun b_19 o_20 h => ?_)
      refine ⟨h.1, ?_⟩
      replace h := h.2
      refine stN_mono h (fun h_21 h => ?_)
      refine ⟨h.1, h.2.1, ?_⟩
      replace h := h.2.2
      refine ptrN_mono h (fun b_22 o_23 h => ?_)
      refine ⟨h.1, ?_⟩
      replace h := h.2
      refine stN_mono h (fun h_24 h => ?_)
      refine AWP.seq' ?_
      refine AWP.rgn (F152_r5 (upd (upd (upd (upd E0 12 (sI (x12))) 4 (sV x4)) 1 (sI (x1))) 0 (sV (Value.slice x0a x0n x0c))) x11 h_24 _) ?_ (Rv 11 _ (Rv 0 _ (Rv 1 _ (Rv 4 _ (Rv 12 _ (Rn)))))) (Sc rfl (Sc rfl (Sc rfl (Sc rfl (Sc rfl (Sn)))))) (Sn)
      refine AWP.rgn (F152_r6 (upd (upd (upd (upd E0 11 (sI ((IntKind.wrap .i64 (x11 + 1))))) 4 (sV x4)) 1 (sI (x1))) 0 (sV (Value.slice x0a x0n x0c))) x12 h_24 _) ?_ (Rv 12 _ (Rv 0 _ (Rv 1 _ (Rv 4 _ (Rv 11 _ (Rn)))))) (Sc rfl (Sc rfl (Sc rfl (Sc rfl (Sc rfl (Sn)))))) (Sn)
      exact ⟨((IntKind.wrap .i64 (x11 + 1)), (IntKind.wrap .i64 (x12 - 1))), (Sc rfl (Sc rfl (Sc rfl (Sc rfl (Sc rfl (Sn)))))), (Sn), h⟩
  ·rintro env pv hp ⟨x11, he, hv, h⟩
   refine AWP.sub (env' := (upd E0 11 (sI (x11)))) (pv' := V0) ?_ (Rv 11 _ (Rn)) he hv (HSub.refl _)
   clear he hv
   unfold F152_j2 at h
   refine AWP.seq' ?_
   refine AWP.rgn (F152_r2 E0 x11 hp _) ?_ (Rv 11 _ (Rn)) (Sc rfl (Sn)) (Sn)
   refine AWP.ret ?_
   exact h
-- 153 slices.partitionCmpFunc[interpreter/expiry.thing]
theorem F153_r0 (e : Env) (hp : HP) (K : Env → PV → HP → Prop) : RW Try.prog 178 [] (opsAt Try.f153 [0]) (List.range 2) e V0 hp K =
    (K (upd (upd e 10 (sI (0))) 11 (sB (false))) V0 hp) := by kernel_rfl
theorem F153_r1 (e : Env) (x0a : Option Addr) (x0n : Nat) (x0c : Nat) (x1 : Int) (x3 : Int) (hp : HP) (K : Env → PV → HP → Prop) : RW Try.prog 178 [] (opsAt Try.f153 [1, 0]) (List.range 16) (upd (upd (upd e 3 (sI (x3))) 1 (sI (x1))) 0 (sV (Value.slice x0a x0n x0c))) V0 hp K =
    ((0 ≤ (x3 : Int)) ∧ ((x3 : Int) < (x0n : Nat)) ∧ (ptrN x0a fun b1 o2 => (ldL (HP.cellN hp b1 (o2 + Int.toNat x3 * 2) 2) fun l3 => ((0 ≤ (x1 : Int)) ∧ ((x1 : Int) < (x0n : Nat)) ∧ (ptrN x0a fun b4 o5 => (ldL (HP.cellN hp b4 (o5 + Int.toNat x1 * 2) 2) fun l6 => ((0 ≤ (x1 : Int)) ∧ ((x1 : Int) < (x0n : Nat)) ∧ (ptrN x0a fun b7 o8 => ((List.length l3 = 2) ∧ (HP.stN hp b7 (o8 + Int.toNat x1 * 2) l3 fun h9 => ((0 ≤ (x3 : Int)) ∧ ((x3 : Int) < (x0n : Nat)) ∧ (ptrN x0a fun b10 o11 => ((List.length l6 = 2) ∧ (HP.stN h9 b10 (o11 + Int.toNat x3 * 2) l6 fun h12 => (K (upd (upd (upd (upd (upd (upd (upd (upd (upd (upd (upd (upd (upd (upd (upd (upd (upd e 3 (sI (x3))) 1 (sI (x1))) 0 (sV (Value.slice x0a x0n x0c))) 14 (sV (Value.slice x0a x0n x0c))) 15 (sI (x1))) 16 (sV (Value.slice x0a x0n x0c))) 17 (sI (x3))) 18 (sV (Value.slice x0a x0n x0c))) 19 (sI (x3))) 20 (sV (ptr b1 (o2 + Int.toNat x3 * 2)))) 21 (sV (Value.agg ⟨l3⟩))) 22 (sV (Value.slice x0a x0n x0c))) 23 (sI (x1))) 24 (sV (ptr b4 (o5 + Int.toNat x1 * 2)))) 25 (sV (Value.agg ⟨l6⟩))) 26 (sV (ptr b7 (o8 + Int.toNat x1 * 2)))) 27 (sV (ptr b10 (o11 + Int.toNat x3 * 2)))) V0 h12))))))))))))))) := by kernel_rfl
theorem F153_r2 (e : Env) (x12 : Int) (x13 : Int) (hp : HP) (K : Env → PV → HP → Prop) : RW Try.prog 178 [] (opsAt Try.f153 [1, 1, 1, 1, 1, 0, 0]) (List.range 3) (upd (upd e 13 (sI (x13))) 12 (sI (x12))) V0 hp K =
    (K (upd (upd (upd (upd (upd e 13 (sI (x13))) 12 (sI (x12))) 69 (sI (x12))) 70 (sI (x13))) 71 (sB ((decide ((x12 : Int) > x13))))) V0 hp) := by kernel_rfl
theorem F153_r3 (e : Env) (x0a : Option Addr) (x0n : Nat) (x0c : Nat) (x1 : Int) (x13 : Int) (hp : HP) (K : Env → PV → HP → Prop) : RW Try.prog 178 [] (opsAt Try.f153 [1, 1, 1, 1, 1, 0, 1, 0, 0]) (List.range 16) (upd (upd (upd e 13 (sI (x13))) 1 (sI (x1))) 0 (sV (Value.slice x0a x0n x0c))) V0 hp K =
    ((0 ≤ (x1 : Int)) ∧ ((x1 : Int) < (x0n : Nat)) ∧ (ptrN x0a fun b1 o2 => (ldL (HP.cellN hp b1 (o2 + Int.toNat x1 * 2) 2) fun l3 => ((0 ≤ (x13 : Int)) ∧ ((x13 : Int) < (x0n : Nat)) ∧ (ptrN x0a fun b4 o5 => (ldL (HP.cellN hp b4 (o5 + Int.toNat x13 * 2) 2) fun l6 => ((0 ≤ (x13 : Int)) ∧ ((x13 : Int) < (x0n : Nat)) ∧ (ptrN x0a fun b7 o8 => ((List.length l3 = 2) ∧ (HP.stN hp b7 (o8 + Int.toNat x13 * 2) l3 fun h9 => ((0 ≤ (x1 : Int)) ∧ ((x1 : Int) < (x0n : Nat)) ∧ (ptrN x0a fun b10 o11 => ((List.length l6 = 2) ∧ (HP.stN h9 b10 (o11 + Int.toNat x1 * 2) l6 fun h12 => (K (upd (upd (upd (upd (upd (upd (upd (upd (upd (upd (upd (upd (upd (upd (upd (upd (upd e 13 (sI (x13))) 1 (sI (x1))) 0 (sV (Value.slice x0a x0n x0c))) 72 (sV (Value.slice x0a x0n x0c))) 73 (sI (x13))) 74 (sV (Value.slice x0a x0n x0c))) 75 (sI (x1))) 76 (sV (Value.slice x0a x0n x0c))) 77 (sI (x1))) 78 (sV (ptr b1 (o2 + Int.toNat x1 * 2)))) 79 (sV (Value.agg ⟨l3⟩))) 80 (sV (Value.slice x0a x0n x0c))) 81 (sI (x13))) 82 (sV (ptr b4 (o5 + Int.toNat x13 * 2)))) 83 (sV (Value.agg ⟨l6⟩))) 84 (sV (ptr b7 (o8 + Int.toNat x13 * 2)))) 85 (sV (ptr b10 (o11 + Int.toNat x1 * 2)))) V0 h12))))))))))))))) := by kernel_rfl
theorem F153_r4 (e : Env) (x13 : Int) (hp : HP) (K : Env → PV → HP → Prop) : RW Try.prog 178 [] (opsAt Try.f153 [1, 1, 1, 1, 1, 0, 1, 0, 1, 0]) (List.range 3) (upd e 13 (sI (x13))) V0 hp K =
    (K (upd (upd (upd (upd e 13 (sI (x13))) 86 (sI (x13))) 10 (sI (x13))) 11 (sB (true))) V0 hp) := by kernel_rfl
theorem F153_r5 (e : Env) (x0a : Option Addr) (x0n : Nat) (x0c : Nat) (x12 : Int) (x13 : Int) (hp : HP) (K : Env → PV → HP → Prop) : RW Try.prog 178 [] (opsAt Try.f153 [1, 1, 1, 1, 1, 1, 0]) (List.range 16) (upd (upd (upd e 13 (sI (x13))) 12 (sI (x12))) 0 (sV (Value.slice x0a x0n x0c))) V0 hp K =
    ((0 ≤ (x13 : Int)) ∧ ((x13 : Int) < (x0n : Nat)) ∧ (ptrN x0a fun b1 o2 => (ldL (HP.cellN hp b1 (o2 + Int.toNat x13 * 2) 2) fun l3 => ((0 ≤ (x12 : Int)) ∧ ((x12 : Int) < (x0n : Nat)) ∧ (ptrN x0a fun b4 o5 => (ldL (HP.cellN hp b4 (o5 + Int.toNat x12 * 2) 2) fun l6 => ((0 ≤ (x12 : Int)) ∧ ((x12 : Int) < (x0n : Nat)) ∧ (ptrN x0a fun b7 o8 => ((List.length l3 = 2) ∧ (HP.stN hp b7 (o8 + Int.toNat x12 * 2) l3 fun h9 => ((0 ≤ (x13 : Int)) ∧ ((x13 : Int) < (x0n : Nat)) ∧ (ptrN x0a fun b10 o11 => ((List.length l6 = 2) ∧ (HP.stN h9 b10 (o11 + Int.toNat x13 * 2) l6 fun h12 => (K (upd (upd (upd (upd (upd (upd (upd (upd (upd (upd (upd (upd (upd (upd (upd (upd (upd e 13 (sI (x13))) 12 (sI (x12))) 0 (sV (Value.slice x0a x0n x0c))) 87 (sV (Value.slice x0a x0n x0c))) 88 (sI (x12))) 89 (sV (Value.slice x0a x0n x0c))) 90 (sI (x13))) 91 (sV (Value.slice x0a x0n x0c))) 92 (sI (x13))) 93 (sV (ptr b1 (o2 + Int.toNat x13 * 2)))) 94 (sV (Value.agg ⟨l3⟩))) 95 (sV (Value.slice x0a x0n x0c))) 96 (sI (x12))) 97 (sV (ptr b4 (o5 + Int.toNat x12 * 2)))) 98 (sV (Value.agg ⟨l6⟩))) 99 (sV (ptr b7 (o8 + Int.toNat x12 * 2)))) 100 (sV (ptr b10 (o11 + Int.toNat x13 * 2)))) V0 h12))))))))))))))) := by kernel_rfl
theorem F153_r6 (e : Env) (x12 : Int) (hp : HP) (K : Env → PV → HP → Prop) : RW Try.prog 178 [] (opsAt Try.f153 [1, 1, 1, 1, 1, 1, 1, 0]) (List.range 3) (upd e 12 (sI (x12))) V0 hp K =
    (K (upd (upd (upd (upd e 12 (sI (x12))) 101 (sI (x12))) 102 (sI ((IntKind.wrap .i64 (x12 + 1))))) 12 (sI ((IntKind.wrap .i64 (x12 + 1))))) V0 hp) := by kernel_rfl
theorem F153_r7 (e : Env) (x0a : Option Addr) (x0n : Nat) (x0c : Nat) (x1 : Int) (x13 : Int) (hp : HP) (K : Env → PV → HP → Prop) : RW Try.prog 178 [] (opsAt Try.f153 [1, 1, 1, 1, 1, 1, 1, 1, 1, 1, 0]) (List.range 16) (upd (upd (upd e 13 (sI (x13))) 1 (sI (x1))) 0 (sV (Value.slice x0a x0n x0c))) V0 hp K =
    ((0 ≤ (x1 : Int)) ∧ ((x1 : Int) < (x0n : Nat)) ∧ (ptrN x0a fun b1 o2 => (ldL (HP.cellN hp b1 (o2 + Int.toNat x1 * 2) 2) fun l3 => ((0 ≤ (x13 : Int)) ∧ ((x13 : Int) < (x0n : Nat)) ∧ (ptrN x0a fun b4 o5 => (ldL (HP.cellN hp b4 (o5 + Int.toNat x13 * 2) 2) fun l6 => ((0 ≤ (x13 : Int)) ∧ ((x13 : Int) < (x0n : Nat)) ∧ (ptrN x0a fun b7 o8 => ((List.length l3 = 2) ∧ (HP.stN hp b7 (o8 + Int.toNat x13 * 2) l3 fun h9 => ((0 ≤ (x1 : Int)) ∧ ((x1 : Int) < (x0n : Nat)) ∧ (ptrN x0a fun b10 o11 => ((List.length l6 = 2) ∧ (HP.stN h9 b10 (o11 + Int.toNat x1 * 2) l6 fun h12 => (K (upd (upd (upd (upd (upd (upd (upd (upd (upd (upd (upd (upd (upd (upd (upd (upd (upd e 13 (sI (x13))) 1 (sI (x1))) 0 (sV (Value.slice x0a x0n x0c))) 163 (sV (Value.slice x0a x0n x0c))) 164 (sI (x13))) 165 (sV (Value.slice x0a x0n x0c))) 166 (sI (x1))) 167 (sV (Value.slice x0a x0n x0c))) 168 (sI (x1))) 169 (sV (ptr b1 (o2 + Int.toNat x1 * 2)))) 170 (sV (Value.agg ⟨l3⟩))) 171 (sV (Value.slice x0a x0n x0c))) 172 (sI (x13))) 173 (sV (ptr b4 (o5 + Int.toNat x13 * 2)))) 174 (sV (Value.agg ⟨l6⟩))) 175 (sV (ptr b7 (o8 + Int.toNat x13 * 2)))) 176 (sV (ptr b10 (o11 + Int.toNat x1 * 2)))) V0 h12))))))))))))))) := by kernel_rfl
theorem F153_r8 (e : Env) (x13 : Int) (hp : HP) (K : Env → PV → HP → Prop) : RW Try.prog 178 [] (opsAt Try.f153 [1, 1, 1, 1, 1, 1, 1, 1, 1, 1, 1, 0]) (List.range 3) (upd e 13 (sI (x13))) V0 hp K =
    (K (upd (upd (upd (upd e 13 (sI (x13))) 177 (sI (x13))) 10 (sI (x13))) 11 (sB (false))) V0 hp) := by kernel_rfl
def F153_j5 (x0a : Option Addr) (x0n : Nat) (x0c : Nat) (x1 : Int) (x13 : Int) (hp : HP) (K : Value → HP → Prop) : Prop :=
  ((0 ≤ (x1 : Int)) ∧ ((x1 : Int) < (x0n : Nat)) ∧ (ptrN x0a fun b_37 o_38 => (ldL (HP.cellN hp b_37 (o_38 + Int.toNat x1 * 2) 2) fun l_39 => ((0 ≤ (x13 : Int)) ∧ ((x13 : Int) < (x0n : Nat)) ∧ (ptrN x0a fun b_40 o_41 => (ldL (HP.cellN hp b_40 (o_41 + Int.toNat x13 * 2) 2) fun l_42 => ((0 ≤ (x13 : Int)) ∧ ((x13 : Int) < (x0n : Nat)) ∧ (ptrN x0a fun b_43 o_44 => ((List.length l_39 = 2) ∧ (HP.stN hp b_43 (o_44 + Int.toNat x13 * 2) l_39 fun h_45 => ((0 ≤ (x1 : Int)) ∧ ((x1 : Int) < (x0n : Nat)) ∧ (ptrN x0a fun b_46 o_47 => ((List.length l_42 = 2) ∧ (HP.stN h_45 b_46 (o_47 + Int.toNat x1 * 2) l_42 fun h_48 => (K (.tuple ⟨[(Value.int .i64 x13), (Value.bool false)]⟩) h_48)))))))))))))))
theorem F153_r9 (e : Env) (x12 : Int) (x13 : Int) (hp : HP) (K : Env → PV → HP → Prop) : RW Try.prog 178 [] (opsAt Try.f153 [1, 1, 1, 1, 1, 1, 1, 1, 1, 0, 0, 0, 0, 1, 1, 0, 0]) (List.range 3) (upd (upd e 13 (sI (x13))) 12 (sI (x12))) V0 hp K =
    (K (upd (upd (upd (upd (upd e 13 (sI (x13))) 12 (sI (x12))) 142 (sI (x12))) 143 (sI (x13))) 144 (sB ((decide ((x12 : Int) > x13))))) V0 hp) := by kernel_rfl
theorem F153_r10 (e : Env) (x0a : Option Addr) (x0n : Nat) (x0c : Nat) (x12 : Int) (x13 : Int) (hp : HP) (K : Env → PV → HP → Prop) : RW Try.prog 178 [] (opsAt Try.f153 [1, 1, 1, 1, 1, 1, 1, 1, 1, 0, 0, 0, 0, 1, 1, 1, 0]) (List.range 16) (upd (upd (upd e 13 (sI (x13))) 12 (sI (x12))) 0 (sV (Value.slice x0a x0n x0c))) V0 hp K =
    ((0 ≤ (x13 : Int)) ∧ ((x13 : Int) < (x0n : Nat)) ∧ (ptrN x0a fun b1 o2 => (ldL (HP.cellN hp b1 (o2 + Int.toNat x13 * 2) 2) fun l3 => ((0 ≤ (x12 : Int)) ∧ ((x12 : Int) < (x0n : Nat)) ∧ (ptrN x0a fun b4 o5 => (ldL (HP.cellN hp b4 (o5 + Int.toNat x12 * 2) 2) fun l6 => ((0 ≤ (x12 : Int)) ∧ ((x12 : Int) < (x0n : Nat)) ∧ (ptrN x0a fun b7 o8 => ((List.length l3 = 2) ∧ (HP.stN hp b7 (o8 + Int.toNat x12 * 2) l3 fun h9 => ((0 ≤ (x13 : Int)) ∧ ((x13 : Int) < (x0n : Nat)) ∧ (ptrN x0a fun b10 o11 => ((List.length l6 = 2) ∧ (HP.stN h9 b10 (o11 + Int.toNat x13 * 2) l6 fun h12 => (K (upd (upd (upd (upd (upd (upd (upd (upd (upd (upd (upd (upd (upd (upd (upd (upd (upd e 13 (sI (x13))) 12 (sI (x12))) 0 (sV (Value.slice x0a x0n x0c))) 145 (sV (Value.slice x0a x0n x0c))) 146 (sI (x12))) 147 (sV (Value.slice x0a x0n x0c))) 148 (sI (x13))) 149 (sV (Value.slice x0a x0n x0c))) 150 (sI (x13))) 151 (sV (ptr b1 (o2 + Int.toNat x13 * 2)))) 152 (sV (Value.agg ⟨l3⟩))) 153 (sV (Value.slice x0a x0n x0c))) 154 (sI (x12))) 155 (sV (ptr b4 (o5 + Int.toNat x12 * 2)))) 156 (sV (Value.agg ⟨l6⟩))) 157 (sV (ptr b7 (o8 + Int.toNat x12 * 2)))) 158 (sV (ptr b10 (o11 + Int.toNat x13 * 2)))) V0 h12))))))))))))))) := by kernel_rfl
theorem F153_r11 (e : Env) (x12 : Int) (hp : HP) (K : Env → PV → HP → Prop) : RW Try.prog 178 [] (opsAt Try.f153 [1, 1, 1, 1, 1, 1, 1, 1, 1, 0, 0, 0, 0, 1, 1, 1, 1, 0]) (List.range 3) (upd e 12 (sI (x12))) V0 hp K =
    (K (upd (upd (upd (upd e 12 (sI (x12))) 159 (sI (x12))) 160 (sI ((IntKind.wrap .i64 (x12 + 1))))) 12 (sI ((IntKind.wrap .i64 (x12 + 1))))) V0 hp) := by kernel_rfl
theorem F153_r12 (e : Env) (x13 : Int) (hp : HP) (K : Env → PV → HP → Prop) : RW Try.prog 178 [] (opsAt Try.f153 [1, 1, 1, 1, 1, 1, 1, 1, 1, 0, 0, 0, 0, 1, 1, 1, 1, 1]) (List.range 3) (upd e 13 (sI (x13))) V0 hp K =
    (K (upd (upd (upd (upd e 13 (sI (x13))) 161 (sI (x13))) 162 (sI ((IntKind.wrap .i64 (x13 - 1))))) 13 (sI ((IntKind.wrap .i64 (x13 - 1))))) V0 hp) := by kernel_rfl
def F153_j8 (x0a : Option Addr) (x0n : Nat) (x0c : Nat) (x1 : Int) (x4 : Value) (x12 : Int) (x13 : Int) (hp : HP) (I6 : (Int × Int) → HP → Prop) (K : Value → HP → Prop) : Prop :=
  (ite2 (decide ((x12 : Int) > x13)) (F153_j5 x0a x0n x0c x1 x13 hp  K) ((0 ≤ (x13 : Int)) ∧ ((x13 : Int) < (x0n : Nat)) ∧ (ptrN x0a fun b_49 o_50 => (ldL (HP.cellN hp b_49 (o_50 + Int.toNat x13 * 2) 2) fun l_51 => ((0 ≤ (x12 : Int)) ∧ ((x12 : Int) < (x0n : Nat)) ∧ (ptrN x0a fun b_52 o_53 => (ldL (HP.cellN hp b_52 (o_53 + Int.toNat x12 * 2) 2) fun l_54 => ((0 ≤ (x12 : Int)) ∧ ((x12 : Int) < (x0n : Nat)) ∧ (ptrN x0a fun b_55 o_56 => ((List.length l_51 = 2) ∧ (HP.stN hp b_55 (o_56 + Int.toNat x12 * 2) l_51 fun h_57 => ((0 ≤ (x13 : Int)) ∧ ((x13 : Int) < (x0n : Nat)) ∧ (ptrN x0a fun b_58 o_59 => ((List.length l_54 = 2) ∧ (HP.stN h_57 b_58 (o_59 + Int.toNat x13 * 2) l_54 fun h_60 => (I6 ((IntKind.wrap .i64 (x12 + 1)), (IntKind.wrap .i64 (x13 - 1))) h_60))))))))))))))))
theorem F153_r13 (e : Env) (x13 : Int) (hp : HP) (K : Env → PV → HP → Prop) : RW Try.prog 178 [] (opsAt Try.f153 [1, 1, 1, 1, 1, 1, 1, 1, 1, 0, 0, 0, 0, 1, 0, 0, 0, 1, 0]) (List.range 3) (upd e 13 (sI (x13))) V0 hp K =
    (K (upd (upd (upd (upd e 13 (sI (x13))) 140 (sI (x13))) 141 (sI ((IntKind.wrap .i64 (x13 - 1))))) 13 (sI ((IntKind.wrap .i64 (x13 - 1))))) V0 hp) := by kernel_rfl
def F153_j10 (x0a : Option Addr) (x0n : Nat) (x0c : Nat) (x1 : Int) (x4 : Value) (x12 : Int) (x13 : Int) (x139 : Bool) (hp : HP) (I6 : (Int × Int) → HP → Prop) (I9 : (Int) → HP → Prop) (K : Value → HP → Prop) : Prop :=
  (ite2 x139 (I9 (IntKind.wrap .i64 (x13 - 1)) hp) (F153_j8 x0a x0n x0c x1 x4 x12 x13 hp I6 K))
theorem F153_r14 (e : Env) (x0a : Option Addr) (x0n : Nat) (x0c : Nat) (x1 : Int) (x4 : Value) (x12 : Int) (x13 : Int) (hp : HP) (K : Env → PV → HP → Prop) : RW Try.prog 178 [] (opsAt Try.f153 [1, 1, 1, 1, 1, 1, 1, 1, 1, 0, 0, 0, 0, 1, 0, 0, 0, 0, 0]) (List.range 17) (upd (upd (upd (upd (upd e 13 (sI (x13))) 12 (sI (x12))) 4 (sV x4)) 1 (sI (x1))) 0 (sV (Value.slice x0a x0n x0c))) V0 hp K =
    (ite2 (decide ((x12 : Int) ≤ x13)) ((0 ≤ (x13 : Int)) ∧ ((x13 : Int) < (x0n : Nat)) ∧ (ptrN x0a fun b1 o2 => (ldL (HP.cellN hp b1 (o2 + Int.toNat x13 * 2) 2) fun l3 => ((0 ≤ (x1 : Int)) ∧ ((x1 : Int) < (x0n : Nat)) ∧ (ptrN x0a fun b4 o5 => (ldL (HP.cellN hp b4 (o5 + Int.toNat x1 * 2) 2) fun l6 => (fnV x4 fun f7 ga8 gb9 => (CF Try.prog f7 (ga8 ++ [(Value.agg ⟨l3⟩), (Value.agg ⟨l6⟩)] ++ gb9) hp fun u10 h11 => (intV u10 .i64 fun i12 => (K (upd (upd (upd (upd (upd (upd (upd (upd (upd (upd (upd (upd (upd (upd (upd (upd (upd (upd (upd (upd (upd (upd e 13 (sI (x13))) 12 (sI (x12))) 4 (sV x4)) 1 (sI (x1))) 0 (sV (Value.slice x0a x0n x0c))) 123 (sI (x12))) 124 (sI (x13))) 125 (sB ((decide ((x12 : Int) ≤ x13))))) 126 (sB (true))) 127 (sV x4)) 128 (sV (Value.slice x0a x0n x0c))) 129 (sI (x13))) 130 (sV (ptr b1 (o2 + Int.toNat x13 * 2)))) 131 (sV (Value.agg ⟨l3⟩))) 132 (sV (Value.slice x0a x0n x0c))) 133 (sI (x1))) 134 (sV (ptr b4 (o5 + Int.toNat x1 * 2)))) 135 (sV (Value.agg ⟨l6⟩))) 136 (sI (i12))) 137 (sB ((decide ((i12 : Int) < 0))))) 138 (sB ((!(decide ((i12 : Int) < 0)))))) 139 (sB ((!(decide ((i12 : Int) < 0)))))) V0 h11)))))))))) (K (upd (upd (upd (upd (upd (upd (upd (upd (upd (upd (upd (upd (upd (upd (upd (upd (upd (upd (upd (upd (upd (upd e 13 (sI (x13))) 12 (sI (x12))) 4 (sV x4)) 1 (sI (x1))) 0 (sV (Value.slice x0a x0n x0c))) 123 (sI (x12))) 124 (sI (x13))) 125 (sB ((decide ((x12 : Int) ≤ x13))))) 126 (sB (false))) 127 (sV undef)) 128 (sV undef)) 129 (sV undef)) 130 (sV undef)) 131 (sV undef)) 132 (sV undef)) 133 (sV undef)) 134 (sV undef)) 135 (sV undef)) 136 (sV undef)) 137 (sV undef)) 138 (sV undef)) 139 (sB (false))) V0 hp)) := by kernel_rfl
def F153_l9 (x0a : Option Addr) (x0n : Nat) (x0c : Nat) (x1 : Int) (x4 : Value) (x12 : Int) (I6 : (Int × Int) → HP → Prop) (K : Value → HP → Prop) (I9 : (Int) → HP → Prop) (x13 : Int) (hp : HP) : Prop :=
  (ite2 (decide ((x12 : Int) ≤ x13)) ((0 ≤ (x13 : Int)) ∧ ((x13 : Int) < (x0n : Nat)) ∧ (ptrN x0a fun b_61 o_62 => (ldL (HP.cellN hp b_61 (o_62 + Int.toNat x13 * 2) 2) fun l_63 => ((0 ≤ (x1 : Int)) ∧ ((x1 : Int) < (x0n : Nat)) ∧ (ptrN x0a fun b_64 o_65 => (ldL (HP.cellN hp b_64 (o_65 + Int.toNat x1 * 2) 2) fun l_66 => (fnV x4 fun f_67 ga_68 gb_69 => (CF Try.prog f_67 (ga_68 ++ [(Value.agg ⟨l_63⟩), (Value.agg ⟨l_66⟩)] ++ gb_69) hp fun u_70 h_71 => (intV u_70 .i64 fun i_72 => (F153_j10 x0a x0n x0c x1 x4 x12 x13 (!(decide ((i_72 : Int) < 0))) h_71 I6 I9 K)))))))))) (F153_j10 x0a x0n x0c x1 x4 x12 x13 false hp I6 I9 K))
def F153_j7 (x0a : Option Addr) (x0n : Nat) (x0c : Nat) (x1 : Int) (x4 : Value) (x12 : Int) (x13 : Int) (hp : HP) (I6 : (Int × Int) → HP → Prop) (K : Value → HP → Prop) : Prop :=
  (LoopP (σ := Int) (fun I s hp => F153_l9 x0a x0n x0c x1 x4 x12 I6 K I s hp) x13 hp)
theorem F153_r15 (e : Env) (x12 : Int) (hp : HP) (K : Env → PV → HP → Prop) : RW Try.prog 178 [] (opsAt Try.f153 [1, 1, 1, 1, 1, 1, 1, 1, 1, 0, 0, 0, 0, 0, 0, 0, 1, 0]) (List.range 3) (upd e 12 (sI (x12))) V0 hp K =
    (K (upd (upd (upd (upd e 12 (sI (x12))) 121 (sI (x12))) 122 (sI ((IntKind.wrap .i64 (x12 + 1))))) 12 (sI ((IntKind.wrap .i64 (x12 + 1))))) V0 hp) := by kernel_rfl
def F153_j12 (x0a : Option Addr) (x0n : Nat) (x0c : Nat) (x1 : Int) (x4 : Value) (x12 : Int) (x13 : Int) (x120 : Bool) (hp : HP) (I6 : (Int × Int) → HP → Prop) (I11 : (Int) → HP → Prop) (K : Value → HP → Prop) : Prop :=
  (ite2 x120 (I11 (IntKind.wrap .i64 (x12 + 1)) hp) (F153_j7 x0a x0n x0c x1 x4 x12 x13 hp I6 K))
theorem F153_r16 (e : Env) (x0a : Option Addr) (x0n : Nat) (x0c : Nat) (x1 : Int) (x4 : Value) (x12 : Int) (x13 : Int) (hp : HP) (K : Env → PV → HP → Prop) : RW Try.prog 178 [] (opsAt Try.f153 [1, 1, 1, 1, 1, 1, 1, 1, 1, 0, 0, 0, 0, 0, 0, 0, 0, 0]) (List.range 16) (upd (upd (upd (upd (upd e 13 (sI (x13))) 12 (sI (x12))) 4 (sV x4)) 1 (sI (x1))) 0 (sV (Value.slice x0a x0n x0c))) V0 hp K =
    (ite2 (decide ((x12 : Int) ≤ x13)) ((0 ≤ (x12 : Int)) ∧ ((x12 : Int) < (x0n : Nat)) ∧ (ptrN x0a fun b1 o2 => (ldL (HP.cellN hp b1 (o2 + Int.toNat x12 * 2) 2) fun l3 => ((0 ≤ (x1 : Int)) ∧ ((x1 : Int) < (x0n : Nat)) ∧ (ptrN x0a fun b4 o5 => (ldL (HP.cellN hp b4 (o5 + Int.toNat x1 * 2) 2) fun l6 => (fnV x4 fun f7 ga8 gb9 => (CF Try.prog f7 (ga8 ++ [(Value.agg ⟨l3⟩), (Value.agg ⟨l6⟩)] ++ gb9) hp fun u10 h11 => (intV u10 .i64 fun i12 => (K (upd (upd (upd (upd (upd (upd (upd (upd (upd (upd (upd (upd (upd (upd (upd (upd (upd (upd (upd (upd (upd e 13 (sI (x13))) 12 (sI (x12))) 4 (sV x4)) 1 (sI (x1))) 0 (sV (Value.slice x0a x0n x0c))) 105 (sI (x12))) 106 (sI (x13))) 107 (sB ((decide ((x12 : Int) ≤ x13))))) 108 (sB (true))) 109 (sV x4)) 110 (sV (Value.slice x0a x0n x0c))) 111 (sI (x12))) 112 (sV (ptr b1 (o2 + Int.toNat x12 * 2)))) 113 (sV (Value.agg ⟨l3⟩))) 114 (sV (Value.slice x0a x0n x0c))) 115 (sI (x1))) 116 (sV (ptr b4 (o5 + Int.toNat x1 * 2)))) 117 (sV (Value.agg ⟨l6⟩))) 118 (sI (i12))) 119 (sB ((decide ((i12 : Int) < 0))))) 120 (sB ((decide ((i12 : Int) < 0))))) V0 h11)))))))))) (K (upd (upd (upd (upd (upd (upd (upd (upd (upd (upd (upd (upd (upd (upd (upd (upd (upd (upd (upd (upd (upd e 13 (sI (x13))) 12 (sI (x12))) 4 (sV x4)) 1 (sI (x1))) 0 (sV (Value.slice x0a x0n x0c))) 105 (sI (x12))) 106 (sI (x13))) 107 (sB ((decide ((x12 : Int) ≤ x13))))) 108 (sB (false))) 109 (sV undef)) 110 (sV undef)) 111 (sV undef)) 112 (sV undef)) 113 (sV undef)) 114 (sV undef)) 115 (sV undef)) 116 (sV undef)) 117 (sV undef)) 118 (sV undef)) 119 (sV undef)) 120 (sB (false))) V0 hp)) := by kernel_rfl
def F153_l11 (x0a : Option Addr) (x0n : Nat) (x0c : Nat) (x1 : Int) (x4 : Value) (x13 : Int) (I6 : (Int × Int) → HP → Prop) (K : Value → HP → Prop) (I11 : (Int) → HP → Prop) (x12 : Int) (hp : HP) : Prop :=
  (ite2 (decide ((x12 : Int) ≤ x13)) ((0 ≤ (x12 : Int)) ∧ ((x12 : Int) < (x0n : Nat)) ∧ (ptrN x0a fun b_73 o_74 => (ldL (HP.cellN hp b_73 (o_74 + Int.toNat x12 * 2) 2) fun l_75 => ((0 ≤ (x1 : Int)) ∧ ((x1 : Int) < (x0n : Nat)) ∧ (ptrN x0a fun b_76 o_77 => (ldL (HP.cellN hp b_76 (o_77 + Int.toNat x1 * 2) 2) fun l_78 => (fnV x4 fun f_79 ga_80 gb_81 => (CF Try.prog f_79 (ga_80 ++ [(Value.agg ⟨l_75⟩), (Value.agg ⟨l_78⟩)] ++ gb_81) hp fun u_82 h_83 => (intV u_82 .i64 fun i_84 => (F153_j12 x0a x0n x0c x1 x4 x12 x13 (decide ((i_84 : Int) < 0)) h_83 I6 I11 K)))))))))) (F153_j12 x0a x0n x0c x1 x4 x12 x13 false hp I6 I11 K))
def F153_l6 (x0a : Option Addr) (x0n : Nat) (x0c : Nat) (x1 : Int) (x4 : Value) (K : Value → HP → Prop) (I6 : (Int × Int) → HP → Prop) (x12 : Int) (x13 : Int) (hp : HP) : Prop :=
  (LoopP (σ := Int) (fun I s hp => F153_l11 x0a x0n x0c x1 x4 x13 I6 K I s hp) x12 hp)
def F153_j4 (x0a : Option Addr) (x0n : Nat) (x0c : Nat) (x1 : Int) (x4 : Value) (x12 : Int) (x13 : Int) (hp : HP) (K : Value → HP → Prop) : Prop :=
  (LoopP (σ := Int × Int) (fun I s hp => F153_l6 x0a x0n x0c x1 x4  K I s.1 s.2 hp) (x12, x13) hp)
theorem F153_r17 (e : Env) (x13 : Int) (hp : HP) (K : Env → PV → HP → Prop) : RW Try.prog 178 [] (opsAt Try.f153 [1, 1, 1, 1, 1, 1, 1, 1, 0]) (List.range 3) (upd e 13 (sI (x13))) V0 hp K =
    (K (upd (upd (upd (upd e 13 (sI (x13))) 103 (sI (x13))) 104 (sI ((IntKind.wrap .i64 (x13 - 1))))) 13 (sI ((IntKind.wrap .i64 (x13 - 1))))) V0 hp) := by kernel_rfl
def F153_j3 (x0a : Option Addr) (x0n : Nat) (x0c : Nat) (x1 : Int) (x4 : Value) (x12 : Int) (x13 : Int) (hp : HP) (K : Value → HP → Prop) : Prop :=
  (ite2 (decide ((x12 : Int) > x13)) ((0 ≤ (x1 : Int)) ∧ ((x1 : Int) < (x0n : Nat)) ∧ (ptrN x0a fun b_13 o_14 => (ldL (HP.cellN hp b_13 (o_14 + Int.toNat x1 * 2) 2) fun l_15 => ((0 ≤ (x13 : Int)) ∧ ((x13 : Int) < (x0n : Nat)) ∧ (ptrN x0a fun b_16 o_17 => (ldL (HP.cellN hp b_16 (o_17 + Int.toNat x13 * 2) 2) fun l_18 => ((0 ≤ (x13 : Int)) ∧ ((x13 : Int) < (x0n : Nat)) ∧ (ptrN x0a fun b_19 o_20 => ((List.length l_15 = 2) ∧ (HP.stN hp b_19 (o_20 + Int.toNat x13 * 2) l_15 fun h_21 => ((0 ≤ (x1 : Int)) ∧ ((x1 : Int) < (x0n : Nat)) ∧ (ptrN x0a fun b_22 o_23 => ((List.length l_18 = 2) ∧ (HP.stN h_21 b_22 (o_23 + Int.toNat x1 * 2) l_18 fun h_24 => (K (.tuple ⟨[(Value.int .i64 x13), (Value.bool true)]⟩) h_24))))))))))))))) ((0 ≤ (x13 : Int)) ∧ ((x13 : Int) < (x0n : Nat)) ∧ (ptrN x0a fun b_25 o_26 => (ldL (HP.cellN hp b_25 (o_26 + Int.toNat x13 * 2) 2) fun l_27 => ((0 ≤ (x12 : Int)) ∧ ((x12 : Int) < (x0n : Nat)) ∧ (ptrN x0a fun b_28 o_29 => (ldL (HP.cellN hp b_28 (o_29 + Int.toNat x12 * 2) 2) fun l_30 => ((0 ≤ (x12 : Int)) ∧ ((x12 : Int) < (x0n : Nat)) ∧ (ptrN x0a fun b_31 o_32 => ((List.length l_27 = 2) ∧ (HP.stN hp b_31 (o_32 + Int.toNat x12 * 2) l_27 fun h_33 => ((0 ≤ (x13 : Int)) ∧ ((x13 : Int) < (x0n : Nat)) ∧ (ptrN x0a fun b_34 o_35 => ((List.length l_30 = 2) ∧ (HP.stN h_33 b_34 (o_35 + Int.toNat x13 * 2) l_30 fun h_36 => (F153_j4 x0a x0n x0c x1 x4 (IntKind.wrap .i64 (x12 + 1)) (IntKind.wrap .i64 (x13 - 1)) h_36  K))))))))))))))))
theorem F153_r18 (e : Env) (x13 : Int) (hp : HP) (K : Env → PV → HP → Prop) : RW Try.prog 178 [] (opsAt Try.f153 [1, 1, 1, 1, 0, 0, 0, 1, 0]) (List.range 3) (upd e 13 (sI (x13))) V0 hp K =
    (K (upd (upd (upd (upd e 13 (sI (x13))) 67 (sI (x13))) 68 (sI ((IntKind.wrap .i64 (x13 - 1))))) 13 (sI ((IntKind.wrap .i64 (x13 - 1))))) V0 hp) := by kernel_rfl
def F153_j14 (x0a : Option Addr) (x0n : Nat) (x0c : Nat) (x1 : Int) (x4 : Value) (x12 : Int) (x13 : Int) (x66 : Bool) (hp : HP) (I13 : (Int) → HP → Prop) (K : Value → HP → Prop) : Prop :=
  (ite2 x66 (I13 (IntKind.wrap .i64 (x13 - 1)) hp) (F153_j3 x0a x0n x0c x1 x4 x12 x13 hp  K))
theorem F153_r19 (e : Env) (x0a : Option Addr) (x0n : Nat) (x0c : Nat) (x1 : Int) (x4 : Value) (x12 : Int) (x13 : Int) (hp : HP) (K : Env → PV → HP → Prop) : RW Try.prog 178 [] (opsAt Try.f153 [1, 1, 1, 1, 0, 0, 0, 0, 0]) (List.range 17) (upd (upd (upd (upd (upd e 13 (sI (x13))) 12 (sI (x12))) 4 (sV x4)) 1 (sI (x1))) 0 (sV (Value.slice x0a x0n x0c))) V0 hp K =
    (ite2 (decide ((x12 : Int) ≤ x13)) ((0 ≤ (x13 : Int)) ∧ ((x13 : Int) < (x0n : Nat)) ∧ (ptrN x0a fun b1 o2 => (ldL (HP.cellN hp b1 (o2 + Int.toNat x13 * 2) 2) fun l3 => ((0 ≤ (x1 : Int)) ∧ ((x1 : Int) < (x0n : Nat)) ∧ (ptrN x0a fun b4 o5 => (ldL (HP.cellN hp b4 (o5 + Int.toNat x1 * 2) 2) fun l6 => (fnV x4 fun f7 ga8 gb9 => (CF Try.prog f7 (ga8 ++ [(Value.agg ⟨l3⟩), (Value.agg ⟨l6⟩)] ++ gb9) hp fun u10 h11 => (intV u10 .i64 fun i12 => (K (upd (upd (upd (upd (upd (upd (upd (upd (upd (upd (upd (upd (upd (upd (upd (upd (upd (upd (upd (upd (upd (upd e 13 (sI (x13))) 12 (sI (x12))) 4 (sV x4)) 1 (sI (x1))) 0 (sV (Value.slice x0a x0n x0c))) 50 (sI (x12))) 51 (sI (x13))) 52 (sB ((decide ((x12 : Int) ≤ x13))))) 53 (sB (true))) 54 (sV x4)) 55 (sV (Value.slice x0a x0n x0c))) 56 (sI (x13))) 57 (sV (ptr b1 (o2 + Int.toNat x13 * 2)))) 58 (sV (Value.agg ⟨l3⟩))) 59 (sV (Value.slice x0a x0n x0c))) 60 (sI (x1))) 61 (sV (ptr b4 (o5 + Int.toNat x1 * 2)))) 62 (sV (Value.agg ⟨l6⟩))) 63 (sI (i12))) 64 (sB ((decide ((i12 : Int) < 0))))) 65 (sB ((!(decide ((i12 : Int) < 0)))))) 66 (sB ((!(decide ((i12 : Int) < 0)))))) V0 h11)))))))))) (K (upd (upd (upd (upd (upd (upd (upd (upd (upd (upd (upd (upd (upd (upd (upd (upd (upd (upd (upd (upd (upd (upd e 13 (sI (x13))) 12 (sI (x12))) 4 (sV x4)) 1 (sI (x1))) 0 (sV (Value.slice x0a x0n x0c))) 50 (sI (x12))) 51 (sI (x13))) 52 (sB ((decide ((x12 : Int) ≤ x13))))) 53 (sB (false))) 54 (sV undef)) 55 (sV undef)) 56 (sV undef)) 57 (sV undef)) 58 (sV undef)) 59 (sV undef)) 60 (sV undef)) 61 (sV undef)) 62 (sV undef)) 63 (sV undef)) 64 (sV undef)) 65 (sV undef)) 66 (sB (false))) V0 hp)) := by kernel_rfl
def F153_l13 (x0a : Option Addr) (x0n : Nat) (x0c : Nat) (x1 : Int) (x4 : Value) (x12 : Int) (K : Value → HP → Prop) (I13 : (Int) → HP → Prop) (x13 : Int) (hp : HP) : Prop :=
  (ite2 (decide ((x12 : Int) ≤ x13)) ((0 ≤ (x13 : Int)) ∧ ((x13 : Int) < (x0n : Nat)) ∧ (ptrN x0a fun b_85 o_86 => (ldL (HP.cellN hp b_85 (o_86 + Int.toNat x13 * 2) 2) fun l_87 => ((0 ≤ (x1 : Int)) ∧ ((x1 : Int) < (x0n : Nat)) ∧ (ptrN x0a fun b_88 o_89 => (ldL (HP.cellN hp b_88 (o_89 + Int.toNat x1 * 2) 2) fun l_90 => (fnV x4 fun f_91 ga_92 gb_93 => (CF Try.prog f_91 (ga_92 ++ [(Value.agg ⟨l_87⟩), (Value.agg ⟨l_90⟩)] ++ gb_93) hp fun u_94 h_95 => (intV u_94 .i64 fun i_96 => (F153_j14 x0a x0n x0c x1 x4 x12 x13 (!(decide ((i_96 : Int) < 0))) h_95 I13 K)))))))))) (F153_j14 x0a x0n x0c x1 x4 x12 x13 false hp I13 K))
def F153_j2 (x0a : Option Addr) (x0n : Nat) (x0c : Nat) (x1 : Int) (x4 : Value) (x12 : Int) (x13 : Int) (hp : HP) (K : Value → HP → Prop) : Prop :=
  (LoopP (σ := Int) (fun I s hp => F153_l13 x0a x0n x0c x1 x4 x12  K I s hp) x13 hp)
theorem F153_r20 (e : Env) (x12 : Int) (hp : HP) (K : Env → PV → HP → Prop) : RW Try.prog 178 [] (opsAt Try.f153 [1, 1, 1, 0, 0, 0, 1, 0]) (List.range 3) (upd e 12 (sI (x12))) V0 hp K =
    (K (upd (upd (upd (upd e 12 (sI (x12))) 48 (sI (x12))) 49 (sI ((IntKind.wrap .i64 (x12 + 1))))) 12 (sI ((IntKind.wrap .i64 (x12 + 1))))) V0 hp) := by kernel_rfl
def F153_j16 (x0a : Option Addr) (x0n : Nat) (x0c : Nat) (x1 : Int) (x4 : Value) (x12 : Int) (x13 : Int) (x47 : Bool) (hp : HP) (I15 : (Int) → HP → Prop) (K : Value → HP → Prop) : Prop :=
  (ite2 x47 (I15 (IntKind.wrap .i64 (x12 + 1)) hp) (F153_j2 x0a x0n x0c x1 x4 x12 x13 hp  K))
theorem F153_r21 (e : Env) (x0a : Option Addr) (x0n : Nat) (x0c : Nat) (x1 : Int) (x4 : Value) (x12 : Int) (x13 : Int) (hp : HP) (K : Env → PV → HP → Prop) : RW Try.prog 178 [] (opsAt Try.f153 [1, 1, 1, 0, 0, 0, 0, 0]) (List.range 16) (upd (upd (upd (upd (upd e 13 (sI (x13))) 12 (sI (x12))) 4 (sV x4)) 1 (sI (x1))) 0 (sV (Value.slice x0a x0n x0c))) V0 hp K =
    (ite2 (decide ((x12 : Int) ≤ x13)) ((0 ≤ (x12 : Int)) ∧ ((x12 : Int) < (x0n : Nat)) ∧ (ptrN x0a fun b1 o2 => (ldL (HP.cellN hp b1 (o2 + Int.toNat x12 * 2) 2) fun l3 => ((0 ≤ (x1 : Int)) ∧ ((x1 : Int) < (x0n : Nat)) ∧ (ptrN x0a fun b4 o5 => (ldL (HP.cellN hp b4 (o5 + Int.toNat x1 * 2) 2) fun l6 => (fnV x4 fun f7 ga8 gb9 => (CF Try.prog f7 (ga8 ++ [(Value.agg ⟨l3⟩), (Value.agg ⟨l6⟩)] ++ gb9) hp fun u10 h11 => (intV u10 .i64 fun i12 => (K (upd (upd (upd (upd (upd (upd (upd (upd (upd (upd (upd (upd (upd (upd (upd (upd (upd (upd (upd (upd (upd e 13 (sI (x13))) 12 (sI (x12))) 4 (sV x4)) 1 (sI (x1))) 0 (sV (Value.slice x0a x0n x0c))) 32 (sI (x12))) 33 (sI (x13))) 34 (sB ((decide ((x12 : Int) ≤ x13))))) 35 (sB (true))) 36 (sV x4)) 37 (sV (Value.slice x0a x0n x0c))) 38 (sI (x12))) 39 (sV (ptr b1 (o2 + Int.toNat x12 * 2)))) 40 (sV (Value.agg ⟨l3⟩))) 41 (sV (Value.slice x0a x0n x0c))) 42 (sI (x1))) 43 (sV (ptr b4 (o5 + Int.toNat x1 * 2)))) 44 (sV (Value.agg ⟨l6⟩))) 45 (sI (i12))) 46 (sB ((decide ((i12 : Int) < 0))))) 47 (sB ((decide ((i12 : Int) < 0))))) V0 h11)))))))))) (K (upd (upd (upd (upd (upd (upd (upd (upd (upd (upd (upd (upd (upd (upd (upd (upd (upd (upd (upd (upd (upd e 13 (sI (x13))) 12 (sI (x12))) 4 (sV x4)) 1 (sI (x1))) 0 (sV (Value.slice x0a x0n x0c))) 32 (sI (x12))) 33 (sI (x13))) 34 (sB ((decide ((x12 : Int) ≤ x13))))) 35 (sB (false))) 36 (sV undef)) 37 (sV undef)) 38 (sV undef)) 39 (sV undef)) 40 (sV undef)) 41 (sV undef)) 42 (sV undef)) 43 (sV undef)) 44 (sV undef)) 45 (sV undef)) 46 (sV undef)) 47 (sB (false))) V0 hp)) := by kernel_rfl
def F153_l15 (x0a : Option Addr) (x0n : Nat) (x0c : Nat) (x1 : Int) (x4 : Value) (x13 : Int) (K : Value → HP → Prop) (I15 : (Int) → HP → Prop) (x12 : Int) (hp : HP) : Prop :=
  (ite2 (decide ((x12 : Int) ≤ x13)) ((0 ≤ (x12 : Int)) ∧ ((x12 : Int) < (x0n : Nat)) ∧ (ptrN x0a fun b_97 o_98 => (ldL (HP.cellN hp b_97 (o_98 + Int.toNat x12 * 2) 2) fun l_99 => ((0 ≤ (x1 : Int)) ∧ ((x1 : Int) < (x0n : Nat)) ∧ (ptrN x0a fun b_100 o_101 => (ldL (HP.cellN hp b_100 (o_101 + Int.toNat x1 * 2) 2) fun l_102 => (fnV x4 fun f_103 ga_104 gb_105 => (CF Try.prog f_103 (ga_104 ++ [(Value.agg ⟨l_99⟩), (Value.agg ⟨l_102⟩)] ++ gb_105) hp fun u_106 h_107 => (intV u_106 .i64 fun i_108 => (F153_j16 x0a x0n x0c x1 x4 x12 x13 (decide ((i_108 : Int) < 0)) h_107 I15 K)))))))))) (F153_j16 x0a x0n x0c x1 x4 x12 x13 false hp I15 K))
def F153_j1 (x0a : Option Addr) (x0n : Nat) (x0c : Nat) (x1 : Int) (x4 : Value) (x12 : Int) (x13 : Int) (hp : HP) (K : Value → HP → Prop) : Prop :=
  (LoopP (σ := Int) (fun I s hp => F153_l15 x0a x0n x0c x1 x4 x13  K I s hp) x12 hp)
theorem F153_r22 (e : Env) (x1 : Int) (x2 : Int) (hp : HP) (K : Env → PV → HP → Prop) : RW Try.prog 178 [] (opsAt Try.f153 [1, 1, 0]) (List.range 6) (upd (upd e 2 (sI (x2))) 1 (sI (x1))) V0 hp K =
    (K (upd (upd (upd (upd (upd (upd (upd (upd e 2 (sI (x2))) 1 (sI (x1))) 28 (sI (x1))) 29 (sI ((IntKind.wrap .i64 (x1 + 1))))) 30 (sI (x2))) 31 (sI ((IntKind.wrap .i64 (x2 - 1))))) 12 (sI ((IntKind.wrap .i64 (x1 + 1))))) 13 (sI ((IntKind.wrap .i64 (x2 - 1))))) V0 hp) := by kernel_rfl
def F153 (x0a : Option Addr) (x0n : Nat) (x0c : Nat) (x1 : Int) (x2 : Int) (x3 : Int) (x4 : Value) (hp : HP) (K : Value → HP → Prop) : Prop :=
  ((0 ≤ (x3 : Int)) ∧ ((x3 : Int) < (x0n : Nat)) ∧ (ptrN x0a fun b_1 o_2 => (ldL (HP.cellN hp b_1 (o_2 + Int.toNat x3 * 2) 2) fun l_3 => ((0 ≤ (x1 : Int)) ∧ ((x1 : Int) < (x0n : Nat)) ∧ (ptrN x0a fun b_4 o_5 => (ldL (HP.cellN hp b_4 (o_5 + Int.toNat x1 * 2) 2) fun l_6 => ((0 ≤ (x1 : Int)) ∧ ((x1 : Int) < (x0n : Nat)) ∧ (ptrN x0a fun b_7 o_8 => ((List.length l_3 = 2) ∧ (HP.stN hp b_7 (o_8 + Int.toNat x1 * 2) l_3 fun h_9 => ((0 ≤ (x3 : Int)) ∧ ((x3 : Int) < (x0n : Nat)) ∧ (ptrN x0a fun b_10 o_11 => ((List.length l_6 = 2) ∧ (HP.stN h_9 b_10 (o_11 + Int.toNat x3 * 2) l_6 fun h_12 => (F153_j1 x0a x0n x0c x1 x4 (IntKind.wrap .i64 (x1 + 1)) (IntKind.wrap .i64 (x2 - 1)) h_12  K)))))))))))))))
noncomputable def F153_code : Code := (.seq (.region 0 (opsAt Try.f153 [0]) false) (.seq (.region 1 (opsAt Try.f153 [1, 0]) true) (.seq (.region 2 (opsAt Try.f153 [1, 1, 0]) false) (.seq (.block 0 (.loop (.seq (.seq (.region 3 (opsAt Try.f153 [1, 1, 1, 0, 0, 0, 0, 0]) true) (.cond (.tmp 47) .skip (.exit 0))) (.block 1 (.region 4 (opsAt Try.f153 [1, 1, 1, 0, 0, 0, 1, 0]) false))))) (.seq (.block 2 (.loop (.seq (.seq (.region 5 (opsAt Try.f153 [1, 1, 1, 1, 0, 0, 0, 0, 0]) true) (.cond (.tmp 66) .skip (.exit 2))) (.block 3 (.region 6 (opsAt Try.f153 [1, 1, 1, 1, 0, 0, 0, 1, 0]) false))))) (.seq (.seq (.region 7 (opsAt Try.f153 [1, 1, 1, 1, 1, 0, 0]) false) (.cond (.tmp 71) (.seq (.region 8 (opsAt Try.f153 [1, 1, 1, 1, 1, 0, 1, 0, 0]) true) (.seq (.region 9 (opsAt Try.f153 [1, 1, 1, 1, 1, 0, 1, 0, 1, 0]) false) .ret)) .skip)) (.seq (.region 10 (opsAt Try.f153 [1, 1, 1, 1, 1, 1, 0]) true) (.seq (.region 11 (opsAt Try.f153 [1, 1, 1, 1, 1, 1, 1, 0]) false) (.seq (.region 12 (opsAt Try.f153 [1, 1, 1, 1, 1, 1, 1, 1, 0]) false) (.seq (.block 4 (.loop (.block 5 (.seq (.block 6 (.loop (.seq (.seq (.region 13 (opsAt Try.f153 [1, 1, 1, 1, 1, 1, 1, 1, 1, 0, 0, 0, 0, 0, 0, 0, 0, 0]) true) (.cond (.tmp 120) .skip (.exit 6))) (.block 7 (.region 14 (opsAt Try.f153 [1, 1, 1, 1, 1, 1, 1, 1, 1, 0, 0, 0, 0, 0, 0, 0, 1, 0]) false))))) (.seq (.block 8 (.loop (.seq (.seq (.region 15 (opsAt Try.f153 [1, 1, 1, 1, 1, 1, 1, 1, 1, 0, 0, 0, 0, 1, 0, 0, 0, 0, 0]) true) (.cond (.tmp 139) .skip (.exit 8))) (.block 9 (.region 16 (opsAt Try.f153 [1, 1, 1, 1, 1, 1, 1, 1, 1, 0, 0, 0, 0, 1, 0, 0, 0, 1, 0]) false))))) (.seq (.seq (.region 17 (opsAt Try.f153 [1, 1, 1, 1, 1, 1, 1, 1, 1, 0, 0, 0, 0, 1, 1, 0, 0]) false) (.cond (.tmp 144) (.exit 4) .skip)) (.seq (.region 18 (opsAt Try.f153 [1, 1, 1, 1, 1, 1, 1, 1, 1, 0, 0, 0, 0, 1, 1, 1, 0]) true) (.seq (.region 19 (opsAt Try.f153 [1, 1, 1, 1, 1, 1, 1, 1, 1, 0, 0, 0, 0, 1, 1, 1, 1, 0]) false) (.region 20 (opsAt Try.f153 [1, 1, 1, 1, 1, 1, 1, 1, 1, 0, 0, 0, 0, 1, 1, 1, 1, 1]) false))))))))) (.seq (.region 21 (opsAt Try.f153 [1, 1, 1, 1, 1, 1, 1, 1, 1, 1, 0]) true) (.seq (.region 22 (opsAt Try.f153 [1, 1, 1, 1, 1, 1, 1, 1, 1, 1, 1, 0]) false) .ret))))))))))))
theorem F153_body : Try.f153.body = some F153_code := by kernel_rfl
theorem F153_ok (x0a : Option Addr) (x0n : Nat) (x0c : Nat) (x1 : Int) (x2 : Int) (x3 : Int) (x4 : Value) (hp : HP) (K : Value → HP → Prop) (h : F153 x0a x0n x0c x1 x2 x3 x4 hp K) : CF Try.prog 153 [(Value.slice x0a x0n x0c), (Value.int .i64 x1), (Value.int .i64 x2), (Value.int .i64 x3), x4] hp K := by
 refine .inl ⟨by kernel_rfl, AC.intro (N := 178) Try.func153 F153_body rfl (Nat.le_of_ble_eq_true rfl) ?_⟩
 unfold F153 at h
 unfold F153_code
 refine AWP.seq' ?_
 refine AWP.rgn (F153_r0 (upd (upd (upd (upd (upd E0 4 (sV x4)) 3 (sI (x3))) 2 (sI (x2))) 1 (sI (x1))) 0 (sV (Value.slice x0a x0n x0c)))  hp _) ?_ (Rv 0 _ (Rv 1 _ (Rv 2 _ (Rv 3 _ (Rv 4 _ (Rn)))))) (Sc rfl (Sc rfl (Sc rfl (Sc rfl (Sc rfl (Sn)))))) (Sn)
 refine AWP.seq' ?_
 refine AWP.rgnD (by kernel_rfl) (by kernel_rfl) (F153_r1 (upd (upd E0 4 (sV x4)) 2 (sI (x2))) x0a x0n x0c x1 x3 hp _) ?_ (Rv 0 _ (Rv 1 _ (Rv 3 _ (Rv 2 _ (Rv 4 _ (Rn)))))) (Sc rfl (Sc rfl (Sc rfl (Sc rfl (Sc rfl (Sn)))))) (Sn)
 refine ⟨h.1, h.2.1, ?_⟩
 replace h := h.2.2
 refine ptrN_mono h (fun b_1 o_2 h => ?_)
 refine ldL_mono h (fun l_3 h => ?_)
 refine ⟨h.1, h.2.1, ?_⟩
 replace h := h.2.2
 refine ptrN_mono h (fun b_4 o_5 h => ?_)
 refine ldL_mono h (fun l_6 h => ?_)
 refine ⟨h.1, h.2.1, ?_⟩
 replace h := h.2.2
 refine ptrN_mono h (fun b_7 o_8 h => ?_)
 refine ⟨h.1, ?_⟩
 replace h := h.2
 refine stN_mono h (fun h_9 h => ?_)
 refine ⟨h.1, h.2.1, ?_⟩
 replace h := h.2.2
 refine ptrN_mono h (fun b_10 o_11 h => ?_)
 refine ⟨h.1, ?_⟩
 replace h := h.2
 refine stN_mono h (fun h_12 h => ?_)
 refine AWP.seq (fun env pv hp => ∃ (x0a : Option Addr) (x0n : Nat) (x0c : Nat) (x1 : Int) (x4 : Value) (x12 : Int) (x13 : Int), Sub (upd (upd (upd (upd (upd E0 13 (sI (x13))) 12 (sI (x12))) 4 (sV x4)) 1 (sI (x1))) 0 (sV (Value.slice x0a x0n x0c))) env ∧ Sub V0 pv ∧ (F153_j1 x0a x0n x0c x1 x4 x12 x13 hp  K)) ?_ ?_
 ·refine AWP.rgn (F153_r22 (upd (upd E0 4 (sV x4)) 0 (sV (Value.slice x0a x0n x0c))) x1 x2 h_12 _) ?_ (Rv 1 _ (Rv 2 _ (Rv 0 _ (Rv 4 _ (Rn))))) (Sc rfl (Sc rfl (Sc rfl (Sc rfl (Sn))))) (Sn)
  exact ⟨x0a, x0n, x0c, x1, x4, (IntKind.wrap .i64 (x1 + 1)), (IntKind.wrap .i64 (x2 - 1)), (Sc rfl (Sc rfl (Sc rfl (Sc rfl (Sc rfl (Sn)))))), (Sn), h⟩
 ·rintro env pv hp ⟨x0a, x0n, x0c, x1, x4, x12, x13, he, hv, h⟩
  refine AWP.sub (env' := (upd (upd (upd (upd (upd E0 13 (sI (x13))) 12 (sI (x12))) 4 (sV x4)) 1 (sI (x1))) 0 (sV (Value.slice x0a x0n x0c)))) (pv' := V0) ?_ (Rv 0 _ (Rv 1 _ (Rv 4 _ (Rv 12 _ (Rv 13 _ (Rn)))))) he hv (HSub.refl _)
  clear he hv
  unfold F153_j1 at h
  refine AWP.seq (fun env pv hp => ∃ (x0a : Option Addr) (x0n : Nat) (x0c : Nat) (x1 : Int) (x4 : Value) (x12 : Int) (x13 : Int), Sub (upd (upd (upd (upd (upd E0 13 (sI (x13))) 12 (sI (x12))) 4 (sV x4)) 1 (sI (x1))) 0 (sV (Value.slice x0a x0n x0c))) env ∧ Sub V0 pv ∧ (F153_j2 x0a x0n x0c x1 x4 x12 x13 hp  K)) ?_ ?_
  ·refine AWP.block ?_
   refine AWP.loop (σ := Int) (fun I s hp => F153_l15 x0a x0n x0c x1 x4 x13  K I s hp) (fun s => (upd (upd (upd (upd (upd E0 13 (sI (x13))) 12 (sI (s))) 4 (sV x4)) 1 (sI (x1))) 0 (sV (Value.slice x0a x0n x0c)))) (fun s => V0) x12 h (fun s => (Rv 0 _ (Rv 1 _ (Rv 4 _ (Rv 12 _ (Rv 13 _ (Rn))))))) (Sc rfl (Sc rfl (Sc rfl (Sc rfl (Sc rfl (Sn)))))) (Sn) ?_
   intro I15 s hp h
   obtain ⟨x12, hs⟩ : ∃ x, x = s := ⟨s, rfl⟩
   subst hs
   replace h : F153_l15 x0a x0n x0c x1 x4 x13  K I15 x12 hp := h
   unfold F153_l15 at h
   refine AWP.seq' ?_
   refine AWP.seq (fun env pv hp => ∃ (x12 : Int) (x47 : Bool), Sub (upd (upd (upd (upd (upd (upd E0 47 (sB (x47))) 13 (sI (x13))) 12 (sI (x12))) 4 (sV x4)) 1 (sI (x1))) 0 (sV (Value.slice x0a x0n x0c))) env ∧ Sub V0 pv ∧ (F153_j16 x0a x0n x0c x1 x4 x12 x13 x47 hp I15 K)) ?_ ?_
   ·refine AWP.rgnD (by kernel_rfl) (by kernel_rfl) (F153_r21 E0 x0a x0n x0c x1 x4 x12 x13 hp _) ?_ (Rv 0 _ (Rv 1 _ (Rv 4 _ (Rv 12 _ (Rv 13 _ (Rn)))))) (Sc rfl (Sc rfl (Sc rfl (Sc rfl (Sc rfl (Sn)))))) (Sn)
    refine ite2_mono h (fun h => ?_) (fun h => ?_)
    ·refine ⟨h.1, h.2.1, ?_⟩
     replace h := h.2.2
     refine ptrN_mono h (fun b_97 o_98 h => ?_)
     refine ldL_mono h (fun l_99 h => ?_)
     refine ⟨h.1, h.2.1, ?_⟩
     replace h := h.2.2
     refine ptrN_mono h (fun b_100 o_101 h => ?_)
     refine ldL_mono h (fun l_102 h => ?_)
     refine fnV_mono h (fun f_103 ga_104 gb_105 h => ?_)
     refine CF_mono h (fun u_106 h_107 h => ?_)
     refine intV_mono h (fun i_108 h => ?_)
     exact ⟨x12, (decide ((i_108 : Int) < 0)), (Sc rfl (Sc rfl (Sc rfl (Sc rfl (Sc rfl (Sc rfl (Sn))))))), (Sn), h⟩
    ·exact ⟨x12, false, (Sc rfl (Sc rfl (Sc rfl (Sc rfl (Sc rfl (Sc rfl (Sn))))))), (Sn), h⟩
   ·rintro env pv hp ⟨x12, x47, he, hv, h⟩
    refine AWP.sub (env' := (upd (upd (upd (upd (upd (upd E0 47 (sB (x47))) 13 (sI (x13))) 12 (sI (x12))) 4 (sV x4)) 1 (sI (x1))) 0 (sV (Value.slice x0a x0n x0c)))) (pv' := V0) ?_ (Rv 0 _ (Rv 1 _ (Rv 4 _ (Rv 12 _ (Rv 13 _ (Rv 47 _ (Rn))))))) he hv (HSub.refl _)
    clear he hv
    unfold F153_j16 at h
    refine AWP.cond (t := x47) rfl (fun e => ?_) (fun e => ?_)
    ·replace h := ite2_t h e
     refine AWP.skip ?_
     refine AWP.block ?_
     refine AWP.rgn (F153_r20 (upd (upd (upd (upd E0 13 (sI (x13))) 4 (sV x4)) 1 (sI (x1))) 0 (sV (Value.slice x0a x0n x0c))) x12 hp _) ?_ (Rv 12 _ (Rv 0 _ (Rv 1 _ (Rv 4 _ (Rv 13 _ (Rn)))))) (Sc rfl (Sc rfl (Sc rfl (Sc rfl (Sc rfl (Sn)))))) (Sn)
     exact ⟨(IntKind.wrap .i64 (x12 + 1)), (Sc rfl (Sc rfl (Sc rfl (Sc rfl (Sc rfl (Sn)))))), (Sn), h⟩
    ·replace h := ite2_f h e
     refine AWP.exit ?_
     exact ⟨x0a, x0n, x0c, x1, x4, x12, x13, (Sc rfl (Sc rfl (Sc rfl (Sc rfl (Sc rfl (Sn)))))), (Sn), h⟩
  ·rintro env pv hp ⟨x0a, x0n, x0c, x1, x4, x12, x13, he, hv, h⟩
   refine AWP.sub (env' := (upd (upd (upd (upd (upd E0 13 (sI (x13))) 12 (sI (x12))) 4 (sV x4)) 1 (sI (x1))) 0 (sV (Value.slice x0a x0n x0c)))) (pv' := V0) ?_ (Rv 0 _ (Rv 1 _ (Rv 4 _ (Rv 12 _ (Rv 13 _ (Rn)))))) he hv (HSub.refl _)
   clear he hv
   unfold F153_j2 at h
   refine AWP.seq (fun env pv hp => ∃ (x0a : Option Addr) (x0n : Nat) (x0c : Nat) (x1 : Int) (x4 : Value) (x12 : Int) (x13 : Int), Sub (upd (upd (upd (upd (upd E0 13 (sI (x13))) 12 (sI (x12))) 4 (sV x4)) 1 (sI (x1))) 0 (sV (Value.slice x0a x0n x0c))) env ∧ Sub V0 pv ∧ (F153_j3 x0a x0n x0c x1 x4 x12 x13 hp  K)) ?_ ?_
   ·refine AWP.block ?_
    refine AWP.loop (σ := Int) (fun I s hp => F153_l13 x0a x0n x0c x1 x4 x12  K I s hp) (fun s => (upd (upd (upd (upd (upd E0 13 (sI (s))) 12 (sI (x12))) 4 (sV x4)) 1 (sI (x1))) 0 (sV (Value.slice x0a x0n x0c)))) (fun s => V0) x13 h (fun s => (Rv 0 _ (Rv 1 _ (Rv 4 _ (Rv 12 _ (Rv 13 _ (Rn))))))) (Sc rfl (Sc rfl (Sc rfl (Sc rfl (Sc rfl (Sn)))))) (Sn) ?_
    intro I13 s hp h
    obtain ⟨x13, hs⟩ : ∃ x, x = s := ⟨s, rfl⟩
    subst hs
    replace h : F153_l13 x0a x0n x0c x1 x4 x12  K I13 x13 hp := h
    unfold F153_l13 at h
    refine AWP.seq' ?_
    refine AWP.seq (fun env pv hp => ∃ (x13 : Int) (x66 : Bool), Sub (upd (upd (upd (upd (upd (upd E0 66 (sB (x66))) 13 (sI (x13))) 12 (sI (x12))) 4 (sV x4)) 1 (sI (x1))) 0 (sV (Value.slice x0a x0n x0c))) env ∧ Sub V0 pv ∧ (F153_j14 x0a x0n x0c x1 x4 x12 x13 x66 hp I13 K)) ?_ ?_
    ·refine AWP.rgnD (by kernel_rfl) (by kernel_rfl) (F153_r19 E0 x0a x0n x0c x1 x4 x12 x13 hp _) ?_ (Rv 0 _ (Rv 1 _ (Rv 4 _ (Rv 12 _ (Rv 13 _ (Rn)))))) (Sc rfl (Sc rfl (Sc rfl (Sc rfl (Sc rfl (Sn)))))) (Sn)
     refine ite2_mono h (fun h => ?_) (fun h => ?_)
     ·refine ⟨h.1, h.2.1, ?_⟩
      replace h := h.2.2
      refine ptrN_mono h (fun b_85 o_86 h => ?_)
      refine ldL_mono h (fun l_87 h => ?_)
      refine ⟨h.1, h.2.1, ?_⟩
      replace h := h.2.2
      refine ptrN_mono h (fun b_88 o_89 h => ?_)
      refine ldL_mono h (fun l_90 h => ?_)
      refine fnV_mono h (fun f_91 ga_92 gb_93 h => ?_)
      refine CF_mono h (fun u_94 h_95 h => ?_)
      refine intV_mono h (fun i_96 h => ?_)
      exact ⟨x13, (!(decide ((i_96 : Int) < 0))), (Sc rfl (Sc rfl (Sc rfl (Sc rfl (Sc rfl (Sc rfl (Sn))))))), (Sn), h⟩
     ·exact ⟨x13, false, (Sc rfl (Sc rfl (Sc rfl (Sc rfl (Sc rfl (Sc rfl (Sn))))))), (Sn), h⟩
    ·rintro env pv hp ⟨x13, x66, he, hv, h⟩
     refine AWP.sub (env' := (upd (upd (upd (upd (upd (upd E0 66 (sB (x66))) 13 (sI (x13))) 12 (sI (x12))) 4 (sV x4)) 1 (sI (x1))) 0 (sV (Value.slice x0a x0n x0c)))) (pv' := V0) ?_ (Rv 0 _ (Rv 1 _ (Rv 4 _ (Rv 12 _ (Rv 13 _ (Rv 66 _ (Rn))))))) he hv (HSub.refl _)
     clear he hv
     unfold F153_j14 at h
     refine AWP.cond (t := x66) rfl (fun e => ?_) (fun e => ?_)
     ·replace h := ite2_t h e
      refine AWP.skip ?_
      refine AWP.block ?_
      refine AWP.rgn (F153_r18 (upd (upd (upd (upd E0 12 (sI (x12))) 4 (sV x4)) 1 (sI (x1))) 0 (sV (Value.slice x0a x0n x0c))) x13 hp _) ?_ (Rv 13 _ (Rv 0 _ (Rv 1 _ (Rv 4 _ (Rv 12 _ (Rn)))))) (Sc rfl (Sc rfl (Sc rfl (Sc rfl (Sc rfl (Sn)))))) (Sn)
      exact ⟨(IntKind.wrap .i64 (x13 - 1)), (Sc rfl (Sc rfl (Sc rfl (Sc rfl (Sc rfl (Sn)))))), (Sn), h⟩
     ·replace h := ite2_f h e
      refine AWP.exit ?_
      exact ⟨x0a, x0n, x0c, x1, x4, x12, x13, (Sc rfl (Sc rfl (Sc rfl (Sc rfl (Sc rfl (Sn)))))), (Sn), h⟩
   ·rintro env pv hp ⟨x0a, x0n, x0c, x1, x4, x12, x13, he, hv, h⟩
    refine AWP.sub (env' := (upd (upd (upd (upd (upd E0 13 (sI (x13))) 12 (sI (x12))) 4 (sV x4)) 1 (sI (x1))) 0 (sV (Value.slice x0a x0n x0c)))) (pv' := V0) ?_ (Rv 0 _ (Rv 1 _ (Rv 4 _ (Rv 12 _ (Rv 13 _ (Rn)))))) he hv (HSub.refl _)
    clear he hv
    unfold F153_j3 at h
    refine AWP.seq' ?_
    refine AWP.seq' ?_
    refine AWP.rgn (F153_r2 (upd (upd (upd E0 4 (sV x4)) 1 (sI (x1))) 0 (sV (Value.slice x0a x0n x0c))) x12 x13 hp _) ?_ (Rv 12 _ (Rv 13 _ (Rv 0 _ (Rv 1 _ (Rv 4 _ (Rn)))))) (Sc rfl (Sc rfl (Sc rfl (Sc rfl (Sc rfl (Sn)))))) (Sn)
    refine AWP.cond (t := (decide ((x12 : Int) > x13))) rfl (fun e => ?_) (fun e => ?_)
    ·replace h := ite2_t h e
     refine AWP.seq' ?_
     refine AWP.rgnD (by kernel_rfl) (by kernel_rfl) (F153_r3 E0 x0a x0n x0c x1 x13 hp _) ?_ (Rv 0 _ (Rv 1 _ (Rv 13 _ (Rn)))) (Sc rfl (Sc rfl (Sc rfl (Sn)))) (Sn)
     refine ⟨h.1, h.2.1, ?_⟩
     replace h := h.2.2
     refine ptrN_mono h (fun b_13 o_14 h => ?_)
     refine ldL_mono h (fun l_15 h => ?_)
     refine ⟨h.1, h.2.1, ?_⟩
     replace h := h.2.2
     refine ptrN_mono h (fun b_16 o_17 h => ?_)
     refine ldL_mono h (fun l_18 h => ?_)
     refine ⟨h.1, h.2.1, ?_⟩
     replace h := h.2.2
     refine ptrN_mono h (fun b_19 o_20 h => ?_)
     refine ⟨h.1, ?_⟩
     replace h := h.2
     refine stN_mono h (fun h_21 h => ?_)
     refine ⟨h.1, h.2.1, ?_⟩
     replace h := h.2.2
     refine ptrN_mono h (fun b_22 o_23 h => ?_)
     refine ⟨h.1, ?_⟩
     replace h := h.2
     refine stN_mono h (fun h_24 h => ?_)
     refine AWP.seq' ?_
     refine AWP.rgn (F153_r4 E0 x13 h_24 _) ?_ (Rv 13 _ (Rn)) (Sc rfl (Sn)) (Sn)
     refine AWP.ret ?_
     exact h
    ·replace h := ite2_f h e
     refine AWP.skip ?_
     refine AWP.seq' ?_
     refine AWP.rgnD (by kernel_rfl) (by kernel_rfl) (F153_r5 (upd (upd E0 4 (sV x4)) 1 (sI (x1))) x0a x0n x0c x12 x13 hp _) ?_ (Rv 0 _ (Rv 12 _ (Rv 13 _ (Rv 1 _ (Rv 4 _ (Rn)))))) (Sc rfl (Sc rfl (Sc rfl (Sc rfl (Sc rfl (Sn)))))) (Sn)
     refine ⟨h.1, h.2.1, ?_⟩
     replace h := h.2.2
     refine ptrN_mono h (fun b_25 o_26 h => ?_)
     refine ldL_mono h (fun l_27 h => ?_)
     refine ⟨h.1, h.2.1, ?_⟩
     replace h := h.2.2
     refine ptrN_mono h (fun b_28 o_29 h => ?_)
     refine ldL_mono h (fun l_30 h => ?_)
     refine ⟨h.1, h.2.1, ?_⟩
     replace h := h.2.2
     refine ptrN_mono h (fun b_31 o_32 h => ?_)
     refine ⟨h.1, ?_⟩
     replace h := h.2
     refine stN_mono h (fun h_33 h => ?_)
     refine ⟨h.1, h.2.1, ?_⟩
     replace h := h.2.2
     refine ptrN_mono h (fun b_34 o_35 h => ?_)
     refine ⟨h.1, ?_⟩
     replace h := h.2
     refine stN_mono h (fun h_36 h => ?_)
     refine AWP.seq' ?_
     refine AWP.rgn (F153_r6 (upd (upd (upd (upd E0 13 (sI (x13))) 4 (sV x4)) 1 (sI (x1))) 0 (sV (Value.slice x0a x0n x0c))) x12 h_36 _) ?_ (Rv 12 _ (Rv 0 _ (Rv 1 _ (Rv 4 _ (Rv 13 _ (Rn)))))) (Sc rfl (Sc rfl (Sc rfl (Sc rfl (Sc rfl (Sn)))))) (Sn)
     refine AWP.seq (fun env pv hp => ∃ (x0a : Option Addr) (x0n : Nat) (x0c : Nat) (x1 : Int) (x4 : Value) (x12 : Int) (x13 : Int), Sub (upd (upd (upd (upd (upd E0 13 (sI (x13))) 12 (sI (x12))) 4 (sV x4)) 1 (sI (x1))) 0 (sV (Value.slice x0a x0n x0c))) env ∧ Sub V0 pv ∧ (F153_j4 x0a x0n x0c x1 x4 x12 x13 hp  K)) ?_ ?_
     ·refine AWP.rgn (F153_r17 (upd (upd (upd (upd E0 12 (sI ((IntKind.wrap .i64 (x12 + 1))))) 4 (sV x4)) 1 (sI (x1))) 0 (sV (Value.slice x0a x0n x0c))) x13 h_36 _) ?_ (Rv 13 _ (Rv 0 _ (Rv 1 _ (Rv 4 _ (Rv 12 _ (Rn)))))) (Sc rfl (Sc rfl (Sc rfl (Sc rfl (Sc rfl (Sn)))))) (Sn)
      exact ⟨x0a, x0n, x0c, x1, x4, (IntKind.wrap .i64 (x12 + 1)), (IntKind.wrap .i64 (x13 - 1)), (Sc rfl (Sc rfl (Sc rfl (Sc rfl (Sc rfl (Sn)))))), (Sn), h⟩
     ·rintro env pv hp ⟨x0a, x0n, x0c, x1, x4, x12, x13, he, hv, h⟩
      refine AWP.sub (env' := (upd (upd (upd (upd (upd E0 13 (sI (x13))) 12 (sI (x12))) 4 (sV x4)) 1 (sI (x1))) 0 (sV (Value.slice x0a x0n x0c)))) (pv' := V0) ?_ (Rv 0 _ (Rv 1 _ (Rv 4 _ (Rv 12 _ (Rv 13 _ (Rn)))))) he hv (HSub.refl _)
      clear he hv
      unfold F153_j4 at h
      refine AWP.seq (fun env pv hp => ∃ (x0a : Option Addr) (x0n : Nat) (x0c : Nat) (x1 : Int) (x13 : Int), Sub (upd (upd (upd E0 13 (sI (x13))) 1 (sI (x1))) 0 (sV (Value.slice x0a x0n x0c))) env ∧ Sub V0 pv ∧ (F153_j5 x0a x0n x0c x1 x13 hp  K)) ?_ ?_
      ·refine AWP.block ?_
       refine AWP.loop (σ := Int × Int) (fun I s hp => F153_l6 x0a x0n x0c x1 x4  K I s.1 s.2 hp) (fun s => (upd (upd (upd (upd (upd E0 13 (sI (s.2))) 12 (sI (s.1))) 4 (sV x4)) 1 (sI (x1))) 0 (sV (Value.slice x0a x0n x0c)))) (fun s => V0) (x12, x13) h (fun s => (Rv 0 _ (Rv 1 _ (Rv 4 _ (Rv 12 _ (Rv 13 _ (Rn))))))) (Sc rfl (Sc rfl (Sc rfl (Sc rfl (Sc rfl (Sn)))))) (Sn) ?_
       intro I6 s hp h
       obtain ⟨x12, x13⟩ := s
       replace h : F153_l6 x0a x0n x0c x1 x4  K I6 x12 x13 hp := h
       unfold F153_l6 at h
       refine AWP.block ?_
       refine AWP.seq (fun env pv hp => ∃ (x12 : Int) (x13 : Int), Sub (upd (upd (upd (upd (upd E0 13 (sI (x13))) 12 (sI (x12))) 4 (sV x4)) 1 (sI (x1))) 0 (sV (Value.slice x0a x0n x0c))) env ∧ Sub V0 pv ∧ (F153_j7 x0a x0n x0c x1 x4 x12 x13 hp I6 K)) ?_ ?_
       ·refine AWP.block ?_
        refine AWP.loop (σ := Int) (fun I s hp => F153_l11 x0a x0n x0c x1 x4 x13 I6 K I s hp) (fun s => (upd (upd (upd (upd (upd E0 13 (sI (x13))) 12 (sI (s))) 4 (sV x4)) 1 (sI (x1))) 0 (sV (Value.slice x0a x0n x0c)))) (fun s => V0) x12 h (fun s => (Rv 0 _ (Rv 1 _ (Rv 4 _ (Rv 12 _ (Rv 13 _ (Rn))))))) (Sc rfl (Sc rfl (Sc rfl (Sc rfl (Sc rfl (Sn)))))) (Sn) ?_
        intro I11 s hp h
        obtain ⟨x12, hs⟩ : ∃ x, x = s := ⟨s, rfl⟩
        subst hs
        replace h : F153_l11 x0a x0n x0c x1 x4 x13 I6 K I11 x12 hp := h
        unfold F153_l11 at h
        refine AWP.seq' ?_
        refine AWP.seq (fun env pv hp => ∃ (x12 : Int) (x120 : Bool), Sub (upd (upd (upd (upd (upd (upd E0 120 (sB (x120))) 13 (sI (x13))) 12 (sI (x12))) 4 (sV x4)) 1 (sI (x1))) 0 (sV (Value.slice x0a x0n x0c))) env ∧ Sub V0 pv ∧ (F153_j12 x0a x0n x0c x1 x4 x12 x13 x120 hp I6 I11 K)) ?_ ?_
        ·refine AWP.rgnD (by kernel_rfl) (by kernel_rfl) (F153_r16 E0 x0a x0n x0c x1 x4 x12 x13 hp _) ?_ (Rv 0 _ (Rv 1 _ (Rv 4 _ (Rv 12 _ (Rv 13 _ (Rn)))))) (Sc rfl (Sc rfl (Sc rfl (Sc rfl (Sc rfl (Sn)))))) (Sn)
         refine ite2_mono h (fun h => ?_) (fun h => ?_)
         ·refine ⟨h.1, h.2.1, ?_⟩
          replace h := h.2.2
          refine ptrN_mono h (fun b_73 o_74 h => ?_)
          refine ldL_mono h (fun l_75 h => ?_)
          refine ⟨h.1, h.2.1, ?_⟩
          replace h := h.2.2
          refine ptrN_mono h (fun b_76 o_77 h => ?_)
          refine ldL_mono h (fun l_78 h => ?_)
          refine fnV_mono h (fun f_79 ga_80 gb_81 h => ?_)
          refine CF_mono h (fun u_82 h_83 h => ?_)
          refine intV_mono h (fun i_84 h => ?_)
          exact ⟨x12, (decide ((i_84 : Int) < 0)), (Sc rfl (Sc rfl (Sc rfl (Sc rfl (Sc rfl (Sc rfl (Sn))))))), (Sn), h⟩
         ·exact ⟨x12, false, (Sc rfl (Sc rfl (Sc rfl (Sc rfl (Sc rfl (Sc rfl (Sn))))))), (Sn), h⟩
        ·rintro env pv hp ⟨x12, x120, he, hv, h⟩
         refine AWP.sub (env' := (upd (upd (upd (upd (upd (upd E0 120 (sB (x120))) 13 (sI (x13))) 12 (sI (x12))) 4 (sV x4)) 1 (sI (x1))) 0 (sV (Value.slice x0a x0n x0c)))) (pv' := V0) ?_ (Rv 0 _ (Rv 1 _ (Rv 4 _ (Rv 12 _ (Rv 13 _ (Rv 120 _ (Rn))))))) he hv (HSub.refl _)
         clear he hv
         unfold F153_j12 at h
         refine AWP.cond (t := x120) rfl (fun e => ?_) (fun e => ?_)
         ·replace h := ite2_t h e
          refine AWP.skip ?_
          refine AWP.block ?_
          refine AWP.rgn (F153_r15 (upd (upd (upd (upd E0 13 (sI (x13))) 4 (sV x4)) 1 (sI (x1))) 0 (sV (Value.slice x0a x0n x0c))) x12 hp _) ?_ (Rv 12 _ (Rv 0 _ (Rv 1 _ (Rv 4 _ (Rv 13 _ (Rn)))))) (Sc rfl (Sc rfl (Sc rfl (Sc rfl (Sc rfl (Sn)))))) (Sn)
          exact ⟨(IntKind.wrap .i64 (x12 + 1)), (Sc rfl (Sc rfl (Sc rfl (Sc rfl (Sc rfl (Sn)))))), (Sn), h⟩
         ·replace h := ite2_f h e
          refine AWP.exit ?_
          exact ⟨x12, x13, (Sc rfl (Sc rfl (Sc rfl (Sc rfl (Sc rfl (Sn)))))), (Sn), h⟩
       ·rintro env pv hp ⟨x12, x13, he, hv, h⟩
        refine AWP.sub (env' := (upd (upd (upd (upd (upd E0 13 (sI (x13))) 12 (sI (x12))) 4 (sV x4)) 1 (sI (x1))) 0 (sV (Value.slice x0a x0n x0c)))) (pv' := V0) ?_ (Rv 0 _ (Rv 1 _ (Rv 4 _ (Rv 12 _ (Rv 13 _ (Rn)))))) he hv (HSub.refl _)
        clear he hv
        unfold F153_j7 at h
        refine AWP.seq (fun env pv hp => ∃ (x12 : Int) (x13 : Int), Sub (upd (upd (upd (upd (upd E0 13 (sI (x13))) 12 (sI (x12))) 4 (sV x4)) 1 (sI (x1))) 0 (sV (Value.slice x0a x0n x0c))) env ∧ Sub V0 pv ∧ (F153_j8 x0a x0n x0c x1 x4 x12 x13 hp I6 K)) ?_ ?_
        ·refine AWP.block ?_
         refine AWP.loop (σ := Int) (fun I s hp => F153_l9 x0a x0n x0c x1 x4 x12 I6 K I s hp) (fun s => (upd (upd (upd (upd (upd E0 13 (sI (s))) 12 (sI (x12))) 4 (sV x4)) 1 (sI (x1))) 0 (sV (Value.slice x0a x0n x0c)))) (fun s => V0) x13 h (fun s => (Rv 0 _ (Rv 1 _ (Rv 4 _ (Rv 12 _ (Rv 13 _ (Rn))))))) (Sc rfl (Sc rfl (Sc rfl (Sc rfl (Sc rfl (Sn)))))) (Sn) ?_
         intro I9 s hp h
         obtain ⟨x13, hs⟩ : ∃ x, x = s := ⟨s, rfl⟩
         subst hs
         replace h : F153_l9 x0a x0n x0c x1 x4 x12 I6 K I9 x13 hp := h
         unfold F153_l9 at h
         refine AWP.seq' ?_
         refine AWP.seq (fun env pv hp => ∃ (x13 : Int) (x139 : Bool), Sub (upd (upd (upd (upd (upd (upd E0 139 (sB (x139))) 13 (sI (x13))) 12 (sI (x12))) 4 (sV x4)) 1 (sI (x1))) 0 (sV (Value.slice x0a x0n x0c))) env ∧ Sub V0 pv ∧ (F153_j10 x0a x0n x0c x1 x4 x12 x13 x139 hp I6 I9 K)) ?_ ?_
         ·refine AWP.rgnD (by kernel_rfl) (by kernel_rfl) (F153_r14 E0 x0a x0n x0c x1 x4 x12 x13 hp _) ?_ (Rv 0 _ (Rv 1 _ (Rv 4 _ (Rv 12 _ (Rv 13 _ (Rn)))))) (Sc rfl (Sc rfl (Sc rfl (Sc rfl (Sc rfl (Sn)))))) (Sn)
          refine ite2_mono h (fun h => ?_) (fun h => ?_)
          ·refine ⟨h.1, h.2.1, ?_⟩
           replace h := h.2.2
           refine ptrN_mono h (fun b_61 o_62 h => ?_)
           refine ldL_mono h (fun l_63 h => ?_)
           refine ⟨h.1, h.2.1, ?_⟩
           replace h := h.2.2
           refine ptrN_mono h (fun b_64 o_65 h => ?_)
           refine ldL_mono h (fun l_66 h => ?_)
           refine fnV_mono h (fun f_67 ga_68 gb_69 h => ?_)
           refine CF_mono h (fun u_70 h_71 h => ?_)
           refine intV_mono h (fun i_72 h => ?_)
           exact ⟨x13, (!(decide ((i_72 : Int) < 0))), (Sc rfl (Sc rfl (Sc rfl (Sc rfl (Sc rfl (Sc rfl (Sn))))))), (Sn), h⟩
          ·exact ⟨x13, false, (Sc rfl (Sc rfl (Sc rfl (Sc rfl (Sc rfl (Sc rfl (Sn))))))), (Sn), h⟩
         ·rintro env pv hp ⟨x13, x139, he, hv, h⟩
          refine AWP.sub (env' := (upd (upd (upd (upd (upd (upd E0 139 (sB (x139))) 13 (sI (x13))) 12 (sI (x12))) 4 (sV x4)) 1 (sI (x1))) 0 (sV (Value.slice x0a x0n x0c)))) (pv' := V0) ?_ (Rv 0 _ (Rv 1 _ (Rv 4 _ (Rv 12 _ (Rv 13 _ (Rv 139 _ (Rn))))))) he hv (HSub.refl _)
          clear he hv
          unfold F153_j10 at h
          refine AWP.cond (t := x139) rfl (fun e => ?_) (fun e => ?_)
          ·replace h := ite2_t h e
           refine AWP.skip ?_
           refine AWP.block ?_
           refine AWP.rgn (F153_r13 (upd (upd (upd (upd E0 12 (sI (x12))) 4 (sV x4)) 1 (sI (x1))) 0 (sV (Value.slice x0a x0n x0c))) x13 hp _) ?_ (Rv 13 _ (Rv 0 _ (Rv 1 _ (Rv 4 _ (Rv 12 _ (Rn)))))) (Sc rfl (Sc rfl (Sc rfl (Sc rfl (Sc rfl (Sn)))))) (Sn)
           exact ⟨(IntKind.wrap .i64 (x13 - 1)), (Sc rfl (Sc rfl (Sc rfl (Sc rfl (Sc rfl (Sn)))))), (Sn), h⟩
          ·replace h := ite2_f h e
           refine AWP.exit ?_
           exact ⟨x12, x13, (Sc rfl (Sc rfl (Sc rfl (Sc rfl (Sc rfl (Sn)))))), (Sn), h⟩
        ·rintro env pv hp ⟨x12, x13, he, hv, h⟩
         refine AWP.sub (env' := (upd (upd (upd (upd (upd E0 13 (sI (x13))) 12 (sI (x12))) 4 (sV x4)) 1 (sI (x1))) 0 (sV (Value.slice x0a x0n x0c)))) (pv' := V0) ?_ (Rv 0 _ (Rv 1 _ (Rv 4 _ (Rv 12 _ (Rv 13 _ (Rn)))))) he hv (HSub.refl _)
         clear he hv
         unfold F153_j8 at h
         refine AWP.seq' ?_
         refine AWP.seq' ?_
         refine AWP.rgn (F153_r9 (upd (upd (upd E0 4 (sV x4)) 1 (sI (x1))) 0 (sV (Value.slice x0a x0n x0c))) x12 x13 hp _) ?_ (Rv 12 _ (Rv 13 _ (Rv 0 _ (Rv 1 _ (Rv 4 _ (Rn)))))) (Sc rfl (Sc rfl (Sc rfl (Sc rfl (Sc rfl (Sn)))))) (Sn)
         refine AWP.cond (t := (decide ((x12 : Int) > x13))) rfl (fun e => ?_) (fun e => ?_)
         ·replace h := ite2_t h e
          refine AWP.exit ?_
          exact ⟨x0a, x0n, x0c, x1, x13, (Sc rfl (Sc rfl (Sc rfl (Sn)))), (Sn), h⟩
         ·replace h := ite2_f h e
          refine AWP.skip ?_
          refine AWP.seq' ?_
          refine AWP.rgnD (by kernel_rfl) (by kernel_rfl) (F153_r10 (upd (upd E0 4 (sV x4)) 1 (sI (x1))) x0a x0n x0c x12 x13 hp _) ?_ (Rv 0 _ (Rv 12 _ (Rv 13 _ (Rv 1 _ (Rv 4 _ (Rn)))))) (Sc rfl (Sc rfl (Sc rfl (Sc rfl (Sc rfl (Sn)))))) (Sn)
          refine ⟨h.1, h.2.1, ?_⟩
          replace h := h.2.2
          refine ptrN_mono h (fun b_49 o_50 h => ?_)
          refine ldL_mono h (fun l_51 h => ?_)
          refine ⟨h.1, h.2.1, ?_⟩
          replace h := h.2.2
          refine ptrN_mono h (fun b_52 o_53 h => ?_)
          refine ldL_mono h (fun l_54 h => ?_)
          refine ⟨h.1, h.2.1, ?_⟩
          replace h := h.2.2
          refine ptrN_mono h (fun b_55 o_56 h => ?_)
          refine ⟨h.1, ?_⟩
          replace h := h.2
          refine stN_mono h (fun h_57 h => ?_)
          refine ⟨h.1, h.2.1, ?_⟩
          replace h := h.2.2
          refine ptrN_mono h (fun b_58 o_59 h => ?_)
          refine ⟨h.1, ?_⟩
          replace h := h.2
          refine stN_mono h (fun h_60 h => ?_)
          refine AWP.seq' ?_
          refine AWP.rgn (F153_r11 (upd (upd (upd (upd E0 13 (sI (x13))) 4 (sV x4)) 1 (sI (x1))) 0 (sV (Value.slice x0a x0n x0c))) x12 h_60 _) ?_ (Rv 12 _ (Rv 0 _ (Rv 1 _ (Rv 4 _ (Rv 13 _ (Rn)))))) (Sc rfl (Sc rfl (Sc rfl (Sc rfl (Sc rfl (Sn)))))) (Sn)
          refine AWP.rgn (F153_r12 (upd (upd (upd (upd E0 12 (sI ((IntKind.wrap .i64 (x12 + 1))))) 4 (sV x4)) 1 (sI (x1))) 0 (sV (Value.slice x0a x0n x0c))) x13 h_60 _) ?_ (Rv 13 _ (Rv 0 _ (Rv 1 _ (Rv 4 _ (Rv 12 _ (Rn)))))) (Sc rfl (Sc rfl (Sc rfl (Sc rfl (Sc rfl (Sn)))))) (Sn)
          exact ⟨((IntKind.wrap .i64 (x12 + 1)), (IntKind.wrap .i64 (x13 - 1))), (Sc rfl (Sc rfl (Sc rfl (Sc rfl (Sc rfl (Sn)))))), (Sn), h⟩
      ·rintro env pv hp ⟨x0a, x0n, x0c, x1, x13, he, hv, h⟩
       refine AWP.sub (env' := (upd (upd (upd E0 13 (sI (x13))) 1 (sI (x1))) 0 (sV (Value.slice x0a x0n x0c)))) (pv' := V0) ?_ (Rv 0 _ (Rv 1 _ (Rv 13 _ (Rn)))) he hv (HSub.refl _)
       clear he hv
       unfold F153_j5 at h
       refine AWP.seq' ?_
       refine AWP.rgnD (by kernel_rfl) (by kernel_rfl) (F153_r7 E0 x0a x0n x0c x1 x13 hp _) ?_ (Rv 0 _ (Rv 1 _ (Rv 13 _ (Rn)))) (Sc rfl (Sc rfl (Sc rfl (Sn)))) (Sn)
       refine ⟨h.1, h.2.1, ?_⟩
       replace h := h.2.2
       refine ptrN_mono h (fun b_37 o_38 h => ?_)
       refine ldL_mono h (fun l_39 h => ?_)
       refine ⟨h.1, h.2.1, ?_⟩
       replace h := h.2.2
       refine ptrN_mono h (fun b_40 o_41 h => ?_)
       refine ldL_mono h (fun l_42 h => ?_)
       refine ⟨h.1, h.2.1, ?_⟩
       replace h := h.2.2
       refine ptrN_mono h (fun b_43 o_44 h => ?_)
       refine ⟨h.1, ?_⟩
       replace h := h.2
       refine stN_mono h (fun h_45 h => ?_)
       refine ⟨h.1, h.2.1, ?_⟩
       replace h := h.2.2
       refine ptrN_mono h (fun b_46 o_47 h => ?_)
       refine ⟨h.1, ?_⟩
       replace h := h.2
       refine stN_mono h (fun h_48 h => ?_)
       refine AWP.seq' ?_
       refine AWP.rgn (F153_r8 E0 x13 h_48 _) ?_ (Rv 13 _ (Rn)) (Sc rfl (Sn)) (Sn)
       refine AWP.ret ?_
       exact h
end Go.Proofs

set_option linter.unusedVariables false
set_option maxRecDepth 20000
namespace Go.Proofs
open Go Go.HL

section
variable {f : FuncId} {ga gb : List Value} {hp0 : HP} {b sp n c : Nat} {cf : Exp.Th → Exp.Th → Int}

theorem S171 (hc : CmpOk Try.prog f ga gb hp0 b 148 sp th n cf) {d : Array Exp.Th} {lo hi fst : Nat} {K : Value → HP → Prop} (hs : d.size = n) (hlo : lo ≤ hi) (hf : fst + hi ≤ n) (hn : n ≤ 1000000000)
    (h : K (.tuple ⟨[]⟩) (HA hp0 b 148 sp th (Sort.siftDown (ltC cf) hi fst lo d))) :
    CF Try.prog 171 [.slice (some ⟨b, 0, none⟩) n c, .int .i64 lo, .int .i64 hi, .int .i64 fst, .func (.func f) ⟨ga⟩ ⟨gb⟩] (HA hp0 b 148 sp th d) K := by
  refine F171_ok _ n c lo hi fst _ _ K ?_
  unfold F171 F171_j1
  refine LoopP.by (J := fun k (x : Int) hp => ∃ (r : Nat) (d' : Array Exp.Th), x = r ∧ hp = HA hp0 b 148 sp th d' ∧ d'.size = n ∧ r ≤ hi ∧ k = hi - r ∧ Sort.siftDown (ltC cf) hi fst r d' = Sort.siftDown (ltC cf) hi fst lo d) ?_
    (n := hi - lo) ⟨lo, d, rfl, rfl, hs, hlo, rfl, rfl⟩
  rintro I k x hp ⟨r, d', rfl, rfl, hs', hr, rfl, he⟩ hI
  unfold F171_l2
  have w1 : IntKind.wrap .i64 (2 * (r : Int)) = ((2 * r : Nat) : Int) := wi (by omega) (by omega)
  have w2 : IntKind.wrap .i64 (((2 * r : Nat) : Int) + 1) = ((2 * r + 1 : Nat) : Int) := wi (by omega) (by omega)
  have w3 : IntKind.wrap .i64 (((2 * r + 1 : Nat) : Int) + 1) = ((2 * r + 2 : Nat) : Int) := wi (by omega) (by omega)
  have w4 : IntKind.wrap .i64 ((fst : Int) + ((2 * r + 1 : Nat) : Int)) = ((fst + (2 * r + 1) : Nat) : Int) := wi (by omega) (by omega)
  have w5 : IntKind.wrap .i64 (((fst + (2 * r + 1) : Nat) : Int) + 1) = ((fst + (2 * r + 1) + 1 : Nat) : Int) := wi (by omega) (by omega)
  simp only [w1, w2, w3, w4, w5]
  rw [Sort.siftDown] at he
  by_cases h1 : 2 * r + 1 ≥ hi
  · rw [dif_pos h1] at he
    rw [decide_eq_true (by omega : ((2 * r + 1 : Nat) : Int) ≥ (hi : Int)), ite2_true, he]
    exact h
  rw [dif_neg h1] at he
  rw [decide_eq_false (by omega : ¬ ((2 * r + 1 : Nat) : Int) ≥ (hi : Int)), ite2_false]
  have tail : ∀ ch : Nat, ch < hi → r < ch → (if !ltC cf d'[fst + r]! d'[fst + ch]! then d' else Sort.siftDown (ltC cf) hi fst ch (Sort.swp d' (fst + r) (fst + ch))) = Sort.siftDown (ltC cf) hi fst lo d →
      F171_j3 (some ⟨b, 0, none⟩) n c hi fst (.func (.func f) ⟨ga⟩ ⟨gb⟩) r ch (HA hp0 b 148 sp th d') I K := by
    intro ch hch hrc ht
    unfold F171_j3
    have v1 : IntKind.wrap .i64 ((fst : Int) + (r : Int)) = ((fst + r : Nat) : Int) := wi (by omega) (by omega)
    have v2 : IntKind.wrap .i64 ((fst : Int) + (ch : Int)) = ((fst + ch : Nat) : Int) := wi (by omega) (by omega)
    simp only [v1, v2]
    refine cmpP hc th_len hs' (i := fst + r) (j := fst + ch) rfl rfl (by omega) (by omega) ?_
    have hl : decide (cf d'[fst + r]! d'[fst + ch]! < 0) = ltC cf d'[fst + r]! d'[fst + ch]! := rfl
    rw [hl]
    cases hlt : ltC cf d'[fst + r]! d'[fst + ch]!
    · rw [hlt] at ht
      simp only [Bool.not_false, if_true] at ht
      simp only [Bool.not_false, ite2_true]
      rw [ht]; exact h
    · rw [hlt] at ht
      simp only [Bool.not_true, Bool.false_eq_true, if_false] at ht
      simp only [Bool.not_true, ite2_false]
      refine swapP th_len th_one hs' (i := fst + r) (j := fst + ch) rfl rfl (by omega) (by omega) ?_
      exact hI (hi - ch) _ _ (by omega) ⟨ch, _, rfl, rfl, by rw [swp_size]; exact hs', by omega, rfl, ht⟩
  by_cases h2 : 2 * r + 1 + 1 < hi
  · rw [decide_eq_true (by omega : ((2 * r + 2 : Nat) : Int) < (hi : Int)), ite2_true]
    refine cmpP hc th_len hs' (i := fst + (2 * r + 1)) (j := fst + (2 * r + 1) + 1) rfl rfl (by omega) (by omega) ?_
    have hl : decide (cf d'[fst + (2 * r + 1)]! d'[fst + (2 * r + 1) + 1]! < 0) = ltC cf d'[fst + (2 * r + 1)]! d'[fst + (2 * r + 1) + 1]! := rfl
    rw [hl]
    unfold F171_j4
    rw [decide_eq_true h2, Bool.true_and] at he
    cases hlt : ltC cf d'[fst + (2 * r + 1)]! d'[fst + (2 * r + 1) + 1]!
    · rw [hlt] at he
      simp only [Bool.false_eq_true, if_false] at he
      rw [ite2_false]
      exact tail (2 * r + 1) (by omega) (by omega) he
    · rw [hlt] at he
      simp only [if_true] at he
      rw [ite2_true, w3]
      refine tail (2 * r + 2) (by omega) (by omega) ?_
      rw [dif_pos (by omega : 2 * r + 2 < hi)] at he
      exact he
  · rw [decide_eq_false (by omega : ¬ ((2 * r + 2 : Nat) : Int) < (hi : Int)), ite2_false]
    rw [decide_eq_false h2, Bool.false_and] at he
    simp only [Bool.false_eq_true, if_false] at he
    unfold F171_j4
    rw [ite2_false]
    exact tail (2 * r + 1) (by omega) (by omega) he

theorem sift_size {α : Type} [Inhabited α] (lt : α → α → Bool) (hi fst : Nat) : ∀ (m r : Nat) (d : Array α), hi - r ≤ m → (Sort.siftDown lt hi fst r d).size = d.size := by
  intro m
  induction m with
  | zero =>
    intro r d hm
    rw [Sort.siftDown, dif_pos (by omega)]
  | succ m ih =>
    intro r d hm
    rw [Sort.siftDown]
    repeat' split
    all_goals first
      | rfl
      | (rw [ih _ _ (by omega), swp_size])

theorem S147 (hc : CmpOk Try.prog f ga gb hp0 b 148 sp th n cf) {d : Array Exp.Th} {lo hi : Nat} {K : Value → HP → Prop} (hs : d.size = n) (hlo : lo ≤ hi) (hf : hi ≤ n) (hn : n ≤ 1000000000)
    (h : K (.tuple ⟨[]⟩) (HA hp0 b 148 sp th (Sort.heapSort (ltC cf) d lo hi))) :
    CF Try.prog 147 [.slice (some ⟨b, 0, none⟩) n c, .int .i64 lo, .int .i64 hi, .func (.func f) ⟨ga⟩ ⟨gb⟩] (HA hp0 b 148 sp th d) K := by
  refine F147_ok _ n c lo hi _ _ K ?_
  unfold F147 F147_j4
  have w1 : IntKind.wrap .i64 ((hi : Int) - (lo : Int)) = ((hi - lo : Nat) : Int) := wi (by omega) (by omega)
  refine ⟨by omega, ?_⟩
  rw [w1]
  generalize hm : hi - lo = m at *
  have w2 : IntKind.wrap .i64 ((m : Int) - 1) = (m : Int) - 1 := w64 (by omega) (by omega)
  have w3 : Int.tdiv ((m : Int) - 1) 2 = (((m - 1) / 2 : Nat) : Int) := by
    cases m with
    | zero => rfl
    | succ m =>
      have : ((m + 1 : Nat) : Int) - 1 = (m : Int) := by omega
      rw [this]; simp only [Nat.add_sub_cancel]
      rfl
  have w4 : IntKind.wrap .i64 ((((m - 1) / 2 : Nat) : Int)) = (((m - 1) / 2 : Nat) : Int) := wi rfl (by omega)
  rw [w2, w3, w4]
  unfold Sort.heapSort at h
  rw [hm] at h
  refine LoopP.by (J := fun k (x : Int) hp => ∃ (d' : Array Exp.Th), x = (k : Int) - 1 ∧ hp = HA hp0 b 148 sp th d' ∧ d'.size = n ∧ k ≤ (m - 1) / 2 + 1 ∧ Sort.heapBuild (ltC cf) m lo k d' = Sort.heapBuild (ltC cf) m lo ((m - 1) / 2 + 1) d) ?_
    (n := (m - 1) / 2 + 1) ⟨d, by omega, rfl, hs, Nat.le_refl _, rfl⟩
  rintro I k x hp ⟨d', rfl, rfl, hs', hk, he⟩ hI
  unfold F147_l5
  cases k with
  | succ k =>
    have e1 : ((k + 1 : Nat) : Int) - 1 = (k : Int) := by omega
    rw [e1, decide_eq_true (by omega : (k : Int) ≥ 0), ite2_true]
    refine S171 hc hs' (by omega) (by omega) hn ?_
    rw [w64 (by omega) (by omega)]
    rw [Sort.heapBuild] at he
    exact hI k _ _ (by omega) ⟨_, rfl, rfl, by rw [sift_size _ _ _ _ _ _ (Nat.le_refl _)]; exact hs', by omega, he⟩
  | zero =>
    rw [decide_eq_false (by omega : ¬ (((0 : Nat) : Int) - 1) ≥ 0), ite2_false]
    rw [Sort.heapBuild] at he
    rw [← he] at h
    unfold F147_j1 F147_j2
    rw [w2]
    refine LoopP.by (J := fun k (x : Int) hp => ∃ (d2 : Array Exp.Th), x = (k : Int) - 1 ∧ hp = HA hp0 b 148 sp th d2 ∧ d2.size = n ∧ k ≤ m ∧ Sort.heapPop (ltC cf) lo k d2 = Sort.heapPop (ltC cf) lo m d') ?_
      (n := m) ⟨d', rfl, rfl, hs', Nat.le_refl _, rfl⟩
    rintro I2 k2 x2 hp2 ⟨d2, rfl, rfl, hs2, hk2, he2⟩ hI2
    unfold F147_l3
    cases k2 with
    | succ k =>
      have e1 : ((k + 1 : Nat) : Int) - 1 = (k : Int) := by omega
      have v1 : IntKind.wrap .i64 ((lo : Int) + (k : Int)) = ((lo + k : Nat) : Int) := wi (by omega) (by omega)
      rw [e1, decide_eq_true (by omega : (k : Int) ≥ 0), ite2_true, v1]
      refine swapP th_len th_one hs2 (i := lo) (j := lo + k) rfl rfl (by omega) (by omega) ?_
      have hz : (Value.int .i64 0) = Value.int .i64 ((0 : Nat) : Int) := rfl
      rw [hz]
      refine S171 hc (by rw [swp_size]; exact hs2) (by omega) (by omega) hn ?_
      rw [w64 (by omega) (by omega)]
      rw [Sort.heapPop] at he2
      exact hI2 k _ _ (by omega) ⟨_, rfl, rfl, by rw [sift_size _ _ _ _ _ _ (Nat.le_refl _), swp_size]; exact hs2, by omega, he2⟩
    | zero =>
      rw [decide_eq_false (by omega : ¬ (((0 : Nat) : Int) - 1) ≥ 0), ite2_false]
      rw [Sort.heapPop] at he2
      rw [he2]; exact h

theorem S150 {v : Value} {d : Array Exp.Th} {lo hi : Nat} {K : Value → HP → Prop} (hs : d.size = n) (hlo : lo < hi) (hf : hi ≤ n) (hn : n ≤ 1000000000)
    (h : K (.tuple ⟨[]⟩) (HA hp0 b 148 sp th (Sort.reverseRange d lo hi))) :
    CF Try.prog 150 [.slice (some ⟨b, 0, none⟩) n c, .int .i64 lo, .int .i64 hi, v] (HA hp0 b 148 sp th d) K := by
  refine F150_ok _ n c lo hi _ _ K ?_
  unfold F150 F150_j1
  have w1 : IntKind.wrap .i64 ((hi : Int) - 1) = ((hi - 1 : Nat) : Int) := wi (by omega) (by omega)
  rw [w1]
  unfold Sort.reverseRange at h
  refine LoopP.by (J := fun k (s : Int × Int) hp => ∃ (i j : Nat) (d' : Array Exp.Th), s = ((i : Int), (j : Int)) ∧ hp = HA hp0 b 148 sp th d' ∧ d'.size = n ∧ j < n ∧ k = j - i ∧ Sort.reverseLoop i j d' = Sort.reverseLoop lo (hi - 1) d) ?_
    (n := hi - 1 - lo) ⟨lo, hi - 1, d, rfl, rfl, hs, by omega, rfl, rfl⟩
  rintro I k x hp ⟨i, j, d', rfl, rfl, hs', hj, rfl, he⟩ hI
  unfold F150_l2
  rw [Sort.reverseLoop] at he
  by_cases hij : i < j
  · rw [if_pos hij] at he
    simp only []
    rw [decide_eq_true (by omega : (i : Int) < (j : Int)), ite2_true]
    refine swapP th_len th_one hs' (i := i) (j := j) rfl rfl (by omega) (by omega) ?_
    have v1 : IntKind.wrap .i64 ((i : Int) + 1) = ((i + 1 : Nat) : Int) := wi (by omega) (by omega)
    have v2 : IntKind.wrap .i64 ((j : Int) - 1) = ((j - 1 : Nat) : Int) := wi (by omega) (by omega)
    rw [v1, v2]
    exact hI (j - 1 - (i + 1)) _ _ (by omega) ⟨i + 1, j - 1, _, rfl, rfl, by rw [swp_size]; exact hs', by omega, rfl, he⟩
  · rw [if_neg hij] at he
    simp only []
    rw [decide_eq_false (by omega : ¬ (i : Int) < (j : Int)), ite2_false, he]
    exact h
end
end Go.Proofs

set_option linter.unusedVariables false
set_option maxRecDepth 20000
namespace Go.Proofs
open Go Go.HL

section
variable {f : FuncId} {ga gb : List Value} {hp0 : HP} {b sp n c : Nat} {cf : Exp.Th → Exp.Th → Int}

theorem S151 (hc : CmpOk Try.prog f ga gb hp0 b 148 sp th n cf) {d : Array Exp.Th} {lo hi : Nat} {K : Value → HP → Prop} (hs : d.size = n) (hlo : lo < hi) (hf : hi ≤ n) (hn : n ≤ 1000000000)
    (h : K (.bool (Sort.partialInsertionSort (ltC cf) d lo hi).2) (HA hp0 b 148 sp th (Sort.partialInsertionSort (ltC cf) d lo hi).1)) :
    CF Try.prog 151 [.slice (some ⟨b, 0, none⟩) n c, .int .i64 lo, .int .i64 hi, .func (.func f) ⟨ga⟩ ⟨gb⟩] (HA hp0 b 148 sp th d) K := by
  refine F151_ok _ n c lo hi _ _ K ?_
  unfold F151 F151_j1
  have w1 : IntKind.wrap .i64 ((lo : Int) + 1) = ((lo + 1 : Nat) : Int) := wi (by omega) (by omega)
  rw [w1]
  generalize hR : Sort.partialInsertionSort (ltC cf) d lo hi = R at h
  unfold Sort.partialInsertionSort at hR
  refine LoopP.by (J := fun k (s : Int × Int) hp => ∃ (i : Nat) (d' : Array Exp.Th), s = ((i : Int), 5 - (k : Int)) ∧ k ≤ 5 ∧ hp = HA hp0 b 148 sp th d' ∧ d'.size = n ∧ lo < i ∧ i ≤ hi ∧ Sort.partialIns (ltC cf) lo hi k i d' = R) ?_
    (n := 5) ⟨lo + 1, d, rfl, Nat.le_refl _, rfl, hs, by omega, by omega, hR⟩
  rintro I k x hp ⟨i, d', rfl, hk5, rfl, hs', hli, hih, he⟩ hI
  unfold F151_l2
  simp only []
  cases k with
  | zero =>
    rw [decide_eq_false (by omega : ¬ (5 - ((0 : Nat) : Int)) < 5), ite2_false]
    rw [Sort.partialIns] at he
    rw [← he] at h
    exact h
  | succ k =>
    rw [decide_eq_true (by omega : (5 - ((k + 1 : Nat) : Int)) < 5), ite2_true]
    rw [Sort.partialIns_succ] at he
    unfold F151_j3
    have fin4 : ∀ (i : Nat) (d3 : Array Exp.Th), lo < i → i ≤ hi → d3.size = n → Sort.partialIns (ltC cf) lo hi k i d3 = R →
        F151_j4 (some ⟨b, 0, none⟩) n c lo hi (.func (.func f) ⟨ga⟩ ⟨gb⟩) i (5 - ((k + 1 : Nat) : Int)) (HA hp0 b 148 sp th d3) I K := by
      intro i d3 h1 h2 h3 h4
      unfold F151_j4
      have : IntKind.wrap .i64 (5 - ((k + 1 : Nat) : Int) + 1) = 5 - (k : Int) := by rw [w64 (by omega) (by omega)]; omega
      rw [this]
      exact hI k _ _ (by omega) ⟨i, d3, rfl, by omega, rfl, h3, h1, h2, h4⟩
    have fin6 : ∀ (i : Nat) (d2 : Array Exp.Th), lo < i → i < hi → d2.size = n → Sort.partialIns (ltC cf) lo hi k i (Sort.fixUp (ltC cf) hi i d2) = R →
        F151_j6 (some ⟨b, 0, none⟩) n c lo hi (.func (.func f) ⟨ga⟩ ⟨gb⟩) i (5 - ((k + 1 : Nat) : Int)) (HA hp0 b 148 sp th d2) I K := by
      intro i d2 h1 h2 h3 h4
      unfold F151_j6
      have v : IntKind.wrap .i64 ((hi : Int) - (i : Int)) = ((hi - i : Nat) : Int) := wi (by omega) (by omega)
      rw [v]
      unfold Sort.fixUp at h4
      by_cases h2' : hi - i ≥ 2
      · rw [if_pos h2'] at h4
        rw [decide_eq_true (by omega : ((hi - i : Nat) : Int) ≥ 2), ite2_true]
        unfold F151_j7
        have v1 : IntKind.wrap .i64 ((i : Int) + 1) = ((i + 1 : Nat) : Int) := wi (by omega) (by omega)
        rw [v1]
        refine LoopP.by (J := fun m (y : Int) hp => ∃ (j : Nat) (d3 : Array Exp.Th), y = j ∧ hp = HA hp0 b 148 sp th d3 ∧ d3.size = n ∧ i < j ∧ m = hi - j ∧ Sort.shiftUp (ltC cf) hi j d3 = Sort.shiftUp (ltC cf) hi (i + 1) d2) ?_
          (n := hi - (i + 1)) ⟨i + 1, d2, rfl, rfl, h3, by omega, rfl, rfl⟩
        rintro I8 m y hp ⟨j, d3, rfl, rfl, h5, h6, rfl, h7⟩ hI8
        unfold F151_l8
        rw [Sort.shiftUp] at h7
        by_cases hj : j < hi
        · rw [if_pos hj] at h7
          have v2 : IntKind.wrap .i64 ((j : Int) - 1) = ((j - 1 : Nat) : Int) := wi (by omega) (by omega)
          have v3 : IntKind.wrap .i64 ((j : Int) + 1) = ((j + 1 : Nat) : Int) := wi (by omega) (by omega)
          simp only [v2, v3]
          rw [decide_eq_true (by omega : (j : Int) < (hi : Int)), ite2_true]
          refine cmpP hc th_len h5 (i := j) (j := j - 1) rfl rfl (by omega) (by omega) ?_
          have hl : decide (cf d3[j]! d3[j - 1]! < 0) = ltC cf d3[j]! d3[j - 1]! := rfl
          rw [hl]
          cases hlt : ltC cf d3[j]! d3[j - 1]!
          · rw [hlt] at h7
            simp only [Bool.not_false, if_true] at h7
            simp only [Bool.not_false, ite2_true]
            rw [← h7] at h4
            exact fin4 i d3 h1 (by omega) h5 h4
          · rw [hlt] at h7
            simp only [Bool.not_true, Bool.false_eq_true, if_false] at h7
            simp only [Bool.not_true, ite2_false]
            refine swapP th_len th_one h5 (i := j) (j := j - 1) rfl rfl (by omega) (by omega) ?_
            exact hI8 (hi - (j + 1)) _ _ (by omega) ⟨j + 1, _, rfl, rfl, by rw [swp_size]; exact h5, by omega, rfl, h7⟩
        · rw [if_neg hj] at h7
          rw [decide_eq_false (by omega : ¬ (j : Int) < (hi : Int)), ite2_false]
          rw [← h7] at h4
          exact fin4 i d3 h1 (by omega) h5 h4
      · rw [if_neg h2'] at h4
        rw [decide_eq_false (by omega : ¬ ((hi - i : Nat) : Int) ≥ 2), ite2_false]
        exact fin4 i d2 h1 (by omega) h3 h4
    have fin5 : ∀ (i : Nat), lo < i → i ≤ hi → Sort.scanSorted (ltC cf) d' hi i = i →
        (if i = hi then (d', true) else if hi - lo < 50 then (d', false) else Sort.partialIns (ltC cf) lo hi k i (Sort.fixUp (ltC cf) hi i (Sort.fixDown (ltC cf) lo i (Sort.swp d' i (i - 1))))) = R →
        F151_j5 (some ⟨b, 0, none⟩) n c lo hi (.func (.func f) ⟨ga⟩ ⟨gb⟩) i (5 - ((k + 1 : Nat) : Int)) (HA hp0 b 148 sp th d') I K := by
      intro i h1 h2 _ h4
      unfold F151_j5
      by_cases hih : i = hi
      · rw [if_pos hih] at h4
        subst hih
        simp only [beq_self_eq_true, ite2_true]
        rw [← h4] at h
        exact h
      rw [if_neg hih] at h4
      have hb : ((i : Int) == (hi : Int)) = false := by
        rw [beq_eq_false_iff_ne]; omega
      rw [hb, ite2_false]
      have v : IntKind.wrap .i64 ((hi : Int) - (lo : Int)) = ((hi - lo : Nat) : Int) := wi (by omega) (by omega)
      rw [v]
      by_cases h50 : hi - lo < 50
      · rw [if_pos h50] at h4
        rw [decide_eq_true (by omega : ((hi - lo : Nat) : Int) < 50), ite2_true]
        rw [← h4] at h
        exact h
      rw [if_neg h50] at h4
      rw [decide_eq_false (by omega : ¬ ((hi - lo : Nat) : Int) < 50), ite2_false]
      have v2 : IntKind.wrap .i64 ((i : Int) - 1) = ((i - 1 : Nat) : Int) := wi (by omega) (by omega)
      have v3 : IntKind.wrap .i64 ((i : Int) - (lo : Int)) = ((i - lo : Nat) : Int) := wi (by omega) (by omega)
      simp only [v2, v3]
      refine swapP th_len th_one hs' (i := i) (j := i - 1) rfl rfl (by omega) (by omega) ?_
      have hs1 : (Sort.swp d' i (i - 1)).size = n := by rw [swp_size]; exact hs'
      generalize Sort.swp d' i (i - 1) = d1 at *
      unfold Sort.fixDown at h4
      by_cases hd : i - lo ≥ 2
      · rw [if_pos hd] at h4
        rw [decide_eq_true (by omega : ((i - lo : Nat) : Int) ≥ 2), ite2_true]
        unfold F151_j9
        refine LoopP.by (J := fun m (y : Int) hp => ∃ (d2 : Array Exp.Th), y = m ∧ hp = HA hp0 b 148 sp th d2 ∧ d2.size = n ∧ m < n ∧ Sort.shiftDown (ltC cf) m d2 = Sort.shiftDown (ltC cf) (i - 1) d1) ?_
          (n := i - 1) ⟨d1, rfl, rfl, hs1, by omega, rfl⟩
        rintro I10 m y hp ⟨d2, rfl, rfl, h5, h6, h7⟩ hI10
        unfold F151_l10
        cases m with
        | zero =>
          rw [Sort.shiftDown] at h7
          rw [decide_eq_false (by omega : ¬ ((0 : Nat) : Int) ≥ 1), ite2_false]
          rw [← h7] at h4
          exact fin6 i d2 h1 (by omega) h5 h4
        | succ m =>
          rw [Sort.shiftDown] at h7
          have v4 : IntKind.wrap .i64 (((m + 1 : Nat) : Int) - 1) = (m : Int) := wi (by omega) (by omega)
          simp only [v4]
          rw [decide_eq_true (by omega : ((m + 1 : Nat) : Int) ≥ 1), ite2_true]
          refine cmpP hc th_len h5 (i := m + 1) (j := m) rfl rfl (by omega) (by omega) ?_
          have hl : decide (cf d2[m + 1]! d2[m]! < 0) = ltC cf d2[m + 1]! d2[m]! := rfl
          rw [hl]
          cases hlt : ltC cf d2[m + 1]! d2[m]!
          · rw [hlt] at h7
            simp only [Bool.not_false, if_true] at h7
            simp only [Bool.not_false, ite2_true]
            rw [← h7] at h4
            exact fin6 i d2 h1 (by omega) h5 h4
          · rw [hlt] at h7
            simp only [Bool.not_true, Bool.false_eq_true, if_false] at h7
            simp only [Bool.not_true, ite2_false]
            refine swapP th_len th_one h5 (i := m + 1) (j := m) rfl rfl (by omega) (by omega) ?_
            exact hI10 m _ _ (by omega) ⟨_, rfl, rfl, by rw [swp_size]; exact h5, by omega, h7⟩
      · rw [if_neg hd] at h4
        rw [decide_eq_false (by omega : ¬ ((i - lo : Nat) : Int) ≥ 2), ite2_false]
        exact fin6 i d1 h1 (by omega) hs1 h4
    refine LoopP.by (J := fun m (y : Int) hp => ∃ (i' : Nat), y = i' ∧ hp = HA hp0 b 148 sp th d' ∧ lo < i' ∧ i' ≤ hi ∧ m = hi - i' ∧ Sort.scanSorted (ltC cf) d' hi i' = Sort.scanSorted (ltC cf) d' hi i) ?_
      (n := hi - i) ⟨i, rfl, rfl, hli, hih, rfl, rfl⟩
    rintro I11 m y hp ⟨i', rfl, rfl, h1, h2, rfl, h7⟩ hI11
    unfold F151_l11
    rw [← h7] at he
    have out : Sort.scanSorted (ltC cf) d' hi i' = i' → F151_j12 (some ⟨b, 0, none⟩) n c lo hi (.func (.func f) ⟨ga⟩ ⟨gb⟩) i' (5 - ((k + 1 : Nat) : Int)) false (HA hp0 b 148 sp th d') I I11 K := by
      intro hq
      unfold F151_j12
      rw [ite2_false]
      rw [hq] at he
      exact fin5 i' h1 h2 hq he
    by_cases hj : i' < hi
    · have v2 : IntKind.wrap .i64 ((i' : Int) - 1) = ((i' - 1 : Nat) : Int) := wi (by omega) (by omega)
      simp only [v2]
      rw [decide_eq_true (by omega : (i' : Int) < (hi : Int)), ite2_true]
      refine cmpP hc th_len hs' (i := i') (j := i' - 1) rfl rfl (by omega) (by omega) ?_
      have hl : decide (cf d'[i']! d'[i' - 1]! < 0) = ltC cf d'[i']! d'[i' - 1]! := rfl
      rw [hl]
      cases hlt : ltC cf d'[i']! d'[i' - 1]!
      · unfold F151_j12
        have v3 : IntKind.wrap .i64 ((i' : Int) + 1) = ((i' + 1 : Nat) : Int) := wi (by omega) (by omega)
        simp only [Bool.not_false, ite2_true, v3]
        refine hI11 (hi - (i' + 1)) _ _ (by omega) ⟨i' + 1, rfl, rfl, by omega, by omega, rfl, ?_⟩
        rw [← h7]
        rw [Sort.scanSorted.eq_def (ltC cf) d' hi i', hlt, decide_eq_true hj]
        simp
      · simp only [Bool.not_true]
        refine out ?_
        rw [Sort.scanSorted, hlt]
        simp
    · rw [decide_eq_false (by omega : ¬ (i' : Int) < (hi : Int)), ite2_false]
      refine out ?_
      rw [Sort.scanSorted, decide_eq_false hj]
      simp

end
end Go.Proofs

set_option linter.unusedVariables false
set_option maxRecDepth 20000
namespace Go.Proofs
open Go Go.HL

section
variable {f : FuncId} {ga gb : List Value} {hp0 : HP} {b sp n c : Nat} {cf : Exp.Th → Exp.Th → Int}

theorem S152 (hc : CmpOk Try.prog f ga gb hp0 b 148 sp th n cf) {d : Array Exp.Th} {lo hi pv : Nat} {K : Value → HP → Prop} (hs : d.size = n) (hlo : lo < hi) (hf : hi ≤ n) (hp : pv < n) (hn : n ≤ 1000000000)
    (h : K (.int .i64 ((Sort.partitionEqual (ltC cf) d lo hi pv).1 : Nat)) (HA hp0 b 148 sp th (Sort.partitionEqual (ltC cf) d lo hi pv).2)) :
    CF Try.prog 152 [.slice (some ⟨b, 0, none⟩) n c, .int .i64 lo, .int .i64 hi, .int .i64 pv, .func (.func f) ⟨ga⟩ ⟨gb⟩] (HA hp0 b 148 sp th d) K := by
  refine F152_ok _ n c lo hi pv _ _ K ?_
  unfold F152
  refine swapP th_len th_one hs (i := lo) (j := pv) rfl rfl (by omega) (by omega) ?_
  unfold Sort.partitionEqual at h
  have hs1 : (Sort.swp d lo pv).size = n := by rw [swp_size]; exact hs
  generalize Sort.swp d lo pv = d1 at *
  have w1 : IntKind.wrap .i64 ((lo : Int) + 1) = ((lo + 1 : Nat) : Int) := wi (by omega) (by omega)
  have w2 : IntKind.wrap .i64 ((hi : Int) - 1) = ((hi - 1 : Nat) : Int) := wi (by omega) (by omega)
  rw [w1, w2]
  generalize hR : Sort.partEqLoop (ltC cf) lo (lo + 1) (hi - 1) d1 = R at h
  unfold F152_j1
  refine LoopP.by (J := fun k (s : Int × Int) hp => ∃ (i j : Nat) (d' : Array Exp.Th), s = ((i : Int), (j : Int)) ∧ hp = HA hp0 b 148 sp th d' ∧ d'.size = n ∧ lo < i ∧ i ≤ j + 2 ∧ j < n ∧ k = j + 1 - i ∧ Sort.partEqLoop (ltC cf) lo i j d' = R) ?_
    (n := hi - 1 + 1 - (lo + 1)) ⟨lo + 1, hi - 1, d1, rfl, rfl, hs1, by omega, by omega, by omega, rfl, hR⟩
  rintro I k x hp ⟨i, j, d', rfl, rfl, hs', hli, hij, hj, rfl, he⟩ hI
  unfold F152_l3
  simp only []
  rw [Sort.partEqLoop_eq] at he
  refine LoopP.by (J := fun m (y : Int) hp => ∃ (i' : Nat), y = i' ∧ hp = HA hp0 b 148 sp th d' ∧ i ≤ i' ∧ i' ≤ j + 2 ∧ m = j + 2 - i' ∧ Sort.scanUp (fun x => !ltC cf d'[lo]! x) d' j i' = Sort.scanUp (fun x => !ltC cf d'[lo]! x) d' j i) ?_
    (n := j + 2 - i) ⟨i, rfl, rfl, Nat.le_refl _, hij, rfl, rfl⟩
  rintro I8 m y hp ⟨i', rfl, rfl, h1, h2, rfl, h7⟩ hI8
  unfold F152_l8
  rw [← h7] at he
  have out : Sort.scanUp (fun x => !ltC cf d'[lo]! x) d' j i' = i' → F152_j9 (some ⟨b, 0, none⟩) n c lo (.func (.func f) ⟨ga⟩ ⟨gb⟩) i' j false (HA hp0 b 148 sp th d') I I8 K := by
    intro hq
    rw [hq] at he
    unfold F152_j9 F152_j4
    rw [ite2_false]
    refine LoopP.by (J := fun m (y : Int) hp => ∃ (j' : Nat), y = j' ∧ hp = HA hp0 b 148 sp th d' ∧ j' ≤ j ∧ m = j' ∧ Sort.scanDown (fun x => ltC cf d'[lo]! x) d' i' j' = Sort.scanDown (fun x => ltC cf d'[lo]! x) d' i' j) ?_
      (n := j) ⟨j, rfl, rfl, Nat.le_refl _, rfl, rfl⟩
    rintro I6 m y hp ⟨j', rfl, rfl, g1, rfl, g7⟩ hI6
    unfold F152_l6
    rw [← g7] at he
    have out2 : Sort.scanDown (fun x => ltC cf d'[lo]! x) d' i' m = m → F152_j7 (some ⟨b, 0, none⟩) n c lo (.func (.func f) ⟨ga⟩ ⟨gb⟩) i' m false (HA hp0 b 148 sp th d') I I6 K := by
      intro hq2
      rw [hq2] at he
      unfold F152_j7 F152_j5
      rw [ite2_false]
      by_cases hgt : i' > m
      · rw [if_pos hgt] at he
        rw [decide_eq_true (by omega : (i' : Int) > (m : Int)), ite2_true]
        unfold F152_j2
        rw [← he] at h
        exact h
      · rw [if_neg hgt] at he
        rw [decide_eq_false (by omega : ¬ (i' : Int) > (m : Int)), ite2_false]
        refine swapP th_len th_one hs' (i := i') (j := m) rfl rfl (by omega) (by omega) ?_
        have v1 : IntKind.wrap .i64 ((i' : Int) + 1) = ((i' + 1 : Nat) : Int) := wi (by omega) (by omega)
        have v2 : IntKind.wrap .i64 ((m : Int) - 1) = ((m - 1 : Nat) : Int) := wi (by omega) (by omega)
        rw [v1, v2]
        exact hI (m - 1 + 1 - (i' + 1)) _ _ (by omega) ⟨i' + 1, m - 1, _, rfl, rfl, by rw [swp_size]; exact hs', by omega, by omega, by omega, rfl, he⟩
    by_cases hle : i' ≤ m
    · rw [decide_eq_true (by omega : (i' : Int) ≤ (m : Int)), ite2_true]
      refine cmpP hc th_len hs' (i := lo) (j := m) rfl rfl (by omega) (by omega) ?_
      have hl : decide (cf d'[lo]! d'[m]! < 0) = ltC cf d'[lo]! d'[m]! := rfl
      rw [hl]
      obtain ⟨m, rfl⟩ : ∃ m', m = m' + 1 := ⟨m - 1, by omega⟩
      cases hlt : ltC cf d'[lo]! d'[m + 1]!
      · refine out2 ?_
        rw [Sort.scanDown, hlt]
        simp
      · unfold F152_j7
        have v2 : IntKind.wrap .i64 (((m + 1 : Nat) : Int) - 1) = (m : Int) := wi (by omega) (by omega)
        rw [ite2_true, v2]
        refine hI6 m _ _ (by omega) ⟨m, rfl, rfl, by omega, rfl, ?_⟩
        rw [← g7, Sort.scanDown.eq_def _ _ _ (m + 1)]
        simp only [hlt, decide_eq_true hle, Bool.and_self, if_true]
    · rw [decide_eq_false (by omega : ¬ (i' : Int) ≤ (m : Int)), ite2_false]
      refine out2 ?_
      cases m with
      | zero => rw [Sort.scanDown]
      | succ m => rw [Sort.scanDown, decide_eq_false hle]; simp
  by_cases hle : i' ≤ j
  · rw [decide_eq_true (by omega : (i' : Int) ≤ (j : Int)), ite2_true]
    refine cmpP hc th_len hs' (i := lo) (j := i') rfl rfl (by omega) (by omega) ?_
    have hl : decide (cf d'[lo]! d'[i']! < 0) = ltC cf d'[lo]! d'[i']! := rfl
    rw [hl]
    cases hlt : ltC cf d'[lo]! d'[i']!
    · unfold F152_j9
      have v2 : IntKind.wrap .i64 ((i' : Int) + 1) = ((i' + 1 : Nat) : Int) := wi (by omega) (by omega)
      simp only [Bool.not_false, ite2_true, v2]
      refine hI8 (j + 2 - (i' + 1)) _ _ (by omega) ⟨i' + 1, rfl, rfl, by omega, by omega, rfl, ?_⟩
      rw [← h7, Sort.scanUp.eq_def _ _ _ i']
      simp only [hlt, decide_eq_true hle, Bool.not_false, Bool.and_self, if_true]
    · simp only [Bool.not_true]
      refine out ?_
      rw [Sort.scanUp, hlt]
      simp
  · rw [decide_eq_false (by omega : ¬ (i' : Int) ≤ (j : Int)), ite2_false]
    refine out ?_
    rw [Sort.scanUp, decide_eq_false hle]
    simp

end
end Go.Proofs

