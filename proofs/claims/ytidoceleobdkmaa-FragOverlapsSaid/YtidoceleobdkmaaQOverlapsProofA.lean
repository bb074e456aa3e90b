/- Parts of the proof of OverlapsProof: the logic of what is known of memory, functions' contracts. -/
import Derived.Test.YtidoceleobdkmaaHlAbb
import Derived.Test.YtidoceleobdkmaaHlSort
import Derived.Test.YtidoceleobdkmaaHlAbb
import Derived.Test.YtidoceleobdkmaaProg
namespace Go.HL
open Go

/-- The comparison that a sort is handed: whatever the row holds. -/
def CmpOk {α : Type} [Inhabited α] (P : Program) (f : FuncId) (ga gb : List Value) (hp0 : HP) (b : Nat) (e : TypeId) (sp : Nat) (en : α → List Value) (n : Nat) (cf : α → α → Int) : Prop :=
  ∀ (d : Array α) (x y : α) (K : Value → HP → Prop), d.size = n → K (.int .i64 (cf x y)) (HA hp0 b e sp en d) → CF P f (ga ++ [.agg ⟨en x⟩, .agg ⟨en y⟩] ++ gb) (HA hp0 b e sp en d) K

def ltC {α : Type} (cf : α → α → Int) (x y : α) : Bool := decide (cf x y < 0)
theorem swp_size {α : Type} [Inhabited α] (d : Array α) (i j : Nat) : (Sort.swp d i j).size = d.size := by simp [Sort.swp]
end Go.HL

set_option linter.unusedVariables false
set_option maxRecDepth 20000
namespace Go.Proofs
open Go Go.HL
-- 96 cmp.Or[int]
section
variable (e : Env) (x0a : Option Addr) (x0n x0c : Nat) (x3 x5 : Int) (x6a : Option Addr) (x6n x6c : Nat) (x7 x8 : Int) (hp : HP) (K : Env → PV → HP → Prop)
abbrev R96 (p : List Nat) (n : Nat) := RW Try.prog 18 [] (opsAt Try.f96 p) (List.range n)
theorem F96_r0 : R96 [0] 1 e V0 hp K =
    (K (upd e 2 (sI 0)) V0 hp) := by kernel_rfl
theorem F96_r1 : R96 [1, 0] 1 e V0 hp K =
    (K (upd e 3 (sI 0)) V0 hp) := by kernel_rfl
theorem F96_r2 : R96 [1, 1, 1, 0] 2 (upd e 3 (sI x3)) V0 hp K =
    (K (upd (upd (upd e 3 (sI x3)) 17 (sI x3)) 2 (sI x3)) V0 hp) := by kernel_rfl
def F96_j1 (x3 : Int) (hp : HP) (K : Value → HP → Prop) : Prop :=
  (K (.int .i64 x3) hp)
theorem F96_r3 : R96 [1, 1, 0, 1, 0, 0, 0] 1 (upd (upd e 8 (sI x8)) 7 (sI x7)) V0 hp K =
    (K (upd (upd (upd e 8 (sI x8)) 7 (sI x7)) 9 (sB (decide (x8 < x7)))) V0 hp) := by kernel_rfl
theorem F96_r4 : R96 [1, 1, 0, 1, 0, 0, 1, 1, 0, 0, 0] 3 (upd (upd e 8 (sI x8)) 6 (sS x6a x6n x6c)) V0 hp K =
    ((0 ≤ x8) ∧ (x8 < x6n) ∧ (ptrN x6a fun b1 o2 => (ldV (HP.cell hp b1 (o2 + Int.toNat x8 * 1)) fun v3 => (intV v3 .i64 fun i4 => (K (upd (upd (upd (upd (upd e 8 (sI x8)) 6 (sS x6a x6n x6c)) 10 (sQ b1 (o2 + Int.toNat x8 * 1))) 11 (sI i4)) 5 (sI i4)) V0 hp))))) := by kernel_rfl
theorem F96_r5 : R96 [1, 1, 0, 1, 0, 0, 1, 1, 0, 0, 1, 0] 3 (upd (upd e 5 (sI x5)) 3 (sI x3)) V0 hp K =
    (K (upd (upd (upd (upd (upd e 5 (sI x5)) 3 (sI x3)) 12 (sI x5)) 13 (sI x3)) 14 (sB ((x5 != x3)))) V0 hp) := by kernel_rfl
theorem F96_r6 : R96 [1, 1, 0, 1, 0, 0, 1, 1, 0, 0, 1, 1, 0, 0] 2 (upd e 5 (sI x5)) V0 hp K =
    (K (upd (upd (upd e 5 (sI x5)) 15 (sI x5)) 2 (sI x5)) V0 hp) := by kernel_rfl
theorem F96_r7 : R96 [1, 1, 0, 1, 0, 0, 1, 1, 1] 2 (upd e 8 (sI x8)) V0 hp K =
    (K (upd (upd (upd e 8 (sI x8)) 16 (sI ((wr (x8 + 1))))) 8 (sI ((wr (x8 + 1))))) V0 hp) := by kernel_rfl
def F96_l3 (x3 : Int) (x6a : Option Addr) (x6n : Nat) (x6c : Nat) (x7 : Int) (K : Value → HP → Prop) (I3 : (Int) → HP → Prop) (x8 : Int) (hp : HP) : Prop :=
  (ite2 (decide (x8 < x7)) ((0 ≤ x8) ∧ (x8 < x6n) ∧ (ptrN x6a fun b_1 o_2 => (ldV (HP.cell hp b_1 (o_2 + Int.toNat x8 * 1)) fun v_3 => (intV v_3 .i64 fun i_4 => (ite2 (i_4 != x3) (K (.int .i64 i_4) hp) (I3 (IntKind.wrap .i64 (x8 + 1)) hp)))))) (F96_j1 x3 hp  K))
def F96_j2 (x3 : Int) (x6a : Option Addr) (x6n : Nat) (x6c : Nat) (x7 : Int) (x8 : Int) (hp : HP) (K : Value → HP → Prop) : Prop :=
  (LoopP (σ := Int) (fun I s hp => F96_l3 x3 x6a x6n x6c x7  K I s hp) x8 hp)
theorem F96_r8 : R96 [1, 1, 0, 0] 3 (upd e 0 (sS x0a x0n x0c)) V0 hp K =
    (K (upd (upd (upd (upd e 0 (sS x0a x0n x0c)) 6 (sS x0a x0n x0c)) 7 (sI ((x0n : Nat)))) 8 (sI 0)) V0 hp) := by kernel_rfl
def F96 (x0a : Option Addr) (x0n : Nat) (x0c : Nat) (hp : HP) (K : Value → HP → Prop) : Prop :=
  (F96_j2 0 x0a x0n x0c (x0n : Nat) 0 hp  K)
noncomputable def F96_code : Code := (.seq (.region 0 (opsAt Try.f96 [0]) false) (.seq (.region 1 (opsAt Try.f96 [1, 0]) false) (.seq (.seq (.region 2 (opsAt Try.f96 [1, 1, 0, 0]) false) (.block 0 (.loop (.seq (.region 3 (opsAt Try.f96 [1, 1, 0, 1, 0, 0, 0]) false) (.seq (.cond (.tmp 9) .skip (.exit 0)) (.seq (.block 1 (.seq (.region 4 (opsAt Try.f96 [1, 1, 0, 1, 0, 0, 1, 1, 0, 0, 0]) false) (.seq (.region 5 (opsAt Try.f96 [1, 1, 0, 1, 0, 0, 1, 1, 0, 0, 1, 0]) false) (.cond (.tmp 14) (.seq (.region 6 (opsAt Try.f96 [1, 1, 0, 1, 0, 0, 1, 1, 0, 0, 1, 1, 0, 0]) false) .ret) .skip)))) (.region 7 (opsAt Try.f96 [1, 1, 0, 1, 0, 0, 1, 1, 1]) false))))))) (.seq (.region 8 (opsAt Try.f96 [1, 1, 1, 0]) false) .ret))))
theorem F96_body : Try.f96.body = some F96_code := by kernel_rfl
theorem F96_ok (x0a : Option Addr) (x0n : Nat) (x0c : Nat) (hp : HP) (K : Value → HP → Prop) (h : F96 x0a x0n x0c hp K) : CF Try.prog 96 [(.slice x0a x0n x0c)] hp K := by
 refine .inl ⟨by kernel_rfl, AC.intro (N := 18) Try.func96 F96_body rfl (Nat.le_of_ble_eq_true rfl) ?_⟩
 unfold F96 at h
 unfold F96_code
 refine AWP.seq' ?_
 refine AWP.rgn (F96_r0 (upd E0 0 (sS x0a x0n x0c))  hp _) ?_ (Ru 0 Rn) (Sc rfl Sn) Sn
 refine AWP.seq' ?_
 refine AWP.rgn (F96_r1 (upd E0 0 (sS x0a x0n x0c))  hp _) ?_ (Ru 0 Rn) (Sc rfl Sn) Sn
 refine AWP.seq (fun env pv hp => ∃ (x3 : Int), Sub (upd E0 3 (sI x3)) env ∧ Sub V0 pv ∧ (F96_j1 x3 hp  K)) ?_ ?_
 ·refine AWP.seq (fun env pv hp => ∃ (x3 : Int) (x6a : Option Addr) (x6n : Nat) (x6c : Nat) (x7 : Int) (x8 : Int), Sub (upd (upd (upd (upd E0 8 (sI x8)) 7 (sI x7)) 6 (sS x6a x6n x6c)) 3 (sI x3)) env ∧ Sub V0 pv ∧ (F96_j2 x3 x6a x6n x6c x7 x8 hp  K)) ?_ ?_
  ·refine AWP.rgn (F96_r8 (upd E0 3 (sI 0)) x0a x0n x0c hp _) ?_ (Ru 0 (Ru 3 Rn)) (Sc rfl (Sc rfl Sn)) Sn
   exact ⟨0, x0a, x0n, x0c, (x0n : Nat), 0, (Sc rfl (Sc rfl (Sc rfl (Sc rfl Sn)))), Sn, h⟩
  ·rintro env pv hp ⟨x3, x6a, x6n, x6c, x7, x8, he, hv, h⟩
   refine AWP.sub (env' := (upd (upd (upd (upd E0 8 (sI x8)) 7 (sI x7)) 6 (sS x6a x6n x6c)) 3 (sI x3))) (pv' := V0) ?_ (Ru 3 (Ru 6 (Ru 7 (Ru 8 Rn)))) he hv (HSub.refl _)
   clear he hv
   unfold F96_j2 at h
   refine AWP.block ?_
   refine AWP.loop (σ := Int) (fun I s hp => F96_l3 x3 x6a x6n x6c x7  K I s hp) (fun s => (upd (upd (upd (upd E0 8 (sI s)) 7 (sI x7)) 6 (sS x6a x6n x6c)) 3 (sI x3))) (fun s => V0) x8 h (fun s => (Ru 3 (Ru 6 (Ru 7 (Ru 8 Rn))))) (Sc rfl (Sc rfl (Sc rfl (Sc rfl Sn)))) Sn ?_
   intro I3 s hp h
   obtain ⟨x8, hs⟩ : ∃ x, x = s := ⟨s, rfl⟩
   subst hs
   replace h : F96_l3 x3 x6a x6n x6c x7  K I3 x8 hp := h
   unfold F96_l3 at h
   refine AWP.seq' ?_
   refine AWP.rgn (F96_r3 (upd (upd E0 6 (sS x6a x6n x6c)) 3 (sI x3)) x7 x8 hp _) ?_ (Ru 7 (Ru 8 (Ru 3 (Ru 6 Rn)))) (Sc rfl (Sc rfl (Sc rfl (Sc rfl Sn)))) Sn
   refine AWP.seq' ?_
   refine AWP.cond (t := (decide (x8 < x7))) rfl (fun e => ?_) (fun e => ?_)
   ·replace h := ite2_t h e
    refine AWP.skip ?_
    refine AWP.seq' ?_
    refine AWP.block ?_
    refine AWP.seq' ?_
    refine AWP.rgn (F96_r4 (upd (upd E0 7 (sI x7)) 3 (sI x3)) x6a x6n x6c x8 hp _) ?_ (Ru 6 (Ru 8 (Ru 3 (Ru 7 Rn)))) (Sc rfl (Sc rfl (Sc rfl (Sc rfl Sn)))) Sn
    refine ⟨h.1, h.2.1, mN h.2.2 fun b_1 o_2 h => mV h fun v_3 h => mI h fun i_4 h => ?_⟩
    refine AWP.seq' ?_
    refine AWP.rgn (F96_r5 (upd (upd (upd E0 8 (sI x8)) 7 (sI x7)) 6 (sS x6a x6n x6c)) x3 i_4 hp _) ?_ (Ru 3 (Ru 5 (Ru 6 (Ru 7 (Ru 8 Rn))))) (Sc rfl (Sc rfl (Sc rfl (Sc rfl (Sc rfl Sn))))) Sn
    refine AWP.cond (t := (i_4 != x3)) rfl (fun e => ?_) (fun e => ?_)
    ·replace h := ite2_t h e
     refine AWP.seq' ?_
     refine AWP.rgn (F96_r6 E0 i_4 hp _) ?_ (Ru 5 Rn) (Sc rfl Sn) Sn
     refine AWP.ret ?_
     exact h
    ·replace h := ite2_f h e
     refine AWP.skip ?_
     refine AWP.rgn (F96_r7 (upd (upd (upd E0 7 (sI x7)) 6 (sS x6a x6n x6c)) 3 (sI x3)) x8 hp _) ?_ (Ru 8 (Ru 3 (Ru 6 (Ru 7 Rn)))) (Sc rfl (Sc rfl (Sc rfl (Sc rfl Sn)))) Sn
     exact ⟨(wr (x8 + 1)), (Sc rfl (Sc rfl (Sc rfl (Sc rfl Sn)))), Sn, h⟩
   ·replace h := ite2_f h e
    refine AWP.exit ?_
    exact ⟨x3, (Sc rfl Sn), Sn, h⟩
 ·rintro env pv hp ⟨x3, he, hv, h⟩
  refine AWP.sub (env' := (upd E0 3 (sI x3))) (pv' := V0) ?_ (Ru 3 Rn) he hv (HSub.refl _)
  clear he hv
  unfold F96_j1 at h
  refine AWP.seq' ?_
  refine AWP.rgn (F96_r2 E0 x3 hp _) ?_ (Ru 3 Rn) (Sc rfl Sn) Sn
  refine AWP.ret ?_
  exact h
end
-- 97 cmp.Compare[int]
section
variable (e : Env) (x0 x1 : Int) (x5 x6 : Bool) (hp : HP) (K : Env → PV → HP → Prop)
abbrev R97 (p : List Nat) (n : Nat) := RW Try.prog 20 [] (opsAt Try.f97 p) (List.range n)
theorem F97_r0 : R97 [0] 1 e V0 hp K =
    (K (upd e 4 (sI 0)) V0 hp) := by kernel_rfl
theorem F97_r1 : R97 [1, 0] 3 (upd e 0 (sI x0)) V0 hp K =
    (CF Try.prog 131 [(.int .i64 x0)] hp fun u1 h2 => (boolV u1 fun q3 => (K (upd (upd (upd (upd e 0 (sI x0)) 7 (sI x0)) 8 (sB q3)) 5 (sB q3)) V0 h2))) := by kernel_rfl
theorem F97_r2 : R97 [1, 1, 0] 3 (upd e 1 (sI x1)) V0 hp K =
    (CF Try.prog 131 [(.int .i64 x1)] hp fun u1 h2 => (boolV u1 fun q3 => (K (upd (upd (upd (upd e 1 (sI x1)) 9 (sI x1)) 10 (sB q3)) 6 (sB q3)) V0 h2))) := by kernel_rfl
theorem F97_r3 : R97 [1, 1, 1, 0, 0] 1 (upd e 5 (sB x5)) V0 hp K =
    (K (upd (upd e 5 (sB x5)) 11 (sB x5)) V0 hp) := by kernel_rfl
theorem F97_r4 : R97 [1, 1, 1, 0, 1, 0, 0, 0] 1 (upd e 6 (sB x6)) V0 hp K =
    (K (upd (upd e 6 (sB x6)) 12 (sB x6)) V0 hp) := by kernel_rfl
theorem F97_r5 : R97 [1, 1, 1, 0, 1, 0, 0, 1, 0, 0] 1 e V0 hp K =
    (K (upd e 4 (sI 0)) V0 hp) := by kernel_rfl
theorem F97_r6 : R97 [1, 1, 1, 0, 1, 0, 1, 0] 1 e V0 hp K =
    (K (upd e 4 (sI ((-1)))) V0 hp) := by kernel_rfl
theorem F97_r7 : R97 [1, 1, 1, 1, 0, 0] 1 (upd e 6 (sB x6)) V0 hp K =
    (K (upd (upd e 6 (sB x6)) 13 (sB x6)) V0 hp) := by kernel_rfl
theorem F97_r8 : R97 [1, 1, 1, 1, 0, 1, 0, 0] 1 e V0 hp K =
    (K (upd e 4 (sI 1)) V0 hp) := by kernel_rfl
theorem F97_r9 : R97 [1, 1, 1, 1, 1, 0, 0] 3 (upd (upd e 1 (sI x1)) 0 (sI x0)) V0 hp K =
    (K (upd (upd (upd (upd (upd e 1 (sI x1)) 0 (sI x0)) 14 (sI x0)) 15 (sI x1)) 16 (sB (decide (x0 < x1)))) V0 hp) := by kernel_rfl
theorem F97_r10 : R97 [1, 1, 1, 1, 1, 0, 1, 0, 0] 1 e V0 hp K =
    (K (upd e 4 (sI ((-1)))) V0 hp) := by kernel_rfl
theorem F97_r11 : R97 [1, 1, 1, 1, 1, 1, 0, 0] 3 (upd (upd e 1 (sI x1)) 0 (sI x0)) V0 hp K =
    (K (upd (upd (upd (upd (upd e 1 (sI x1)) 0 (sI x0)) 17 (sI x0)) 18 (sI x1)) 19 (sB (decide (x0 > x1)))) V0 hp) := by kernel_rfl
theorem F97_r12 : R97 [1, 1, 1, 1, 1, 1, 0, 1, 0, 0] 1 e V0 hp K =
    (K (upd e 4 (sI 1)) V0 hp) := by kernel_rfl
theorem F97_r13 : R97 [1, 1, 1, 1, 1, 1, 1, 0] 1 e V0 hp K =
    (K (upd e 4 (sI 0)) V0 hp) := by kernel_rfl
def F97 (x0 : Int) (x1 : Int) (hp : HP) (K : Value → HP → Prop) : Prop :=
  (CF Try.prog 131 [(.int .i64 x0)] hp fun u_1 h_2 => (boolV u_1 fun q_3 => (CF Try.prog 131 [(.int .i64 x1)] h_2 fun u_4 h_5 => (boolV u_4 fun q_6 => (ite2 q_3 (ite2 q_6 (K (.int .i64 0) h_5) (K (.int .i64 (-1)) h_5)) (ite2 q_6 (K (.int .i64 1) h_5) (ite2 (decide (x0 < x1)) (K (.int .i64 (-1)) h_5) (ite2 (decide (x0 > x1)) (K (.int .i64 1) h_5) (K (.int .i64 0) h_5)))))))))
noncomputable def F97_code : Code := (.seq (.region 0 (opsAt Try.f97 [0]) false) (.seq (.region 1 (opsAt Try.f97 [1, 0]) false) (.seq (.region 2 (opsAt Try.f97 [1, 1, 0]) false) (.seq (.seq (.region 3 (opsAt Try.f97 [1, 1, 1, 0, 0]) false) (.cond (.tmp 11) (.seq (.seq (.region 4 (opsAt Try.f97 [1, 1, 1, 0, 1, 0, 0, 0]) false) (.cond (.tmp 12) (.seq (.region 5 (opsAt Try.f97 [1, 1, 1, 0, 1, 0, 0, 1, 0, 0]) false) .ret) .skip)) (.seq (.region 6 (opsAt Try.f97 [1, 1, 1, 0, 1, 0, 1, 0]) false) .ret)) .skip)) (.seq (.seq (.region 7 (opsAt Try.f97 [1, 1, 1, 1, 0, 0]) false) (.cond (.tmp 13) (.seq (.region 8 (opsAt Try.f97 [1, 1, 1, 1, 0, 1, 0, 0]) false) .ret) .skip)) (.seq (.seq (.region 9 (opsAt Try.f97 [1, 1, 1, 1, 1, 0, 0]) false) (.cond (.tmp 16) (.seq (.region 10 (opsAt Try.f97 [1, 1, 1, 1, 1, 0, 1, 0, 0]) false) .ret) .skip)) (.seq (.seq (.region 11 (opsAt Try.f97 [1, 1, 1, 1, 1, 1, 0, 0]) false) (.cond (.tmp 19) (.seq (.region 12 (opsAt Try.f97 [1, 1, 1, 1, 1, 1, 0, 1, 0, 0]) false) .ret) .skip)) (.seq (.region 13 (opsAt Try.f97 [1, 1, 1, 1, 1, 1, 1, 0]) false) .ret))))))))
theorem F97_body : Try.f97.body = some F97_code := by kernel_rfl
theorem F97_ok (x0 : Int) (x1 : Int) (hp : HP) (K : Value → HP → Prop) (h : F97 x0 x1 hp K) : CF Try.prog 97 [(.int .i64 x0), (.int .i64 x1)] hp K := by
 refine .inl ⟨by kernel_rfl, AC.intro (N := 20) Try.func97 F97_body rfl (Nat.le_of_ble_eq_true rfl) ?_⟩
 unfold F97 at h
 unfold F97_code
 refine AWP.seq' ?_
 refine AWP.rgn (F97_r0 (upd (upd E0 1 (sI x1)) 0 (sI x0))  hp _) ?_ (Ru 0 (Ru 1 Rn)) (Sc rfl (Sc rfl Sn)) Sn
 refine AWP.seq' ?_
 refine AWP.rgn (F97_r1 (upd E0 1 (sI x1)) x0 hp _) ?_ (Ru 0 (Ru 1 Rn)) (Sc rfl (Sc rfl Sn)) Sn
 refine mC h fun u_1 h_2 h => mB h fun q_3 h => ?_
 refine AWP.seq' ?_
 refine AWP.rgn (F97_r2 (upd (upd E0 5 (sB q_3)) 0 (sI x0)) x1 h_2 _) ?_ (Ru 1 (Ru 0 (Ru 5 Rn))) (Sc rfl (Sc rfl (Sc rfl Sn))) Sn
 refine mC h fun u_4 h_5 h => mB h fun q_6 h => ?_
 refine AWP.seq' ?_
 refine AWP.seq' ?_
 refine AWP.rgn (F97_r3 (upd (upd (upd E0 6 (sB q_6)) 1 (sI x1)) 0 (sI x0)) q_3 h_5 _) ?_ (Ru 5 (Ru 0 (Ru 1 (Ru 6 Rn)))) (Sc rfl (Sc rfl (Sc rfl (Sc rfl Sn)))) Sn
 refine AWP.cond (t := q_3) rfl (fun e => ?_) (fun e => ?_)
 ·replace h := ite2_t h e
  refine AWP.seq' ?_
  refine AWP.seq' ?_
  refine AWP.rgn (F97_r4 E0 q_6 h_5 _) ?_ (Ru 6 Rn) (Sc rfl Sn) Sn
  refine AWP.cond (t := q_6) rfl (fun e => ?_) (fun e => ?_)
  ·replace h := ite2_t h e
   refine AWP.seq' ?_
   refine AWP.rgn (F97_r5 E0  h_5 _) ?_ Rn Sn Sn
   refine AWP.ret ?_
   exact h
  ·replace h := ite2_f h e
   refine AWP.skip ?_
   refine AWP.seq' ?_
   refine AWP.rgn (F97_r6 E0  h_5 _) ?_ Rn Sn Sn
   refine AWP.ret ?_
   exact h
 ·replace h := ite2_f h e
  refine AWP.skip ?_
  refine AWP.seq' ?_
  refine AWP.seq' ?_
  refine AWP.rgn (F97_r7 (upd (upd E0 1 (sI x1)) 0 (sI x0)) q_6 h_5 _) ?_ (Ru 6 (Ru 0 (Ru 1 Rn))) (Sc rfl (Sc rfl (Sc rfl Sn))) Sn
  refine AWP.cond (t := q_6) rfl (fun e => ?_) (fun e => ?_)
  ·replace h := ite2_t h e
   refine AWP.seq' ?_
   refine AWP.rgn (F97_r8 E0  h_5 _) ?_ Rn Sn Sn
   refine AWP.ret ?_
   exact h
  ·replace h := ite2_f h e
   refine AWP.skip ?_
   refine AWP.seq' ?_
   refine AWP.seq' ?_
   refine AWP.rgn (F97_r9 E0 x0 x1 h_5 _) ?_ (Ru 0 (Ru 1 Rn)) (Sc rfl (Sc rfl Sn)) Sn
   refine AWP.cond (t := (decide (x0 < x1))) rfl (fun e => ?_) (fun e => ?_)
   ·replace h := ite2_t h e
    refine AWP.seq' ?_
    refine AWP.rgn (F97_r10 E0  h_5 _) ?_ Rn Sn Sn
    refine AWP.ret ?_
    exact h
   ·replace h := ite2_f h e
    refine AWP.skip ?_
    refine AWP.seq' ?_
    refine AWP.seq' ?_
    refine AWP.rgn (F97_r11 E0 x0 x1 h_5 _) ?_ (Ru 0 (Ru 1 Rn)) (Sc rfl (Sc rfl Sn)) Sn
    refine AWP.cond (t := (decide (x0 > x1))) rfl (fun e => ?_) (fun e => ?_)
    ·replace h := ite2_t h e
     refine AWP.seq' ?_
     refine AWP.rgn (F97_r12 E0  h_5 _) ?_ Rn Sn Sn
     refine AWP.ret ?_
     exact h
    ·replace h := ite2_f h e
     refine AWP.skip ?_
     refine AWP.seq' ?_
     refine AWP.rgn (F97_r13 E0  h_5 _) ?_ Rn Sn Sn
     refine AWP.ret ?_
     exact h
end
-- 131 cmp.isNaN[int]
section
variable (e : Env) (x0 : Int) (hp : HP) (K : Env → PV → HP → Prop)
abbrev R131 (p : List Nat) (n : Nat) := RW Try.prog 6 [] (opsAt Try.f131 p) (List.range n)
theorem F131_r0 : R131 [0] 1 e V0 hp K =
    (K (upd e 2 (sB false)) V0 hp) := by kernel_rfl
theorem F131_r1 : R131 [1, 0] 4 (upd e 0 (sI x0)) V0 hp K =
    (K (upd (upd (upd (upd (upd e 0 (sI x0)) 3 (sI x0)) 4 (sI x0)) 5 (sB ((x0 != x0)))) 2 (sB ((x0 != x0)))) V0 hp) := by kernel_rfl
def F131 (x0 : Int) (hp : HP) (K : Value → HP → Prop) : Prop :=
  (K (.bool (x0 != x0)) hp)
noncomputable def F131_code : Code := (.seq (.region 0 (opsAt Try.f131 [0]) false) (.seq (.region 1 (opsAt Try.f131 [1, 0]) false) .ret))
theorem F131_body : Try.f131.body = some F131_code := by kernel_rfl
theorem F131_ok (x0 : Int) (hp : HP) (K : Value → HP → Prop) (h : F131 x0 hp K) : CF Try.prog 131 [(.int .i64 x0)] hp K := by
 refine .inl ⟨by kernel_rfl, AC.intro (N := 6) Try.func131 F131_body rfl (Nat.le_of_ble_eq_true rfl) ?_⟩
 unfold F131 at h
 unfold F131_code
 refine AWP.seq' ?_
 refine AWP.rgn (F131_r0 (upd E0 0 (sI x0))  hp _) ?_ (Ru 0 Rn) (Sc rfl Sn) Sn
 refine AWP.seq' ?_
 refine AWP.rgn (F131_r1 E0 x0 hp _) ?_ (Ru 0 Rn) (Sc rfl Sn) Sn
 refine AWP.ret ?_
 exact h
end
end Go.Proofs

