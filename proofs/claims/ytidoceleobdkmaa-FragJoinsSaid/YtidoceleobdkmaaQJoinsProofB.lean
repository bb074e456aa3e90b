/- Parts of the proof of JoinsProof: the logic of what is known of memory, functions' contracts. -/
import Derived.Test.YtidoceleobdkmaaQJoinsProofA
import Derived.Test.YtidoceleobdkmaaHlAbb
import Derived.Test.YtidoceleobdkmaaProg
set_option linter.unusedVariables false
set_option maxRecDepth 20000
namespace Go.Proofs
open Go Go.HL
-- 25 interpreter/frag.New
section
variable (e : Env) (x0 x1 : Int) (hp : HP) (K : Env → PV → HP → Prop)
abbrev R25 (p : List Nat) (n : Nat) := RW Try.prog 26 [] (opsAt Try.f25 p) (List.range n)
theorem F25_r0 : R25 [0] 2 e V0 hp K =
    (K (upd (upd e 4 (sP none)) 5 (sI 0)) V0 hp) := by kernel_rfl
theorem F25_r1 : R25 [1, 0, 1, 0, 0] 2 e V0 hp K =
    (K (upd (upd e 4 (sP none)) 5 (sI 1)) V0 hp) := by kernel_rfl
theorem F25_r2 : R25 [1, 1, 0] 8 (upd (upd e 1 (sI x1)) 0 (sI x0)) V0 hp K =
    (∀ b1 : Nat, hp b1 = .none → (∀ b2 : Nat, (HP.set hp b1 (.obj (.map #[] 0))) b2 = .none → (∀ b3 : Nat, (HP.set (HP.set hp b1 (.obj (.map #[] 0))) b2 (.obj (.map #[] 0))) b3 = .none → (K (upd (upd (upd (upd (upd (upd (upd (upd (upd (upd e 1 (sI x1)) 0 (sI x0)) 20 (sI x0)) 21 (sI x1)) 22 (sV (.map (some b1)))) 23 (sV (.map (some b2)))) 24 (sV (.agg ⟨[(.int .i64 x0), (.int .i64 x1), .int .i64 0, .int .i64 0, (.map (some b1)), (.map (some b2))]⟩))) 25 (sQ b3 0)) 4 (sQ b3 0)) 5 (sI 0)) V0 (HP.set (HP.set (HP.set hp b1 (.obj (.map #[] 0))) b2 (.obj (.map #[] 0))) b3 (.cells 130 [(.int .i64 x0), (.int .i64 x1), .int .i64 0, .int .i64 0, (.map (some b1)), (.map (some b2))] 0)))))) := by kernel_rfl
def F25_j1 (x0 : Int) (x1 : Int) (x19 : Bool) (hp : HP) (K : Value → HP → Prop) : Prop :=
  (ite2 x19 (K (.tuple ⟨[(.pointer none), (.int .i64 1)]⟩) hp) (∀ b_1 : Nat, hp b_1 = .none → (∀ b_2 : Nat, (HP.set hp b_1 (.obj (.map #[] 0))) b_2 = .none → (∀ b_3 : Nat, (HP.set (HP.set hp b_1 (.obj (.map #[] 0))) b_2 (.obj (.map #[] 0))) b_3 = .none → (K (.tuple ⟨[(ptr b_3 0), .int .i64 0]⟩) (HP.set (HP.set (HP.set hp b_1 (.obj (.map #[] 0))) b_2 (.obj (.map #[] 0))) b_3 (.cells 130 [(.int .i64 x0), (.int .i64 x1), .int .i64 0, .int .i64 0, (.map (some b_1)), (.map (some b_2))] 0)))))))
theorem F25_r3 : R25 [1, 0, 0] 14 (upd (upd e 1 (sI x1)) 0 (sI x0)) V0 hp K =
    (ite2 (decide (x0 < 1)) (K (upd (upd (upd (upd (upd (upd (upd (upd (upd (upd (upd (upd (upd (upd (upd (upd e 1 (sI x1)) 0 (sI x0)) 6 (sI x0)) 7 (sB (decide (x0 < 1)))) 8 (sB true)) 9 sU) 10 sU) 11 (sB true)) 12 (sB true)) 13 sU) 14 sU) 15 (sB true)) 16 (sB true)) 17 sU) 18 sU) 19 (sB true)) V0 hp) (ite2 (decide (x0 > 65536)) (K (upd (upd (upd (upd (upd (upd (upd (upd (upd (upd (upd (upd (upd (upd (upd (upd e 1 (sI x1)) 0 (sI x0)) 6 (sI x0)) 7 (sB (decide (x0 < 1)))) 8 (sB false)) 9 (sI x0)) 10 (sB (decide (x0 > 65536)))) 11 (sB (decide (x0 > 65536)))) 12 (sB true)) 13 sU) 14 sU) 15 (sB true)) 16 (sB true)) 17 sU) 18 sU) 19 (sB true)) V0 hp) (ite2 (decide (x1 < 1)) (K (upd (upd (upd (upd (upd (upd (upd (upd (upd (upd (upd (upd (upd (upd (upd (upd e 1 (sI x1)) 0 (sI x0)) 6 (sI x0)) 7 (sB (decide (x0 < 1)))) 8 (sB false)) 9 (sI x0)) 10 (sB (decide (x0 > 65536)))) 11 (sB (decide (x0 > 65536)))) 12 (sB false)) 13 (sI x1)) 14 (sB (decide (x1 < 1)))) 15 (sB (decide (x1 < 1)))) 16 (sB true)) 17 sU) 18 sU) 19 (sB true)) V0 hp) (K (upd (upd (upd (upd (upd (upd (upd (upd (upd (upd (upd (upd (upd (upd (upd (upd e 1 (sI x1)) 0 (sI x0)) 6 (sI x0)) 7 (sB (decide (x0 < 1)))) 8 (sB false)) 9 (sI x0)) 10 (sB (decide (x0 > 65536)))) 11 (sB (decide (x0 > 65536)))) 12 (sB false)) 13 (sI x1)) 14 (sB (decide (x1 < 1)))) 15 (sB (decide (x1 < 1)))) 16 (sB false)) 17 (sI x1)) 18 (sB (decide (x1 > 65536)))) 19 (sB (decide (x1 > 65536)))) V0 hp)))) := by kernel_rfl
def F25 (x0 : Int) (x1 : Int) (hp : HP) (K : Value → HP → Prop) : Prop :=
  (ite2 (decide (x0 < 1)) (F25_j1 x0 x1 true hp  K) (ite2 (decide (x0 > 65536)) (F25_j1 x0 x1 true hp  K) (ite2 (decide (x1 < 1)) (F25_j1 x0 x1 true hp  K) (F25_j1 x0 x1 (decide (x1 > 65536)) hp  K))))
noncomputable def F25_code : Code := (.seq (.region 0 (opsAt Try.f25 [0]) false) (.seq (.seq (.region 1 (opsAt Try.f25 [1, 0, 0]) false) (.cond (.tmp 19) (.seq (.region 2 (opsAt Try.f25 [1, 0, 1, 0, 0]) false) .ret) .skip)) (.seq (.region 3 (opsAt Try.f25 [1, 1, 0]) false) .ret)))
theorem F25_body : Try.f25.body = some F25_code := by kernel_rfl
theorem F25_ok (x0 : Int) (x1 : Int) (hp : HP) (K : Value → HP → Prop) (h : F25 x0 x1 hp K) : CF Try.prog 25 [(.int .i64 x0), (.int .i64 x1)] hp K := by
 refine .inl ⟨by kernel_rfl, AC.intro (N := 26) Try.func25 F25_body rfl (Nat.le_of_ble_eq_true rfl) ?_⟩
 unfold F25 at h
 unfold F25_code
 refine AWP.seq' ?_
 refine AWP.rgn (F25_r0 (upd (upd E0 1 (sI x1)) 0 (sI x0))  hp _) ?_ (Ru 0 (Ru 1 Rn)) (Sc rfl (Sc rfl Sn)) Sn
 refine AWP.seq' ?_
 refine AWP.seq (fun env pv hp => ∃ (x0 : Int) (x1 : Int) (x19 : Bool), Sub (upd (upd (upd E0 19 (sB x19)) 1 (sI x1)) 0 (sI x0)) env ∧ Sub V0 pv ∧ (F25_j1 x0 x1 x19 hp  K)) ?_ ?_
 ·refine AWP.rgn (F25_r3 E0 x0 x1 hp _) ?_ (Ru 0 (Ru 1 Rn)) (Sc rfl (Sc rfl Sn)) Sn
  refine mt h (fun h => ?_) (fun h => ?_)
  ·exact ⟨x0, x1, true, (Sc rfl (Sc rfl (Sc rfl Sn))), Sn, h⟩
  ·refine mt h (fun h => ?_) (fun h => ?_)
   ·exact ⟨x0, x1, true, (Sc rfl (Sc rfl (Sc rfl Sn))), Sn, h⟩
   ·refine mt h (fun h => ?_) (fun h => ?_)
    ·exact ⟨x0, x1, true, (Sc rfl (Sc rfl (Sc rfl Sn))), Sn, h⟩
    ·exact ⟨x0, x1, (decide (x1 > 65536)), (Sc rfl (Sc rfl (Sc rfl Sn))), Sn, h⟩
 ·rintro env pv hp ⟨x0, x1, x19, he, hv, h⟩
  refine AWP.sub (env' := (upd (upd (upd E0 19 (sB x19)) 1 (sI x1)) 0 (sI x0))) (pv' := V0) ?_ (Ru 0 (Ru 1 (Ru 19 Rn))) he hv (HSub.refl _)
  clear he hv
  unfold F25_j1 at h
  refine AWP.cond (t := x19) rfl (fun e => ?_) (fun e => ?_)
  ·replace h := ite2_t h e
   refine AWP.seq' ?_
   refine AWP.rgn (F25_r1 E0  hp _) ?_ Rn Sn Sn
   refine AWP.ret ?_
   exact h
  ·replace h := ite2_f h e
   refine AWP.skip ?_
   refine AWP.seq' ?_
   refine AWP.rgn (F25_r2 E0 x0 x1 hp _) ?_ (Ru 0 (Ru 1 Rn)) (Sc rfl (Sc rfl Sn)) Sn
   refine fun b_1 hb_b_1 => ?_
   replace h := h b_1 hb_b_1
   refine fun b_2 hb_b_2 => ?_
   replace h := h b_2 hb_b_2
   refine fun b_3 hb_b_3 => ?_
   replace h := h b_3 hb_b_3
   refine AWP.ret ?_
   exact h
end
-- 26 (*interpreter/frag.Store).Put
section
variable (e : Env) (x0 : Option Addr) (x1 : List Value) (x2 : Int) (x7 : Bool) (x9 : Option Addr) (x10 : Bool) (k4 k6 : List Value) (hp : HP) (K : Env → PV → HP → Prop)
abbrev R26 (p : List Nat) (n : Nat) := RW Try.prog 129 [4, 6, 33, 57, 64, 69, 73, 75, 77, 96, 114, 117, 124] (opsAt Try.f26 p) (List.range n)
theorem F26_r0 : R26 [0] 4 (upd e 1 (sA x1)) V0 hp K =
    (K (upd (upd (upd (upd (upd e 1 (sA x1)) 4 (sR 4 0)) 6 (sR 6 0)) 7 (sB false)) 8 (sI 0)) (upd (upd V0 4 (29, x1)) 6 (36, [.string ⟨#[]⟩, .string ⟨#[]⟩, .string ⟨#[]⟩, .int .i64 0])) hp) := by kernel_rfl
theorem F26_r1 : R26 [1, 0, 0, 0] 3 (upd e 0 (sP x0)) (upd (upd V0 6 (36, k6)) 4 (29, k4)) hp K =
    (CF Try.prog 75 [(.pointer x0)] hp fun u1 h2 => (boolV u1 fun q3 => (K (upd (upd (upd (upd e 0 (sP x0)) 12 (sP x0)) 13 (sB q3)) 11 (sB q3)) (upd (upd V0 6 (36, k6)) 4 (29, k4)) h2))) := by kernel_rfl
theorem F26_r2 : R26 [1, 0, 0, 1, 0, 0] 4 (upd e 6 (sR 6 0)) (upd V0 6 (36, k6)) hp K =
    (if List.length [(Value.string ⟨#[]⟩), .string ⟨#[]⟩, .string ⟨#[]⟩, .int .i64 0] = 4 then (if List.all [(Value.string ⟨#[]⟩), .string ⟨#[]⟩, .string ⟨#[]⟩, .int .i64 0] one = true then (if 0 + List.length [(Value.string ⟨#[]⟩), .string ⟨#[]⟩, .string ⟨#[]⟩, .int .i64 0] ≤ List.length k6 then (K (upd (upd (upd (upd e 6 (sR 6 0)) 14 (sV (.agg ⟨[.string ⟨#[]⟩, .string ⟨#[]⟩, .string ⟨#[]⟩, .int .i64 0]⟩))) 7 (sB false)) 8 (sI 2)) (upd (upd V0 6 (36, k6)) 6 (36, (splice k6 0 [.string ⟨#[]⟩, .string ⟨#[]⟩, .string ⟨#[]⟩, .int .i64 0]))) hp) else False) else False) else False) := by kernel_rfl
theorem F26_r3 : R26 [1, 0, 0, 1, 1, 1, 0, 0] 4 (upd e 6 (sR 6 0)) (upd V0 6 (36, k6)) hp K =
    (if List.length [(Value.string ⟨#[]⟩), .string ⟨#[]⟩, .string ⟨#[]⟩, .int .i64 0] = 4 then (if List.all [(Value.string ⟨#[]⟩), .string ⟨#[]⟩, .string ⟨#[]⟩, .int .i64 0] one = true then (if 0 + List.length [(Value.string ⟨#[]⟩), .string ⟨#[]⟩, .string ⟨#[]⟩, .int .i64 0] ≤ List.length k6 then (K (upd (upd (upd (upd e 6 (sR 6 0)) 22 (sV (.agg ⟨[.string ⟨#[]⟩, .string ⟨#[]⟩, .string ⟨#[]⟩, .int .i64 0]⟩))) 7 (sB false)) 8 (sI 1)) (upd (upd V0 6 (36, k6)) 6 (36, (splice k6 0 [.string ⟨#[]⟩, .string ⟨#[]⟩, .string ⟨#[]⟩, .int .i64 0]))) hp) else False) else False) else False) := by kernel_rfl
theorem F26_r4 : R26 [1, 0, 0, 1, 1, 1, 1, 0] 4 (upd e 4 (sR 4 0)) (upd (upd V0 6 (36, k6)) 4 (29, k4)) hp K =
    (ldL (cellsN k4 0 6) fun l1 => (CF Try.prog 67 [(.agg ⟨l1⟩)] hp fun u2 h3 => (boolV u2 fun q4 => (K (upd (upd (upd (upd (upd e 4 (sR 4 0)) 24 (sA l1)) 25 (sB q4)) 26 (sB ((!q4)))) 23 (sB ((!q4)))) (upd (upd V0 6 (36, k6)) 4 (29, k4)) h3)))) := by kernel_rfl
theorem F26_r5 : R26 [1, 0, 0, 1, 1, 1, 1, 1, 0, 0] 4 (upd e 6 (sR 6 0)) (upd V0 6 (36, k6)) hp K =
    (if List.length [(Value.string ⟨#[]⟩), .string ⟨#[]⟩, .string ⟨#[]⟩, .int .i64 0] = 4 then (if List.all [(Value.string ⟨#[]⟩), .string ⟨#[]⟩, .string ⟨#[]⟩, .int .i64 0] one = true then (if 0 + List.length [(Value.string ⟨#[]⟩), .string ⟨#[]⟩, .string ⟨#[]⟩, .int .i64 0] ≤ List.length k6 then (K (upd (upd (upd (upd e 6 (sR 6 0)) 27 (sV (.agg ⟨[.string ⟨#[]⟩, .string ⟨#[]⟩, .string ⟨#[]⟩, .int .i64 0]⟩))) 7 (sB false)) 8 (sI 8)) (upd (upd V0 6 (36, k6)) 6 (36, (splice k6 0 [.string ⟨#[]⟩, .string ⟨#[]⟩, .string ⟨#[]⟩, .int .i64 0]))) hp) else False) else False) else False) := by kernel_rfl
theorem F26_r6 : R26 [1, 1, 0] 12 (upd (upd e 4 (sR 4 0)) 0 (sP x0)) (upd (upd V0 6 (36, k6)) 4 (29, k4)) hp K =
    (ptrN x0 fun b1 o2 => (ldV (HP.cell hp b1 (o2 + 4)) fun v3 => (mapV v3 fun m4 => (ldV (k4)[0]? fun v5 => (strV v5 fun s6 => (rdS Try.prog (Instr.lookup 128 (.map m4) (.string s6) true) hp fun u7 => (tup2V u7 fun u8 u9 => (ptrV u8 fun p10 => (boolV u9 fun q11 => (K (upd (upd (upd (upd (upd (upd (upd (upd (upd (upd (upd (upd (upd (upd e 4 (sR 4 0)) 0 (sP x0)) 29 (sP x0)) 30 (sQ b1 o2)) 31 (sQ b1 (o2 + 4))) 32 (sV (.map m4))) 33 (sR 4 0)) 34 (sV (.string s6))) 35 (sV (.tuple ⟨[(.pointer p10), (.bool q11)]⟩))) 28 (sV (.tuple ⟨[(.pointer p10), (.bool q11)]⟩))) 36 (sP p10)) 37 (sB q11)) 9 (sP p10)) 10 (sB q11)) (upd (upd V0 6 (36, k6)) 4 (29, k4)) hp)))))))))) := by kernel_rfl
theorem F26_r7 : R26 [1, 1, 1, 0, 1, 0, 0] 4 (upd e 6 (sR 6 0)) (upd V0 6 (36, k6)) hp K =
    (if List.length [(Value.string ⟨#[]⟩), .string ⟨#[]⟩, .string ⟨#[]⟩, .int .i64 0] = 4 then (if List.all [(Value.string ⟨#[]⟩), .string ⟨#[]⟩, .string ⟨#[]⟩, .int .i64 0] one = true then (if 0 + List.length [(Value.string ⟨#[]⟩), .string ⟨#[]⟩, .string ⟨#[]⟩, .int .i64 0] ≤ List.length k6 then (K (upd (upd (upd (upd e 6 (sR 6 0)) 48 (sV (.agg ⟨[.string ⟨#[]⟩, .string ⟨#[]⟩, .string ⟨#[]⟩, .int .i64 0]⟩))) 7 (sB false)) 8 (sI 0)) (upd (upd V0 6 (36, k6)) 6 (36, (splice k6 0 [.string ⟨#[]⟩, .string ⟨#[]⟩, .string ⟨#[]⟩, .int .i64 0]))) hp) else False) else False) else False) := by kernel_rfl
theorem F26_r8 : R26 [1, 1, 1, 1, 0, 1, 0, 0] 4 (upd (upd e 4 (sR 4 0)) 0 (sP x0)) (upd (upd V0 6 (36, k6)) 4 (29, k4)) hp K =
    (ldV (k4)[0]? fun v1 => (strV v1 fun s2 => (CF Try.prog 79 [(.pointer x0), (.string s2)] hp fun u3 h4 => (K (upd (upd (upd (upd (upd (upd e 4 (sR 4 0)) 0 (sP x0)) 56 (sP x0)) 57 (sR 4 0)) 58 (sV (.string s2))) 59 (sV u3)) (upd (upd V0 6 (36, k6)) 4 (29, k4)) h4)))) := by kernel_rfl
theorem F26_r9 : R26 [1, 1, 1, 1, 0, 1, 0, 1, 0] 4 (upd e 6 (sR 6 0)) (upd V0 6 (36, k6)) hp K =
    (if List.length [(Value.string ⟨#[]⟩), .string ⟨#[]⟩, .string ⟨#[]⟩, .int .i64 0] = 4 then (if List.all [(Value.string ⟨#[]⟩), .string ⟨#[]⟩, .string ⟨#[]⟩, .int .i64 0] one = true then (if 0 + List.length [(Value.string ⟨#[]⟩), .string ⟨#[]⟩, .string ⟨#[]⟩, .int .i64 0] ≤ List.length k6 then (K (upd (upd (upd (upd e 6 (sR 6 0)) 60 (sV (.agg ⟨[.string ⟨#[]⟩, .string ⟨#[]⟩, .string ⟨#[]⟩, .int .i64 0]⟩))) 7 (sB false)) 8 (sI 5)) (upd (upd V0 6 (36, k6)) 6 (36, (splice k6 0 [.string ⟨#[]⟩, .string ⟨#[]⟩, .string ⟨#[]⟩, .int .i64 0]))) hp) else False) else False) else False) := by kernel_rfl
theorem F26_r10 : R26 [1, 1, 1, 1, 1, 0, 1, 0, 0] 10 (upd (upd e 6 (sR 6 0)) 4 (sR 4 0)) (upd (upd V0 6 (36, k6)) 4 (29, k4)) hp K =
    (ldV (k4)[0]? fun v1 => (strV v1 fun s2 => (ldV (k4)[5]? fun v3 => (strV v3 fun s4 => (ldV (k4)[4]? fun v5 => (strV v5 fun s6 => (if List.length [(Value.string s2), (.string s4), (.string s6), (.int .i64 1)] = 4 then (if List.all [(Value.string s2), (.string s4), (.string s6), (.int .i64 1)] one = true then (if 0 + List.length [(Value.string s2), (.string s4), (.string s6), (.int .i64 1)] ≤ List.length k6 then (K (upd (upd (upd (upd (upd (upd (upd (upd (upd (upd (upd e 6 (sR 6 0)) 4 (sR 4 0)) 73 (sR 4 0)) 74 (sV (.string s2))) 75 (sR 4 5)) 76 (sV (.string s4))) 77 (sR 4 4)) 78 (sV (.string s6))) 79 (sV (.agg ⟨[(.string s2), (.string s4), (.string s6), (.int .i64 1)]⟩))) 7 (sB true)) 8 (sI 0)) (upd (upd (upd V0 6 (36, k6)) 4 (29, k4)) 6 (36, (splice k6 0 [(.string s2), (.string s4), (.string s6), (.int .i64 1)]))) hp) else False) else False) else False))))))) := by kernel_rfl
theorem F26_r11 : R26 [1, 1, 1, 1, 1, 1, 0, 0, 0] 10 (upd e 0 (sP x0)) (upd (upd V0 6 (36, k6)) 4 (29, k4)) hp K =
    (ptrN x0 fun b1 o2 => (ldV (HP.cell hp b1 (o2 + 3)) fun v3 => (intV v3 .i64 fun i4 => (ptrN x0 fun b5 o6 => (ldV (HP.cell hp b5 (o6 + 0)) fun v7 => (intV v7 .i64 fun i8 => (K (upd (upd (upd (upd (upd (upd (upd (upd (upd (upd (upd e 0 (sP x0)) 81 (sP x0)) 82 (sQ b1 o2)) 83 (sQ b1 (o2 + 3))) 84 (sI i4)) 85 (sP x0)) 86 (sQ b5 o6)) 87 (sQ b5 (o6 + 0))) 88 (sI i8)) 89 (sB (decide (i4 ≥ i8)))) 80 (sB (decide (i4 ≥ i8)))) (upd (upd V0 6 (36, k6)) 4 (29, k4)) hp))))))) := by kernel_rfl
theorem F26_r12 : R26 [1, 1, 1, 1, 1, 1, 0, 0, 1, 0, 0] 4 (upd e 6 (sR 6 0)) (upd V0 6 (36, k6)) hp K =
    (if List.length [(Value.string ⟨#[]⟩), .string ⟨#[]⟩, .string ⟨#[]⟩, .int .i64 0] = 4 then (if List.all [(Value.string ⟨#[]⟩), .string ⟨#[]⟩, .string ⟨#[]⟩, .int .i64 0] one = true then (if 0 + List.length [(Value.string ⟨#[]⟩), .string ⟨#[]⟩, .string ⟨#[]⟩, .int .i64 0] ≤ List.length k6 then (K (upd (upd (upd (upd e 6 (sR 6 0)) 90 (sV (.agg ⟨[.string ⟨#[]⟩, .string ⟨#[]⟩, .string ⟨#[]⟩, .int .i64 0]⟩))) 7 (sB false)) 8 (sI 6)) (upd (upd V0 6 (36, k6)) 6 (36, (splice k6 0 [.string ⟨#[]⟩, .string ⟨#[]⟩, .string ⟨#[]⟩, .int .i64 0]))) hp) else False) else False) else False) := by kernel_rfl
theorem F26_r13 : R26 [1, 1, 1, 1, 1, 1, 0, 0, 1, 1, 0] 13 (upd (upd e 4 (sR 4 0)) 0 (sP x0)) (upd (upd V0 6 (36, k6)) 4 (29, k4)) hp K =
    (ptrN x0 fun b1 o2 => (ldV (HP.cell hp b1 (o2 + 5)) fun v3 => (mapV v3 fun m4 => (ldV (k4)[1]? fun v5 => (strV v5 fun s6 => (rdS Try.prog (Instr.lookup 97 (.map m4) (.string s6) false) hp fun u7 => (intV u7 .i64 fun i8 => (ptrN x0 fun b9 o10 => (ldV (HP.cell hp b9 (o10 + 1)) fun v11 => (intV v11 .i64 fun i12 => (K (upd (upd (upd (upd (upd (upd (upd (upd (upd (upd (upd (upd (upd (upd (upd e 4 (sR 4 0)) 0 (sP x0)) 92 (sP x0)) 93 (sQ b1 o2)) 94 (sQ b1 (o2 + 5))) 95 (sV (.map m4))) 96 (sR 4 1)) 97 (sV (.string s6))) 98 (sI i8)) 99 (sP x0)) 100 (sQ b9 o10)) 101 (sQ b9 (o10 + 1))) 102 (sI i12)) 103 (sB (decide (i8 ≥ i12)))) 91 (sB (decide (i8 ≥ i12)))) (upd (upd V0 6 (36, k6)) 4 (29, k4)) hp))))))))))) := by kernel_rfl
theorem F26_r14 : R26 [1, 1, 1, 1, 1, 1, 0, 0, 1, 1, 1, 0, 0] 4 (upd e 6 (sR 6 0)) (upd V0 6 (36, k6)) hp K =
    (if List.length [(Value.string ⟨#[]⟩), .string ⟨#[]⟩, .string ⟨#[]⟩, .int .i64 0] = 4 then (if List.all [(Value.string ⟨#[]⟩), .string ⟨#[]⟩, .string ⟨#[]⟩, .int .i64 0] one = true then (if 0 + List.length [(Value.string ⟨#[]⟩), .string ⟨#[]⟩, .string ⟨#[]⟩, .int .i64 0] ≤ List.length k6 then (K (upd (upd (upd (upd e 6 (sR 6 0)) 104 (sV (.agg ⟨[.string ⟨#[]⟩, .string ⟨#[]⟩, .string ⟨#[]⟩, .int .i64 0]⟩))) 7 (sB false)) 8 (sI 11)) (upd (upd V0 6 (36, k6)) 6 (36, (splice k6 0 [.string ⟨#[]⟩, .string ⟨#[]⟩, .string ⟨#[]⟩, .int .i64 0]))) hp) else False) else False) else False) := by kernel_rfl
theorem F26_r15 : R26 [1, 1, 1, 1, 1, 1, 1, 0] 4 (upd (upd (upd e 4 (sR 4 0)) 2 (sI x2)) 0 (sP x0)) (upd (upd V0 6 (36, k6)) 4 (29, k4)) hp K =
    (ldL (cellsN k4 0 6) fun l1 => (CF Try.prog 80 [(.pointer x0), (.agg ⟨l1⟩), (.int .i64 x2)] hp fun u2 h3 => (K (upd (upd (upd (upd (upd (upd (upd e 4 (sR 4 0)) 2 (sI x2)) 0 (sP x0)) 105 (sP x0)) 106 (sA l1)) 107 (sI x2)) 108 (sV u2)) (upd (upd V0 6 (36, k6)) 4 (29, k4)) h3))) := by kernel_rfl
theorem F26_r16 : R26 [1, 1, 1, 1, 1, 1, 1, 1, 1, 0] 5 (upd (upd e 7 (sB x7)) 6 (sR 6 0)) (upd V0 6 (36, k6)) hp K =
    (ldL (cellsN k6 0 4) fun l1 => (if List.length l1 = 4 then (if List.all l1 one = true then (if 0 + List.length l1 ≤ List.length k6 then (K (upd (upd (upd (upd (upd (upd e 7 (sB x7)) 6 (sR 6 0)) 127 (sA l1)) 128 (sB x7)) 7 (sB x7)) 8 (sI 0)) (upd (upd V0 6 (36, k6)) 6 (36, (splice k6 0 l1))) hp) else False) else False) else False)) := by kernel_rfl
def F26_j5 (x7 : Bool) (k6 : List Value) (hp : HP) (K : Value → HP → Prop) : Prop :=
  (ldL (cellsN k6 0 4) fun l_60 => (if List.length l_60 = 4 then (if List.all l_60 one = true then (if 0 + List.length l_60 ≤ List.length k6 then (ldL (cellsN (splice k6 0 l_60) 0 4) fun l_61 => (K (.tuple ⟨[(.agg ⟨l_61⟩), (.bool x7), .int .i64 0]⟩) hp)) else False) else False) else False))
theorem F26_r17 : R26 [1, 1, 1, 1, 1, 1, 1, 1, 0, 0] 15 (upd (upd (upd e 6 (sR 6 0)) 4 (sR 4 0)) 0 (sP x0)) (upd (upd V0 6 (36, k6)) 4 (29, k4)) hp K =
    (ptrN x0 fun b1 o2 => (ldV (HP.cell hp b1 (o2 + 4)) fun v3 => (mapV v3 fun m4 => (ldV (k4)[0]? fun v5 => (strV v5 fun s6 => (rdS Try.prog (Instr.lookup 128 (.map m4) (.string s6) false) hp fun u7 => (ptrV u7 fun p8 => (ldV (k4)[0]? fun v9 => (strV v9 fun s10 => (CF Try.prog 81 [(.pointer p8), (.string s10)] hp fun u11 h12 => (tup2V u11 fun u13 u14 => (aggV u13 fun l15 => (boolV u14 fun q16 => (if List.length l15 = 4 then (if List.all l15 one = true then (if 0 + List.length l15 ≤ List.length k6 then (K (upd (upd (upd (upd (upd (upd (upd (upd (upd (upd (upd (upd (upd (upd (upd (upd (upd e 6 (sR 6 0)) 4 (sR 4 0)) 0 (sP x0)) 110 (sP x0)) 111 (sQ b1 o2)) 112 (sQ b1 (o2 + 4))) 113 (sV (.map m4))) 114 (sR 4 0)) 115 (sV (.string s6))) 116 (sP p8)) 117 (sR 4 0)) 118 (sV (.string s10))) 119 (sV (.tuple ⟨[(.agg ⟨l15⟩), (.bool q16)]⟩))) 109 (sV (.tuple ⟨[(.agg ⟨l15⟩), (.bool q16)]⟩))) 120 (sA l15)) 121 (sB q16)) 7 (sB q16)) (upd (upd (upd V0 6 (36, k6)) 4 (29, k4)) 6 (36, (splice k6 0 l15))) h12) else False) else False) else False)))))))))))))) := by kernel_rfl
theorem F26_r18 : R26 [1, 1, 1, 1, 1, 1, 1, 1, 0, 1, 0] 1 (upd e 7 (sB x7)) (upd (upd V0 6 (36, k6)) 4 (29, k4)) hp K =
    (K (upd (upd e 7 (sB x7)) 122 (sB x7)) (upd (upd V0 6 (36, k6)) 4 (29, k4)) hp) := by kernel_rfl
theorem F26_r19 : R26 [1, 1, 1, 1, 1, 1, 1, 1, 0, 1, 1, 0] 4 (upd (upd e 4 (sR 4 0)) 0 (sP x0)) (upd (upd V0 6 (36, k6)) 4 (29, k4)) hp K =
    (ldV (k4)[0]? fun v1 => (strV v1 fun s2 => (CF Try.prog 79 [(.pointer x0), (.string s2)] hp fun u3 h4 => (K (upd (upd (upd (upd (upd (upd e 4 (sR 4 0)) 0 (sP x0)) 123 (sP x0)) 124 (sR 4 0)) 125 (sV (.string s2))) 126 (sV u3)) (upd (upd V0 6 (36, k6)) 4 (29, k4)) h4)))) := by kernel_rfl
def F26_j4 (x0 : Option Addr) (x2 : Int) (x72 : Bool) (k4 : List Value) (k6 : List Value) (hp : HP) (K : Value → HP → Prop) : Prop :=
  (ite2 x72 (ldV (k4)[0]? fun v_28 => (strV v_28 fun s_29 => (ldV (k4)[5]? fun v_30 => (strV v_30 fun s_31 => (ldV (k4)[4]? fun v_32 => (strV v_32 fun s_33 => (if List.length [(Value.string s_29), (.string s_31), (.string s_33), (.int .i64 1)] = 4 then (if List.all [(Value.string s_29), (.string s_31), (.string s_33), (.int .i64 1)] one = true then (if 0 + List.length [(Value.string s_29), (.string s_31), (.string s_33), (.int .i64 1)] ≤ List.length k6 then (ldL (cellsN (splice k6 0 [(.string s_29), (.string s_31), (.string s_33), (.int .i64 1)]) 0 4) fun l_34 => (K (.tuple ⟨[(.agg ⟨l_34⟩), (.bool true), .int .i64 0]⟩) hp)) else False) else False) else False))))))) (ptrN x0 fun b_35 o_36 => (ldV (HP.cell hp b_35 (o_36 + 3)) fun v_37 => (intV v_37 .i64 fun i_38 => (ptrN x0 fun b_39 o_40 => (ldV (HP.cell hp b_39 (o_40 + 0)) fun v_41 => (intV v_41 .i64 fun i_42 => (ite2 (decide (i_38 ≥ i_42)) (if List.length [(Value.string ⟨#[]⟩), .string ⟨#[]⟩, .string ⟨#[]⟩, .int .i64 0] = 4 then (if List.all [(Value.string ⟨#[]⟩), .string ⟨#[]⟩, .string ⟨#[]⟩, .int .i64 0] one = true then (if 0 + List.length [(Value.string ⟨#[]⟩), .string ⟨#[]⟩, .string ⟨#[]⟩, .int .i64 0] ≤ List.length k6 then (ldL (cellsN (splice k6 0 [.string ⟨#[]⟩, .string ⟨#[]⟩, .string ⟨#[]⟩, .int .i64 0]) 0 4) fun l_43 => (K (.tuple ⟨[(.agg ⟨l_43⟩), .bool false, (.int .i64 6)]⟩) hp)) else False) else False) else False) (ptrN x0 fun b_44 o_45 => (ldV (HP.cell hp b_44 (o_45 + 5)) fun v_46 => (mapV v_46 fun m_47 => (ldV (k4)[1]? fun v_48 => (strV v_48 fun s_49 => (rdS Try.prog (Instr.lookup 97 (.map m_47) (.string s_49) false) hp fun u_50 => (intV u_50 .i64 fun i_51 => (ptrN x0 fun b_52 o_53 => (ldV (HP.cell hp b_52 (o_53 + 1)) fun v_54 => (intV v_54 .i64 fun i_55 => (ite2 (decide (i_51 ≥ i_55)) (if List.length [(Value.string ⟨#[]⟩), .string ⟨#[]⟩, .string ⟨#[]⟩, .int .i64 0] = 4 then (if List.all [(Value.string ⟨#[]⟩), .string ⟨#[]⟩, .string ⟨#[]⟩, .int .i64 0] one = true then (if 0 + List.length [(Value.string ⟨#[]⟩), .string ⟨#[]⟩, .string ⟨#[]⟩, .int .i64 0] ≤ List.length k6 then (ldL (cellsN (splice k6 0 [.string ⟨#[]⟩, .string ⟨#[]⟩, .string ⟨#[]⟩, .int .i64 0]) 0 4) fun l_56 => (K (.tuple ⟨[(.agg ⟨l_56⟩), .bool false, (.int .i64 11)]⟩) hp)) else False) else False) else False) (ldL (cellsN k4 0 6) fun l_57 => (CF Try.prog 80 [(.pointer x0), (.agg ⟨l_57⟩), (.int .i64 x2)] hp fun u_58 h_59 => (ptrN x0 fun b_62 o_63 => (ldV (HP.cell h_59 b_62 (o_63 + 4)) fun v_64 => (mapV v_64 fun m_65 => (ldV (k4)[0]? fun v_66 => (strV v_66 fun s_67 => (rdS Try.prog (Instr.lookup 128 (.map m_65) (.string s_67) false) h_59 fun u_68 => (ptrV u_68 fun p_69 => (ldV (k4)[0]? fun v_70 => (strV v_70 fun s_71 => (CF Try.prog 81 [(.pointer p_69), (.string s_71)] h_59 fun u_72 h_73 => (tup2V u_72 fun u_74 u_75 => (aggV u_74 fun l_76 => (boolV u_75 fun q_77 => (if List.length l_76 = 4 then (if List.all l_76 one = true then (if 0 + List.length l_76 ≤ List.length k6 then (ite2 q_77 (ldV (k4)[0]? fun v_78 => (strV v_78 fun s_79 => (CF Try.prog 79 [(.pointer x0), (.string s_79)] h_73 fun u_80 h_81 => (F26_j5 q_77 (splice k6 0 l_76) h_81  K)))) (F26_j5 q_77 (splice k6 0 l_76) h_73  K)) else False) else False) else False)))))))))))))))))))))))))))))))))))
theorem F26_r20 : R26 [1, 1, 1, 1, 1, 0, 0] 12 (upd (upd e 10 (sB x10)) 4 (sR 4 0)) (upd (upd V0 6 (36, k6)) 4 (29, k4)) hp K =
    (ite2 (!x10) (ldV (k4)[2]? fun v1 => (intV v1 .i64 fun i2 => (ite2 (i2 == 0) (ldV (k4)[3]? fun v3 => (boolV v3 fun q4 => (K (upd (upd (upd (upd (upd (upd (upd (upd (upd (upd (upd (upd (upd (upd e 10 (sB x10)) 4 (sR 4 0)) 61 (sB x10)) 62 (sB ((!x10)))) 63 (sB true)) 64 (sR 4 2)) 65 (sI i2)) 66 (sB ((i2 == 0)))) 67 (sB ((i2 == 0)))) 68 (sB true)) 69 (sR 4 3)) 70 (sB q4)) 71 (sB ((!q4)))) 72 (sB ((!q4)))) (upd (upd V0 6 (36, k6)) 4 (29, k4)) hp))) (K (upd (upd (upd (upd (upd (upd (upd (upd (upd (upd (upd (upd (upd (upd e 10 (sB x10)) 4 (sR 4 0)) 61 (sB x10)) 62 (sB ((!x10)))) 63 (sB true)) 64 (sR 4 2)) 65 (sI i2)) 66 (sB ((i2 == 0)))) 67 (sB ((i2 == 0)))) 68 (sB false)) 69 sU) 70 sU) 71 sU) 72 (sB false)) (upd (upd V0 6 (36, k6)) 4 (29, k4)) hp)))) (K (upd (upd (upd (upd (upd (upd (upd (upd (upd (upd (upd (upd (upd (upd e 10 (sB x10)) 4 (sR 4 0)) 61 (sB x10)) 62 (sB ((!x10)))) 63 (sB false)) 64 sU) 65 sU) 66 sU) 67 (sB false)) 68 (sB false)) 69 sU) 70 sU) 71 sU) 72 (sB false)) (upd (upd V0 6 (36, k6)) 4 (29, k4)) hp)) := by kernel_rfl
def F26_j3 (x0 : Option Addr) (x2 : Int) (x10 : Bool) (x55 : Bool) (k4 : List Value) (k6 : List Value) (hp : HP) (K : Value → HP → Prop) : Prop :=
  (ite2 x55 (ldV (k4)[0]? fun v_23 => (strV v_23 fun s_24 => (CF Try.prog 79 [(.pointer x0), (.string s_24)] hp fun u_25 h_26 => (if List.length [(Value.string ⟨#[]⟩), .string ⟨#[]⟩, .string ⟨#[]⟩, .int .i64 0] = 4 then (if List.all [(Value.string ⟨#[]⟩), .string ⟨#[]⟩, .string ⟨#[]⟩, .int .i64 0] one = true then (if 0 + List.length [(Value.string ⟨#[]⟩), .string ⟨#[]⟩, .string ⟨#[]⟩, .int .i64 0] ≤ List.length k6 then (ldL (cellsN (splice k6 0 [.string ⟨#[]⟩, .string ⟨#[]⟩, .string ⟨#[]⟩, .int .i64 0]) 0 4) fun l_27 => (K (.tuple ⟨[(.agg ⟨l_27⟩), .bool false, (.int .i64 5)]⟩) h_26)) else False) else False) else False)))) (ite2 (!x10) (ldV (k4)[2]? fun v_82 => (intV v_82 .i64 fun i_83 => (ite2 (i_83 == 0) (ldV (k4)[3]? fun v_84 => (boolV v_84 fun q_85 => (F26_j4 x0 x2 (!q_85) k4 k6 hp  K))) (F26_j4 x0 x2 false k4 k6 hp  K)))) (F26_j4 x0 x2 false k4 k6 hp  K)))
theorem F26_r21 : R26 [1, 1, 1, 1, 0, 0] 7 (upd (upd (upd e 10 (sB x10)) 9 (sP x9)) 4 (sR 4 0)) (upd (upd V0 6 (36, k6)) 4 (29, k4)) hp K =
    (ite2 x10 (ldL (cellsN k4 0 6) fun l1 => (CF Try.prog 78 [(.pointer x9), (.agg ⟨l1⟩)] hp fun u2 h3 => (boolV u2 fun q4 => (K (upd (upd (upd (upd (upd (upd (upd (upd (upd (upd e 10 (sB x10)) 9 (sP x9)) 4 (sR 4 0)) 49 (sB x10)) 50 (sB true)) 51 (sP x9)) 52 (sA l1)) 53 (sB q4)) 54 (sB ((!q4)))) 55 (sB ((!q4)))) (upd (upd V0 6 (36, k6)) 4 (29, k4)) h3)))) (K (upd (upd (upd (upd (upd (upd (upd (upd (upd (upd e 10 (sB x10)) 9 (sP x9)) 4 (sR 4 0)) 49 (sB x10)) 50 (sB false)) 51 sU) 52 sU) 53 sU) 54 sU) 55 (sB false)) (upd (upd V0 6 (36, k6)) 4 (29, k4)) hp)) := by kernel_rfl
def F26_j2 (x0 : Option Addr) (x2 : Int) (x9 : Option Addr) (x10 : Bool) (x47 : Bool) (k4 : List Value) (k6 : List Value) (hp : HP) (K : Value → HP → Prop) : Prop :=
  (ite2 x47 (if List.length [(Value.string ⟨#[]⟩), .string ⟨#[]⟩, .string ⟨#[]⟩, .int .i64 0] = 4 then (if List.all [(Value.string ⟨#[]⟩), .string ⟨#[]⟩, .string ⟨#[]⟩, .int .i64 0] one = true then (if 0 + List.length [(Value.string ⟨#[]⟩), .string ⟨#[]⟩, .string ⟨#[]⟩, .int .i64 0] ≤ List.length k6 then (ldL (cellsN (splice k6 0 [.string ⟨#[]⟩, .string ⟨#[]⟩, .string ⟨#[]⟩, .int .i64 0]) 0 4) fun l_22 => (K (.tuple ⟨[(.agg ⟨l_22⟩), .bool false, .int .i64 0]⟩) hp)) else False) else False) else False) (ite2 x10 (ldL (cellsN k4 0 6) fun l_86 => (CF Try.prog 78 [(.pointer x9), (.agg ⟨l_86⟩)] hp fun u_87 h_88 => (boolV u_87 fun q_89 => (F26_j3 x0 x2 x10 (!q_89) k4 k6 h_88  K)))) (F26_j3 x0 x2 x10 false k4 k6 hp  K)))
theorem F26_r22 : R26 [1, 1, 1, 0, 0] 10 (upd (upd (upd e 10 (sB x10)) 9 (sP x9)) 4 (sR 4 0)) (upd (upd V0 6 (36, k6)) 4 (29, k4)) hp K =
    (ite2 x10 (ptrN x9 fun b1 o2 => (ldV (HP.cell hp b1 (o2 + 3)) fun v3 => (slcV v3 fun a4 n5 c6 => (ldL (cellsN k4 0 6) fun l7 => (CF Try.prog 76 [(.slice a4 n5 c6), (.func (.func 77) ⟨[(.agg ⟨l7⟩)]⟩ ⟨[]⟩)] hp fun u8 h9 => (boolV u8 fun q10 => (K (upd (upd (upd (upd (upd (upd (upd (upd (upd (upd (upd (upd (upd e 10 (sB x10)) 9 (sP x9)) 4 (sR 4 0)) 38 (sB x10)) 39 (sB true)) 40 (sP x9)) 41 (sQ b1 o2)) 42 (sQ b1 (o2 + 3))) 43 (sS a4 n5 c6)) 44 (sA l7)) 45 (sV (.func (.func 77) ⟨[(.agg ⟨l7⟩)]⟩ ⟨[]⟩))) 46 (sB q10)) 47 (sB q10)) (upd (upd V0 6 (36, k6)) 4 (29, k4)) h9))))))) (K (upd (upd (upd (upd (upd (upd (upd (upd (upd (upd (upd (upd (upd e 10 (sB x10)) 9 (sP x9)) 4 (sR 4 0)) 38 (sB x10)) 39 (sB false)) 40 sU) 41 sU) 42 sU) 43 sU) 44 sU) 45 sU) 46 sU) 47 (sB false)) (upd (upd V0 6 (36, k6)) 4 (29, k4)) hp)) := by kernel_rfl
def F26_j1 (x0 : Option Addr) (x2 : Int) (x15 : Bool) (k4 : List Value) (k6 : List Value) (hp : HP) (K : Value → HP → Prop) : Prop :=
  (ite2 x15 (if List.length [(Value.string ⟨#[]⟩), .string ⟨#[]⟩, .string ⟨#[]⟩, .int .i64 0] = 4 then (if List.all [(Value.string ⟨#[]⟩), .string ⟨#[]⟩, .string ⟨#[]⟩, .int .i64 0] one = true then (if 0 + List.length [(Value.string ⟨#[]⟩), .string ⟨#[]⟩, .string ⟨#[]⟩, .int .i64 0] ≤ List.length k6 then (ldL (cellsN (splice k6 0 [.string ⟨#[]⟩, .string ⟨#[]⟩, .string ⟨#[]⟩, .int .i64 0]) 0 4) fun l_5 => (K (.tuple ⟨[(.agg ⟨l_5⟩), .bool false, (.int .i64 1)]⟩) hp)) else False) else False) else False) (ldL (cellsN k4 0 6) fun l_6 => (CF Try.prog 67 [(.agg ⟨l_6⟩)] hp fun u_7 h_8 => (boolV u_7 fun q_9 => (ite2 (!q_9) (if List.length [(Value.string ⟨#[]⟩), .string ⟨#[]⟩, .string ⟨#[]⟩, .int .i64 0] = 4 then (if List.all [(Value.string ⟨#[]⟩), .string ⟨#[]⟩, .string ⟨#[]⟩, .int .i64 0] one = true then (if 0 + List.length [(Value.string ⟨#[]⟩), .string ⟨#[]⟩, .string ⟨#[]⟩, .int .i64 0] ≤ List.length k6 then (ldL (cellsN (splice k6 0 [.string ⟨#[]⟩, .string ⟨#[]⟩, .string ⟨#[]⟩, .int .i64 0]) 0 4) fun l_10 => (K (.tuple ⟨[(.agg ⟨l_10⟩), .bool false, (.int .i64 8)]⟩) h_8)) else False) else False) else False) (ptrN x0 fun b_11 o_12 => (ldV (HP.cell h_8 b_11 (o_12 + 4)) fun v_13 => (mapV v_13 fun m_14 => (ldV (k4)[0]? fun v_15 => (strV v_15 fun s_16 => (rdS Try.prog (Instr.lookup 128 (.map m_14) (.string s_16) true) h_8 fun u_17 => (tup2V u_17 fun u_18 u_19 => (ptrV u_18 fun p_20 => (boolV u_19 fun q_21 => (ite2 q_21 (ptrN p_20 fun b_90 o_91 => (ldV (HP.cell h_8 b_90 (o_91 + 3)) fun v_92 => (slcV v_92 fun a_93 n_94 c_95 => (ldL (cellsN k4 0 6) fun l_96 => (CF Try.prog 76 [(.slice a_93 n_94 c_95), (.func (.func 77) ⟨[(.agg ⟨l_96⟩)]⟩ ⟨[]⟩)] h_8 fun u_97 h_98 => (boolV u_97 fun q_99 => (F26_j2 x0 x2 p_20 q_21 q_99 k4 k6 h_98  K))))))) (F26_j2 x0 x2 p_20 q_21 false k4 k6 h_8  K))))))))))))))))
theorem F26_r23 : R26 [1, 0, 0, 1, 1, 0] 7 (upd e 2 (sI x2)) (upd (upd V0 6 (36, k6)) 4 (29, k4)) hp K =
    (ite2 (decide (x2 < 0)) (K (upd (upd (upd (upd (upd (upd (upd (upd e 2 (sI x2)) 16 (sI x2)) 17 (sB (decide (x2 < 0)))) 18 (sB true)) 19 sU) 20 sU) 21 (sB true)) 15 (sB true)) (upd (upd V0 6 (36, k6)) 4 (29, k4)) hp) (K (upd (upd (upd (upd (upd (upd (upd (upd e 2 (sI x2)) 16 (sI x2)) 17 (sB (decide (x2 < 0)))) 18 (sB false)) 19 (sI x2)) 20 (sB (decide (x2 > 4611686018427387904)))) 21 (sB (decide (x2 > 4611686018427387904)))) 15 (sB (decide (x2 > 4611686018427387904)))) (upd (upd V0 6 (36, k6)) 4 (29, k4)) hp)) := by kernel_rfl
def F26 (x0 : Option Addr) (x1 : List Value) (x2 : Int) (hp : HP) (K : Value → HP → Prop) : Prop :=
  (CF Try.prog 75 [(.pointer x0)] hp fun u_1 h_2 => (boolV u_1 fun q_3 => (ite2 q_3 (if List.length [(Value.string ⟨#[]⟩), .string ⟨#[]⟩, .string ⟨#[]⟩, .int .i64 0] = 4 then (if List.all [(Value.string ⟨#[]⟩), .string ⟨#[]⟩, .string ⟨#[]⟩, .int .i64 0] one = true then (if 0 + List.length [(Value.string ⟨#[]⟩), .string ⟨#[]⟩, .string ⟨#[]⟩, .int .i64 0] ≤ List.length [(Value.string ⟨#[]⟩), .string ⟨#[]⟩, .string ⟨#[]⟩, .int .i64 0] then (ldL (cellsN (splice [.string ⟨#[]⟩, .string ⟨#[]⟩, .string ⟨#[]⟩, .int .i64 0] 0 [.string ⟨#[]⟩, .string ⟨#[]⟩, .string ⟨#[]⟩, .int .i64 0]) 0 4) fun l_4 => (K (.tuple ⟨[(.agg ⟨l_4⟩), .bool false, (.int .i64 2)]⟩) h_2)) else False) else False) else False) (ite2 (decide (x2 < 0)) (F26_j1 x0 x2 true x1 [.string ⟨#[]⟩, .string ⟨#[]⟩, .string ⟨#[]⟩, .int .i64 0] h_2  K) (F26_j1 x0 x2 (decide (x2 > 4611686018427387904)) x1 [.string ⟨#[]⟩, .string ⟨#[]⟩, .string ⟨#[]⟩, .int .i64 0] h_2  K)))))
noncomputable def F26_code : Code := (.seq (.region 0 (opsAt Try.f26 [0]) false) (.seq (.block 0 (.seq (.region 1 (opsAt Try.f26 [1, 0, 0, 0]) false) (.cond (.tmp 11) (.seq (.region 2 (opsAt Try.f26 [1, 0, 0, 1, 0, 0]) false) .ret) (.seq (.region 3 (opsAt Try.f26 [1, 0, 0, 1, 1, 0]) false) (.cond (.tmp 15) (.seq (.region 4 (opsAt Try.f26 [1, 0, 0, 1, 1, 1, 0, 0]) false) .ret) (.seq (.region 5 (opsAt Try.f26 [1, 0, 0, 1, 1, 1, 1, 0]) false) (.cond (.tmp 23) (.seq (.region 6 (opsAt Try.f26 [1, 0, 0, 1, 1, 1, 1, 1, 0, 0]) false) .ret) .skip))))))) (.seq (.region 7 (opsAt Try.f26 [1, 1, 0]) true) (.seq (.seq (.region 8 (opsAt Try.f26 [1, 1, 1, 0, 0]) true) (.cond (.tmp 47) (.seq (.region 9 (opsAt Try.f26 [1, 1, 1, 0, 1, 0, 0]) false) .ret) .skip)) (.seq (.seq (.region 10 (opsAt Try.f26 [1, 1, 1, 1, 0, 0]) false) (.cond (.tmp 55) (.seq (.region 11 (opsAt Try.f26 [1, 1, 1, 1, 0, 1, 0, 0]) false) (.seq (.region 12 (opsAt Try.f26 [1, 1, 1, 1, 0, 1, 0, 1, 0]) false) .ret)) .skip)) (.seq (.seq (.region 13 (opsAt Try.f26 [1, 1, 1, 1, 1, 0, 0]) false) (.cond (.tmp 72) (.seq (.region 14 (opsAt Try.f26 [1, 1, 1, 1, 1, 0, 1, 0, 0]) false) .ret) .skip)) (.seq (.block 1 (.seq (.region 15 (opsAt Try.f26 [1, 1, 1, 1, 1, 1, 0, 0, 0]) true) (.cond (.tmp 80) (.seq (.region 16 (opsAt Try.f26 [1, 1, 1, 1, 1, 1, 0, 0, 1, 0, 0]) false) .ret) (.seq (.region 17 (opsAt Try.f26 [1, 1, 1, 1, 1, 1, 0, 0, 1, 1, 0]) true) (.cond (.tmp 91) (.seq (.region 18 (opsAt Try.f26 [1, 1, 1, 1, 1, 1, 0, 0, 1, 1, 1, 0, 0]) false) .ret) .skip))))) (.seq (.region 19 (opsAt Try.f26 [1, 1, 1, 1, 1, 1, 1, 0]) false) (.seq (.seq (.region 20 (opsAt Try.f26 [1, 1, 1, 1, 1, 1, 1, 1, 0, 0]) true) (.seq (.region 21 (opsAt Try.f26 [1, 1, 1, 1, 1, 1, 1, 1, 0, 1, 0]) false) (.cond (.tmp 122) (.region 22 (opsAt Try.f26 [1, 1, 1, 1, 1, 1, 1, 1, 0, 1, 1, 0]) false) .skip))) (.seq (.region 23 (opsAt Try.f26 [1, 1, 1, 1, 1, 1, 1, 1, 1, 0]) false) .ret))))))))))
theorem F26_body : Try.f26.body = some F26_code := by kernel_rfl
theorem F26_ok (x0 : Option Addr) (x1 : List Value) (x2 : Int) (hp : HP) (K : Value → HP → Prop) (h : F26 x0 x1 x2 hp K) : CF Try.prog 26 [(.pointer x0), (.agg ⟨x1⟩), (.int .i64 x2)] hp K := by
 refine .inl ⟨by kernel_rfl, AC.intro (N := 129) Try.func26 F26_body rfl (Nat.le_of_ble_eq_true rfl) ?_⟩
 unfold F26 at h
 unfold F26_code
 refine AWP.seq' ?_
 refine AWP.rgn (F26_r0 (upd (upd E0 2 (sI x2)) 0 (sP x0)) x1 hp _) ?_ (Ru 1 (Ru 0 (Ru 2 Rn))) (Sc rfl (Sc rfl (Sc rfl Sn))) Sn
 refine AWP.seq' ?_
 refine AWP.block ?_
 refine AWP.seq' ?_
 refine AWP.rgn (F26_r1 (upd (upd (upd E0 6 (sR 6 0)) 4 (sR 4 0)) 2 (sI x2)) x0 x1 [.string ⟨#[]⟩, .string ⟨#[]⟩, .string ⟨#[]⟩, .int .i64 0] hp _) ?_ (Ru 0 (Ru 2 (RefOk.p 4 4 0 (RefOk.p 6 6 0 Rn (fun e => by cases e)) (fun e => by cases e)))) (Sc rfl (Sc rfl (Sc rfl (Sc rfl Sn)))) (Sc rfl (Sc rfl Sn))
 refine mC h fun u_1 h_2 h => mB h fun q_3 h => ?_
 refine AWP.cond (t := q_3) rfl (fun e => ?_) (fun e => ?_)
 ·replace h := ite2_t h e
  refine AWP.seq' ?_
  refine AWP.rgn (F26_r2 E0 [.string ⟨#[]⟩, .string ⟨#[]⟩, .string ⟨#[]⟩, .int .i64 0] h_2 _) ?_ (RefOk.p 6 6 0 Rn (fun e => by cases e)) (Sc rfl Sn) (Sc rfl Sn)
  refine mf h fun h => mf h fun h => mf h fun h => ?_
  refine AWP.ret ?_
  exact h
 ·replace h := ite2_f h e
  refine AWP.seq (fun env pv hp => ∃ (x0 : Option Addr) (x2 : Int) (x15 : Bool) (k4 : List Value) (k6 : List Value), Sub (upd (upd (upd (upd (upd E0 15 (sB x15)) 6 (sR 6 0)) 4 (sR 4 0)) 2 (sI x2)) 0 (sP x0)) env ∧ Sub (upd (upd V0 6 (36, k6)) 4 (29, k4)) pv ∧ (F26_j1 x0 x2 x15 k4 k6 hp  K)) ?_ ?_
  ·refine AWP.rgn (F26_r23 (upd (upd (upd E0 6 (sR 6 0)) 4 (sR 4 0)) 0 (sP x0)) x2 x1 [.string ⟨#[]⟩, .string ⟨#[]⟩, .string ⟨#[]⟩, .int .i64 0] h_2 _) ?_ (Ru 2 (Ru 0 (RefOk.p 4 4 0 (RefOk.p 6 6 0 Rn (fun e => by cases e)) (fun e => by cases e)))) (Sc rfl (Sc rfl (Sc rfl (Sc rfl Sn)))) (Sc rfl (Sc rfl Sn))
   refine mt h (fun h => ?_) (fun h => ?_)
   ·exact ⟨x0, x2, true, x1, [.string ⟨#[]⟩, .string ⟨#[]⟩, .string ⟨#[]⟩, .int .i64 0], (Sc rfl (Sc rfl (Sc rfl (Sc rfl (Sc rfl Sn))))), (Sc rfl (Sc rfl Sn)), h⟩
   ·exact ⟨x0, x2, (decide (x2 > 4611686018427387904)), x1, [.string ⟨#[]⟩, .string ⟨#[]⟩, .string ⟨#[]⟩, .int .i64 0], (Sc rfl (Sc rfl (Sc rfl (Sc rfl (Sc rfl Sn))))), (Sc rfl (Sc rfl Sn)), h⟩
  ·rintro env pv hp ⟨x0, x2, x15, k4, k6, he, hv, h⟩
   refine AWP.sub (env' := (upd (upd (upd (upd (upd E0 15 (sB x15)) 6 (sR 6 0)) 4 (sR 4 0)) 2 (sI x2)) 0 (sP x0))) (pv' := (upd (upd V0 6 (36, k6)) 4 (29, k4))) ?_ (Ru 0 (Ru 2 (RefOk.p 4 4 0 (RefOk.p 6 6 0 (Ru 15 Rn) (fun e => by cases e)) (fun e => by cases e)))) he hv (HSub.refl _)
   clear he hv
   unfold F26_j1 at h
   refine AWP.cond (t := x15) rfl (fun e => ?_) (fun e => ?_)
   ·replace h := ite2_t h e
    refine AWP.seq' ?_
    refine AWP.rgn (F26_r3 E0 k6 hp _) ?_ (RefOk.p 6 6 0 Rn (fun e => by cases e)) (Sc rfl Sn) (Sc rfl Sn)
    refine mf h fun h => mf h fun h => mf h fun h => ?_
    refine AWP.ret ?_
    exact h
   ·replace h := ite2_f h e
    refine AWP.seq' ?_
    refine AWP.rgn (F26_r4 (upd (upd (upd E0 6 (sR 6 0)) 2 (sI x2)) 0 (sP x0)) k4 k6 hp _) ?_ (RefOk.p 4 4 0 (Ru 0 (Ru 2 (RefOk.p 6 6 0 Rn (fun e => by cases e)))) (fun e => by cases e)) (Sc rfl (Sc rfl (Sc rfl (Sc rfl Sn)))) (Sc rfl (Sc rfl Sn))
    refine mL h fun l_6 h => mC h fun u_7 h_8 h => mB h fun q_9 h => ?_
    refine AWP.cond (t := (!q_9)) rfl (fun e => ?_) (fun e => ?_)
    ·replace h := ite2_t h e
     refine AWP.seq' ?_
     refine AWP.rgn (F26_r5 E0 k6 h_8 _) ?_ (RefOk.p 6 6 0 Rn (fun e => by cases e)) (Sc rfl Sn) (Sc rfl Sn)
     refine mf h fun h => mf h fun h => mf h fun h => ?_
     refine AWP.ret ?_
     exact h
    ·replace h := ite2_f h e
     refine AWP.skip ?_
     refine AWP.seq' ?_
     refine AWP.rgnD (by kernel_rfl) (by kernel_rfl) (F26_r6 (upd (upd E0 6 (sR 6 0)) 2 (sI x2)) x0 k4 k6 h_8 _) ?_ (Ru 0 (RefOk.p 4 4 0 (Ru 2 (RefOk.p 6 6 0 Rn (fun e => by cases e))) (fun e => by cases e))) (Sc rfl (Sc rfl (Sc rfl (Sc rfl Sn)))) (Sc rfl (Sc rfl Sn))
     refine mN h fun b_11 o_12 h => mV h fun v_13 h => mM h fun m_14 h => mV h fun v_15 h => ms h fun s_16 h => mR h fun u_17 h => mT h fun u_18 u_19 h => mP h fun p_20 h => mB h fun q_21 h => ?_
     refine AWP.seq' ?_
     refine AWP.seq (fun env pv hp => ∃ (x0 : Option Addr) (x2 : Int) (x9 : Option Addr) (x10 : Bool) (x47 : Bool) (k4 : List Value) (k6 : List Value), Sub (upd (upd (upd (upd (upd (upd (upd E0 47 (sB x47)) 10 (sB x10)) 9 (sP x9)) 6 (sR 6 0)) 4 (sR 4 0)) 2 (sI x2)) 0 (sP x0)) env ∧ Sub (upd (upd V0 6 (36, k6)) 4 (29, k4)) pv ∧ (F26_j2 x0 x2 x9 x10 x47 k4 k6 hp  K)) ?_ ?_
     ·refine AWP.rgnD (by kernel_rfl) (by kernel_rfl) (F26_r22 (upd (upd (upd E0 6 (sR 6 0)) 2 (sI x2)) 0 (sP x0)) p_20 q_21 k4 k6 h_8 _) ?_ (RefOk.p 4 4 0 (Ru 9 (Ru 10 (Ru 0 (Ru 2 (RefOk.p 6 6 0 Rn (fun e => by cases e)))))) (fun e => by cases e)) (Sc rfl (Sc rfl (Sc rfl (Sc rfl (Sc rfl (Sc rfl Sn)))))) (Sc rfl (Sc rfl Sn))
      refine mt h (fun h => ?_) (fun h => ?_)
      ·refine mN h fun b_90 o_91 h => mV h fun v_92 h => mS h fun a_93 n_94 c_95 h => mL h fun l_96 h => mC h fun u_97 h_98 h => mB h fun q_99 h => ?_
       exact ⟨x0, x2, p_20, q_21, q_99, k4, k6, (Sc rfl (Sc rfl (Sc rfl (Sc rfl (Sc rfl (Sc rfl (Sc rfl Sn))))))), (Sc rfl (Sc rfl Sn)), h⟩
      ·exact ⟨x0, x2, p_20, q_21, false, k4, k6, (Sc rfl (Sc rfl (Sc rfl (Sc rfl (Sc rfl (Sc rfl (Sc rfl Sn))))))), (Sc rfl (Sc rfl Sn)), h⟩
     ·rintro env pv hp ⟨x0, x2, x9, x10, x47, k4, k6, he, hv, h⟩
      refine AWP.sub (env' := (upd (upd (upd (upd (upd (upd (upd E0 47 (sB x47)) 10 (sB x10)) 9 (sP x9)) 6 (sR 6 0)) 4 (sR 4 0)) 2 (sI x2)) 0 (sP x0))) (pv' := (upd (upd V0 6 (36, k6)) 4 (29, k4))) ?_ (Ru 0 (Ru 2 (RefOk.p 4 4 0 (RefOk.p 6 6 0 (Ru 9 (Ru 10 (Ru 47 Rn))) (fun e => by cases e)) (fun e => by cases e)))) he hv (HSub.refl _)
      clear he hv
      unfold F26_j2 at h
      refine AWP.cond (t := x47) rfl (fun e => ?_) (fun e => ?_)
      ·replace h := ite2_t h e
       refine AWP.seq' ?_
       refine AWP.rgn (F26_r7 E0 k6 hp _) ?_ (RefOk.p 6 6 0 Rn (fun e => by cases e)) (Sc rfl Sn) (Sc rfl Sn)
       refine mf h fun h => mf h fun h => mf h fun h => ?_
       refine AWP.ret ?_
       exact h
      ·replace h := ite2_f h e
       refine AWP.skip ?_
       refine AWP.seq' ?_
       refine AWP.seq (fun env pv hp => ∃ (x0 : Option Addr) (x2 : Int) (x10 : Bool) (x55 : Bool) (k4 : List Value) (k6 : List Value), Sub (upd (upd (upd (upd (upd (upd E0 55 (sB x55)) 10 (sB x10)) 6 (sR 6 0)) 4 (sR 4 0)) 2 (sI x2)) 0 (sP x0)) env ∧ Sub (upd (upd V0 6 (36, k6)) 4 (29, k4)) pv ∧ (F26_j3 x0 x2 x10 x55 k4 k6 hp  K)) ?_ ?_
       ·refine AWP.rgn (F26_r21 (upd (upd (upd E0 6 (sR 6 0)) 2 (sI x2)) 0 (sP x0)) x9 x10 k4 k6 hp _) ?_ (RefOk.p 4 4 0 (Ru 9 (Ru 10 (Ru 0 (Ru 2 (RefOk.p 6 6 0 Rn (fun e => by cases e)))))) (fun e => by cases e)) (Sc rfl (Sc rfl (Sc rfl (Sc rfl (Sc rfl (Sc rfl Sn)))))) (Sc rfl (Sc rfl Sn))
        refine mt h (fun h => ?_) (fun h => ?_)
        ·refine mL h fun l_86 h => mC h fun u_87 h_88 h => mB h fun q_89 h => ?_
         exact ⟨x0, x2, x10, (!q_89), k4, k6, (Sc rfl (Sc rfl (Sc rfl (Sc rfl (Sc rfl (Sc rfl Sn)))))), (Sc rfl (Sc rfl Sn)), h⟩
        ·exact ⟨x0, x2, x10, false, k4, k6, (Sc rfl (Sc rfl (Sc rfl (Sc rfl (Sc rfl (Sc rfl Sn)))))), (Sc rfl (Sc rfl Sn)), h⟩
       ·rintro env pv hp ⟨x0, x2, x10, x55, k4, k6, he, hv, h⟩
        refine AWP.sub (env' := (upd (upd (upd (upd (upd (upd E0 55 (sB x55)) 10 (sB x10)) 6 (sR 6 0)) 4 (sR 4 0)) 2 (sI x2)) 0 (sP x0))) (pv' := (upd (upd V0 6 (36, k6)) 4 (29, k4))) ?_ (Ru 0 (Ru 2 (RefOk.p 4 4 0 (RefOk.p 6 6 0 (Ru 10 (Ru 55 Rn)) (fun e => by cases e)) (fun e => by cases e)))) he hv (HSub.refl _)
        clear he hv
        unfold F26_j3 at h
        refine AWP.cond (t := x55) rfl (fun e => ?_) (fun e => ?_)
        ·replace h := ite2_t h e
         refine AWP.seq' ?_
         refine AWP.rgn (F26_r8 (upd E0 6 (sR 6 0)) x0 k4 k6 hp _) ?_ (Ru 0 (RefOk.p 4 4 0 (RefOk.p 6 6 0 Rn (fun e => by cases e)) (fun e => by cases e))) (Sc rfl (Sc rfl (Sc rfl Sn))) (Sc rfl (Sc rfl Sn))
         refine mV h fun v_23 h => ms h fun s_24 h => mC h fun u_25 h_26 h => ?_
         refine AWP.seq' ?_
         refine AWP.rgn (F26_r9 E0 k6 h_26 _) ?_ (RefOk.p 6 6 0 Rn (fun e => by cases e)) (Sc rfl Sn) (Sc rfl Sn)
         refine mf h fun h => mf h fun h => mf h fun h => ?_
         refine AWP.ret ?_
         exact h
        ·replace h := ite2_f h e
         refine AWP.skip ?_
         refine AWP.seq' ?_
         refine AWP.seq (fun env pv hp => ∃ (x0 : Option Addr) (x2 : Int) (x72 : Bool) (k4 : List Value) (k6 : List Value), Sub (upd (upd (upd (upd (upd E0 72 (sB x72)) 6 (sR 6 0)) 4 (sR 4 0)) 2 (sI x2)) 0 (sP x0)) env ∧ Sub (upd (upd V0 6 (36, k6)) 4 (29, k4)) pv ∧ (F26_j4 x0 x2 x72 k4 k6 hp  K)) ?_ ?_
         ·refine AWP.rgn (F26_r20 (upd (upd (upd E0 6 (sR 6 0)) 2 (sI x2)) 0 (sP x0)) x10 k4 k6 hp _) ?_ (RefOk.p 4 4 0 (Ru 10 (Ru 0 (Ru 2 (RefOk.p 6 6 0 Rn (fun e => by cases e))))) (fun e => by cases e)) (Sc rfl (Sc rfl (Sc rfl (Sc rfl (Sc rfl Sn))))) (Sc rfl (Sc rfl Sn))
          refine mt h (fun h => ?_) (fun h => ?_)
          ·refine mV h fun v_82 h => mI h fun i_83 h => ?_
           refine mt h (fun h => ?_) (fun h => ?_)
           ·refine mV h fun v_84 h => mB h fun q_85 h => ?_
            exact ⟨x0, x2, (!q_85), k4, k6, (Sc rfl (Sc rfl (Sc rfl (Sc rfl (Sc rfl Sn))))), (Sc rfl (Sc rfl Sn)), h⟩
           ·exact ⟨x0, x2, false, k4, k6, (Sc rfl (Sc rfl (Sc rfl (Sc rfl (Sc rfl Sn))))), (Sc rfl (Sc rfl Sn)), h⟩
          ·exact ⟨x0, x2, false, k4, k6, (Sc rfl (Sc rfl (Sc rfl (Sc rfl (Sc rfl Sn))))), (Sc rfl (Sc rfl Sn)), h⟩
         ·rintro env pv hp ⟨x0, x2, x72, k4, k6, he, hv, h⟩
          refine AWP.sub (env' := (upd (upd (upd (upd (upd E0 72 (sB x72)) 6 (sR 6 0)) 4 (sR 4 0)) 2 (sI x2)) 0 (sP x0))) (pv' := (upd (upd V0 6 (36, k6)) 4 (29, k4))) ?_ (Ru 0 (Ru 2 (RefOk.p 4 4 0 (RefOk.p 6 6 0 (Ru 72 Rn) (fun e => by cases e)) (fun e => by cases e)))) he hv (HSub.refl _)
          clear he hv
          unfold F26_j4 at h
          refine AWP.cond (t := x72) rfl (fun e => ?_) (fun e => ?_)
          ·replace h := ite2_t h e
           refine AWP.seq' ?_
           refine AWP.rgn (F26_r10 E0 k4 k6 hp _) ?_ (RefOk.p 4 4 0 (RefOk.p 6 6 0 Rn (fun e => by cases e)) (fun e => by cases e)) (Sc rfl (Sc rfl Sn)) (Sc rfl (Sc rfl Sn))
           refine mV h fun v_28 h => ms h fun s_29 h => mV h fun v_30 h => ms h fun s_31 h => mV h fun v_32 h => ms h fun s_33 h => mf h fun h => mf h fun h => mf h fun h => ?_
           refine AWP.ret ?_
           exact h
          ·replace h := ite2_f h e
           refine AWP.skip ?_
           refine AWP.seq' ?_
           refine AWP.block ?_
           refine AWP.seq' ?_
           refine AWP.rgnD (by kernel_rfl) (by kernel_rfl) (F26_r11 (upd (upd (upd E0 6 (sR 6 0)) 4 (sR 4 0)) 2 (sI x2)) x0 k4 k6 hp _) ?_ (Ru 0 (Ru 2 (RefOk.p 4 4 0 (RefOk.p 6 6 0 Rn (fun e => by cases e)) (fun e => by cases e)))) (Sc rfl (Sc rfl (Sc rfl (Sc rfl Sn)))) (Sc rfl (Sc rfl Sn))
           refine mN h fun b_35 o_36 h => mV h fun v_37 h => mI h fun i_38 h => mN h fun b_39 o_40 h => mV h fun v_41 h => mI h fun i_42 h => ?_
           refine AWP.cond (t := (decide (i_38 ≥ i_42))) rfl (fun e => ?_) (fun e => ?_)
           ·replace h := ite2_t h e
            refine AWP.seq' ?_
            refine AWP.rgn (F26_r12 E0 k6 hp _) ?_ (RefOk.p 6 6 0 Rn (fun e => by cases e)) (Sc rfl Sn) (Sc rfl Sn)
            refine mf h fun h => mf h fun h => mf h fun h => ?_
            refine AWP.ret ?_
            exact h
           ·replace h := ite2_f h e
            refine AWP.seq' ?_
            refine AWP.rgnD (by kernel_rfl) (by kernel_rfl) (F26_r13 (upd (upd E0 6 (sR 6 0)) 2 (sI x2)) x0 k4 k6 hp _) ?_ (Ru 0 (RefOk.p 4 4 0 (Ru 2 (RefOk.p 6 6 0 Rn (fun e => by cases e))) (fun e => by cases e))) (Sc rfl (Sc rfl (Sc rfl (Sc rfl Sn)))) (Sc rfl (Sc rfl Sn))
            refine mN h fun b_44 o_45 h => mV h fun v_46 h => mM h fun m_47 h => mV h fun v_48 h => ms h fun s_49 h => mR h fun u_50 h => mI h fun i_51 h => mN h fun b_52 o_53 h => mV h fun v_54 h => mI h fun i_55 h => ?_
            refine AWP.cond (t := (decide (i_51 ≥ i_55))) rfl (fun e => ?_) (fun e => ?_)
            ·replace h := ite2_t h e
             refine AWP.seq' ?_
             refine AWP.rgn (F26_r14 E0 k6 hp _) ?_ (RefOk.p 6 6 0 Rn (fun e => by cases e)) (Sc rfl Sn) (Sc rfl Sn)
             refine mf h fun h => mf h fun h => mf h fun h => ?_
             refine AWP.ret ?_
             exact h
            ·replace h := ite2_f h e
             refine AWP.skip ?_
             refine AWP.seq' ?_
             refine AWP.rgn (F26_r15 (upd E0 6 (sR 6 0)) x0 x2 k4 k6 hp _) ?_ (Ru 0 (Ru 2 (RefOk.p 4 4 0 (RefOk.p 6 6 0 Rn (fun e => by cases e)) (fun e => by cases e)))) (Sc rfl (Sc rfl (Sc rfl (Sc rfl Sn)))) (Sc rfl (Sc rfl Sn))
             refine mL h fun l_57 h => mC h fun u_58 h_59 h => ?_
             refine AWP.seq (fun env pv hp => ∃ (x7 : Bool) (k6 : List Value), Sub (upd (upd E0 7 (sB x7)) 6 (sR 6 0)) env ∧ Sub (upd V0 6 (36, k6)) pv ∧ (F26_j5 x7 k6 hp  K)) ?_ ?_
             ·refine AWP.seq' ?_
              refine AWP.rgnD (by kernel_rfl) (by kernel_rfl) (F26_r17 E0 x0 k4 k6 h_59 _) ?_ (Ru 0 (RefOk.p 4 4 0 (RefOk.p 6 6 0 Rn (fun e => by cases e)) (fun e => by cases e))) (Sc rfl (Sc rfl (Sc rfl Sn))) (Sc rfl (Sc rfl Sn))
              refine mN h fun b_62 o_63 h => mV h fun v_64 h => mM h fun m_65 h => mV h fun v_66 h => ms h fun s_67 h => mR h fun u_68 h => mP h fun p_69 h => mV h fun v_70 h => ms h fun s_71 h => mC h fun u_72 h_73 h => mT h fun u_74 u_75 h => mA h fun l_76 h => mB h fun q_77 h => mf h fun h => mf h fun h => mf h fun h => ?_
              refine AWP.seq' ?_
              refine AWP.rgn (F26_r18 (upd (upd (upd E0 6 (sR 6 0)) 4 (sR 4 0)) 0 (sP x0)) q_77 k4 (splice k6 0 l_76) h_73 _) ?_ (Ru 7 (Ru 0 (RefOk.p 4 4 0 (RefOk.p 6 6 0 Rn (fun e => by cases e)) (fun e => by cases e)))) (Sc rfl (Sc rfl (Sc rfl (Sc rfl Sn)))) (Sc rfl (Sc rfl Sn))
              refine AWP.cond (t := q_77) rfl (fun e => ?_) (fun e => ?_)
              ·replace h := ite2_t h e
               refine AWP.rgn (F26_r19 (upd (upd E0 7 (sB q_77)) 6 (sR 6 0)) x0 k4 (splice k6 0 l_76) h_73 _) ?_ (Ru 0 (RefOk.p 4 4 0 (RefOk.p 6 6 0 (Ru 7 Rn) (fun e => by cases e)) (fun e => by cases e))) (Sc rfl (Sc rfl (Sc rfl (Sc rfl Sn)))) (Sc rfl (Sc rfl Sn))
               refine mV h fun v_78 h => ms h fun s_79 h => mC h fun u_80 h_81 h => ?_
               exact ⟨q_77, (splice k6 0 l_76), (Sc rfl (Sc rfl Sn)), (Sc rfl Sn), h⟩
              ·replace h := ite2_f h e
               refine AWP.skip ?_
               exact ⟨q_77, (splice k6 0 l_76), (Sc rfl (Sc rfl Sn)), (Sc rfl Sn), h⟩
             ·rintro env pv hp ⟨x7, k6, he, hv, h⟩
              refine AWP.sub (env' := (upd (upd E0 7 (sB x7)) 6 (sR 6 0))) (pv' := (upd V0 6 (36, k6))) ?_ (RefOk.p 6 6 0 (Ru 7 Rn) (fun e => by cases e)) he hv (HSub.refl _)
              clear he hv
              unfold F26_j5 at h
              refine AWP.seq' ?_
              refine AWP.rgn (F26_r16 E0 x7 k6 hp _) ?_ (RefOk.p 6 6 0 (Ru 7 Rn) (fun e => by cases e)) (Sc rfl (Sc rfl Sn)) (Sc rfl Sn)
              refine mL h fun l_60 h => mf h fun h => mf h fun h => mf h fun h => ?_
              refine AWP.ret ?_
              exact h
end
-- 27 (*interpreter/frag.Store).Len
section
variable (e : Env) (x0 : Option Addr) (hp : HP) (K : Env → PV → HP → Prop)
abbrev R27 (p : List Nat) (n : Nat) := RW Try.prog 9 [] (opsAt Try.f27 p) (List.range n)
theorem F27_r0 : R27 [0] 1 e V0 hp K =
    (K (upd e 2 (sI 0)) V0 hp) := by kernel_rfl
theorem F27_r1 : R27 [1, 0, 0] 2 (upd e 0 (sP x0)) V0 hp K =
    (CF Try.prog 75 [(.pointer x0)] hp fun u1 h2 => (boolV u1 fun q3 => (K (upd (upd (upd e 0 (sP x0)) 3 (sP x0)) 4 (sB q3)) V0 h2))) := by kernel_rfl
theorem F27_r2 : R27 [1, 0, 1, 0, 0] 1 e V0 hp K =
    (K (upd e 2 (sI 0)) V0 hp) := by kernel_rfl
theorem F27_r3 : R27 [1, 1, 0] 5 (upd e 0 (sP x0)) V0 hp K =
    (ptrN x0 fun b1 o2 => (ldV (HP.cell hp b1 (o2 + 3)) fun v3 => (intV v3 .i64 fun i4 => (K (upd (upd (upd (upd (upd (upd e 0 (sP x0)) 5 (sP x0)) 6 (sQ b1 o2)) 7 (sQ b1 (o2 + 3))) 8 (sI i4)) 2 (sI i4)) V0 hp)))) := by kernel_rfl
def F27 (x0 : Option Addr) (hp : HP) (K : Value → HP → Prop) : Prop :=
  (CF Try.prog 75 [(.pointer x0)] hp fun u_1 h_2 => (boolV u_1 fun q_3 => (ite2 q_3 (K (.int .i64 0) h_2) (ptrN x0 fun b_4 o_5 => (ldV (HP.cell h_2 b_4 (o_5 + 3)) fun v_6 => (intV v_6 .i64 fun i_7 => (K (.int .i64 i_7) h_2)))))))
noncomputable def F27_code : Code := (.seq (.region 0 (opsAt Try.f27 [0]) false) (.seq (.seq (.region 1 (opsAt Try.f27 [1, 0, 0]) false) (.cond (.tmp 4) (.seq (.region 2 (opsAt Try.f27 [1, 0, 1, 0, 0]) false) .ret) .skip)) (.seq (.region 3 (opsAt Try.f27 [1, 1, 0]) false) .ret)))
theorem F27_body : Try.f27.body = some F27_code := by kernel_rfl
theorem F27_ok (x0 : Option Addr) (hp : HP) (K : Value → HP → Prop) (h : F27 x0 hp K) : CF Try.prog 27 [(.pointer x0)] hp K := by
 refine .inl ⟨by kernel_rfl, AC.intro (N := 9) Try.func27 F27_body rfl (Nat.le_of_ble_eq_true rfl) ?_⟩
 unfold F27 at h
 unfold F27_code
 refine AWP.seq' ?_
 refine AWP.rgn (F27_r0 (upd E0 0 (sP x0))  hp _) ?_ (Ru 0 Rn) (Sc rfl Sn) Sn
 refine AWP.seq' ?_
 refine AWP.seq' ?_
 refine AWP.rgn (F27_r1 E0 x0 hp _) ?_ (Ru 0 Rn) (Sc rfl Sn) Sn
 refine mC h fun u_1 h_2 h => mB h fun q_3 h => ?_
 refine AWP.cond (t := q_3) rfl (fun e => ?_) (fun e => ?_)
 ·replace h := ite2_t h e
  refine AWP.seq' ?_
  refine AWP.rgn (F27_r2 E0  h_2 _) ?_ Rn Sn Sn
  refine AWP.ret ?_
  exact h
 ·replace h := ite2_f h e
  refine AWP.skip ?_
  refine AWP.seq' ?_
  refine AWP.rgn (F27_r3 E0 x0 h_2 _) ?_ (Ru 0 Rn) (Sc rfl Sn) Sn
  refine mN h fun b_4 o_5 h => mV h fun v_6 h => mI h fun i_7 h => ?_
  refine AWP.ret ?_
  exact h
end
-- 67 interpreter/frag.Right
section
variable (e : Env) (x0 k1 : List Value) (hp : HP) (K : Env → PV → HP → Prop)
abbrev R67 (p : List Nat) (n : Nat) := RW Try.prog 42 [1, 3, 7, 12, 18, 21, 26, 30, 35] (opsAt Try.f67 p) (List.range n)
theorem F67_r0 : R67 [0] 2 (upd e 0 (sA x0)) V0 hp K =
    (K (upd (upd (upd e 0 (sA x0)) 1 (sR 1 0)) 2 (sB false)) (upd V0 1 (29, x0)) hp) := by kernel_rfl
theorem F67_r1 : R67 [1, 0, 1, 0, 0] 1 e V0 hp K =
    (K (upd e 2 (sB false)) V0 hp) := by kernel_rfl
theorem F67_r2 : R67 [1, 1, 0] 17 (upd e 1 (sR 1 0)) (upd V0 1 (29, k1)) hp K =
    (ldV (k1)[3]? fun v1 => (boolV v1 fun q2 => (ite2 (!q2) (K (upd (upd (upd (upd (upd (upd (upd (upd (upd (upd (upd (upd (upd (upd (upd (upd (upd (upd e 1 (sR 1 0)) 26 (sR 1 3)) 27 (sB q2)) 28 (sB ((!q2)))) 29 (sB true)) 30 sU) 31 sU) 32 sU) 33 sU) 34 sU) 35 sU) 36 sU) 37 sU) 38 sU) 39 sU) 40 sU) 41 (sB true)) 2 (sB true)) (upd V0 1 (29, k1)) hp) (ldV (k1)[4]? fun v3 => (strV v3 fun s4 => (ite2 (decide (((ByteArray.size s4 : Nat) : Int) > 0)) (ldV (k1)[4]? fun v5 => (strV v5 fun s6 => (((8 : Int) ≠ 0) ∧ (K (upd (upd (upd (upd (upd (upd (upd (upd (upd (upd (upd (upd (upd (upd (upd (upd (upd (upd e 1 (sR 1 0)) 26 (sR 1 3)) 27 (sB q2)) 28 (sB ((!q2)))) 29 (sB false)) 30 (sR 1 4)) 31 (sV (.string s4))) 32 (sI ((ByteArray.size s4 : Nat)))) 33 (sB ((decide (((ByteArray.size s4 : Nat) : Int) > 0))))) 34 (sB true)) 35 (sR 1 4)) 36 (sV (.string s6))) 37 (sI ((ByteArray.size s6 : Nat)))) 38 (sI ((Int.tmod (ByteArray.size s6 : Nat) 8)))) 39 (sB ((((Int.tmod (ByteArray.size s6 : Nat) 8) : Int) == 0)))) 40 (sB ((((Int.tmod (ByteArray.size s6 : Nat) 8) : Int) == 0)))) 41 (sB ((((Int.tmod (ByteArray.size s6 : Nat) 8) : Int) == 0)))) 2 (sB ((((Int.tmod (ByteArray.size s6 : Nat) 8) : Int) == 0)))) (upd V0 1 (29, k1)) hp)))) (K (upd (upd (upd (upd (upd (upd (upd (upd (upd (upd (upd (upd (upd (upd (upd (upd (upd (upd e 1 (sR 1 0)) 26 (sR 1 3)) 27 (sB q2)) 28 (sB ((!q2)))) 29 (sB false)) 30 (sR 1 4)) 31 (sV (.string s4))) 32 (sI ((ByteArray.size s4 : Nat)))) 33 (sB ((decide (((ByteArray.size s4 : Nat) : Int) > 0))))) 34 (sB false)) 35 sU) 36 sU) 37 sU) 38 sU) 39 sU) 40 (sB false)) 41 (sB false)) 2 (sB false)) (upd V0 1 (29, k1)) hp))))))) := by kernel_rfl
def F67_j1 (x25 : Bool) (k1 : List Value) (hp : HP) (K : Value → HP → Prop) : Prop :=
  (ite2 x25 (K (.bool false) hp) (ldV (k1)[3]? fun v_1 => (boolV v_1 fun q_2 => (ite2 (!q_2) (K (.bool true) hp) (ldV (k1)[4]? fun v_3 => (strV v_3 fun s_4 => (ite2 (decide (((ByteArray.size s_4 : Nat) : Int) > 0)) (ldV (k1)[4]? fun v_5 => (strV v_5 fun s_6 => (((8 : Int) ≠ 0) ∧ (K (.bool (((Int.tmod (ByteArray.size s_6 : Nat) 8) : Int) == 0)) hp)))) (K (.bool false) hp))))))))
theorem F67_r3 : R67 [1, 0, 0] 23 (upd e 1 (sR 1 0)) (upd V0 1 (29, k1)) hp K =
    (ldV (k1)[2]? fun v1 => (intV v1 .i64 fun i2 => (ite2 (decide (i2 < 0)) (K (upd (upd (upd (upd (upd (upd (upd (upd (upd (upd (upd (upd (upd (upd (upd (upd (upd (upd (upd (upd (upd (upd (upd (upd e 1 (sR 1 0)) 3 (sR 1 2)) 4 (sI i2)) 5 (sB (decide (i2 < 0)))) 6 (sB true)) 7 sU) 8 sU) 9 sU) 10 (sB true)) 11 (sB true)) 12 sU) 13 sU) 14 sU) 15 sU) 16 (sB true)) 17 (sB true)) 18 sU) 19 sU) 20 sU) 21 sU) 22 sU) 23 sU) 24 sU) 25 (sB true)) (upd V0 1 (29, k1)) hp) (ldV (k1)[2]? fun v3 => (intV v3 .i64 fun i4 => (ite2 (decide (i4 > 65535)) (K (upd (upd (upd (upd (upd (upd (upd (upd (upd (upd (upd (upd (upd (upd (upd (upd (upd (upd (upd (upd (upd (upd (upd (upd e 1 (sR 1 0)) 3 (sR 1 2)) 4 (sI i2)) 5 (sB (decide (i2 < 0)))) 6 (sB false)) 7 (sR 1 2)) 8 (sI i4)) 9 (sB (decide (i4 > 65535)))) 10 (sB (decide (i4 > 65535)))) 11 (sB true)) 12 sU) 13 sU) 14 sU) 15 sU) 16 (sB true)) 17 (sB true)) 18 sU) 19 sU) 20 sU) 21 sU) 22 sU) 23 sU) 24 sU) 25 (sB true)) (upd V0 1 (29, k1)) hp) (ldV (k1)[2]? fun v5 => (intV v5 .i64 fun i6 => (((8 : Int) ≠ 0) ∧ (ite2 (((Int.tmod i6 8) : Int) != 0) (K (upd (upd (upd (upd (upd (upd (upd (upd (upd (upd (upd (upd (upd (upd (upd (upd (upd (upd (upd (upd (upd (upd (upd (upd e 1 (sR 1 0)) 3 (sR 1 2)) 4 (sI i2)) 5 (sB (decide (i2 < 0)))) 6 (sB false)) 7 (sR 1 2)) 8 (sI i4)) 9 (sB (decide (i4 > 65535)))) 10 (sB (decide (i4 > 65535)))) 11 (sB false)) 12 (sR 1 2)) 13 (sI i6)) 14 (sI ((Int.tmod i6 8)))) 15 (sB ((((Int.tmod i6 8) : Int) != 0)))) 16 (sB ((((Int.tmod i6 8) : Int) != 0)))) 17 (sB true)) 18 sU) 19 sU) 20 sU) 21 sU) 22 sU) 23 sU) 24 sU) 25 (sB true)) (upd V0 1 (29, k1)) hp) (ldV (k1)[4]? fun v7 => (strV v7 fun s8 => (ldV (k1)[2]? fun v9 => (intV v9 .i64 fun i10 => (K (upd (upd (upd (upd (upd (upd (upd (upd (upd (upd (upd (upd (upd (upd (upd (upd (upd (upd (upd (upd (upd (upd (upd (upd e 1 (sR 1 0)) 3 (sR 1 2)) 4 (sI i2)) 5 (sB (decide (i2 < 0)))) 6 (sB false)) 7 (sR 1 2)) 8 (sI i4)) 9 (sB (decide (i4 > 65535)))) 10 (sB (decide (i4 > 65535)))) 11 (sB false)) 12 (sR 1 2)) 13 (sI i6)) 14 (sI ((Int.tmod i6 8)))) 15 (sB ((((Int.tmod i6 8) : Int) != 0)))) 16 (sB ((((Int.tmod i6 8) : Int) != 0)))) 17 (sB false)) 18 (sR 1 4)) 19 (sV (.string s8))) 20 (sI ((ByteArray.size s8 : Nat)))) 21 (sR 1 2)) 22 (sI i10)) 23 (sI ((wr (65535 - i10))))) 24 (sB ((decide (((ByteArray.size s8 : Nat) : Int) > (wr (65535 - i10))))))) 25 (sB ((decide (((ByteArray.size s8 : Nat) : Int) > (wr (65535 - i10))))))) (upd V0 1 (29, k1)) hp))))))))))))))) := by kernel_rfl
def F67 (x0 : List Value) (hp : HP) (K : Value → HP → Prop) : Prop :=
  (ldV (x0)[2]? fun v_7 => (intV v_7 .i64 fun i_8 => (ite2 (decide (i_8 < 0)) (F67_j1 true x0 hp  K) (ldV (x0)[2]? fun v_9 => (intV v_9 .i64 fun i_10 => (ite2 (decide (i_10 > 65535)) (F67_j1 true x0 hp  K) (ldV (x0)[2]? fun v_11 => (intV v_11 .i64 fun i_12 => (((8 : Int) ≠ 0) ∧ (ite2 (((Int.tmod i_12 8) : Int) != 0) (F67_j1 true x0 hp  K) (ldV (x0)[4]? fun v_13 => (strV v_13 fun s_14 => (ldV (x0)[2]? fun v_15 => (intV v_15 .i64 fun i_16 => (F67_j1 (decide (((ByteArray.size s_14 : Nat) : Int) > (IntKind.wrap .i64 (65535 - i_16)))) x0 hp  K)))))))))))))))
noncomputable def F67_code : Code := (.seq (.region 0 (opsAt Try.f67 [0]) false) (.seq (.seq (.region 1 (opsAt Try.f67 [1, 0, 0]) false) (.cond (.tmp 25) (.seq (.region 2 (opsAt Try.f67 [1, 0, 1, 0, 0]) false) .ret) .skip)) (.seq (.region 3 (opsAt Try.f67 [1, 1, 0]) false) .ret)))
theorem F67_body : Try.f67.body = some F67_code := by kernel_rfl
theorem F67_ok (x0 : List Value) (hp : HP) (K : Value → HP → Prop) (h : F67 x0 hp K) : CF Try.prog 67 [(.agg ⟨x0⟩)] hp K := by
 refine .inl ⟨by kernel_rfl, AC.intro (N := 42) Try.func67 F67_body rfl (Nat.le_of_ble_eq_true rfl) ?_⟩
 unfold F67 at h
 unfold F67_code
 refine AWP.seq' ?_
 refine AWP.rgn (F67_r0 E0 x0 hp _) ?_ (Ru 0 Rn) (Sc rfl Sn) Sn
 refine AWP.seq' ?_
 refine AWP.seq (fun env pv hp => ∃ (x25 : Bool) (k1 : List Value), Sub (upd (upd E0 25 (sB x25)) 1 (sR 1 0)) env ∧ Sub (upd V0 1 (29, k1)) pv ∧ (F67_j1 x25 k1 hp  K)) ?_ ?_
 ·refine AWP.rgn (F67_r3 E0 x0 hp _) ?_ (RefOk.p 1 1 0 Rn (fun e => by cases e)) (Sc rfl Sn) (Sc rfl Sn)
  refine mV h fun v_7 h => mI h fun i_8 h => ?_
  refine mt h (fun h => ?_) (fun h => ?_)
  ·exact ⟨true, x0, (Sc rfl (Sc rfl Sn)), (Sc rfl Sn), h⟩
  ·refine mV h fun v_9 h => mI h fun i_10 h => ?_
   refine mt h (fun h => ?_) (fun h => ?_)
   ·exact ⟨true, x0, (Sc rfl (Sc rfl Sn)), (Sc rfl Sn), h⟩
   ·refine mV h fun v_11 h => mI h fun i_12 h => ?_
    refine ⟨h.1, mt h.2 (fun h => ?_) (fun h => ?_)⟩
    ·exact ⟨true, x0, (Sc rfl (Sc rfl Sn)), (Sc rfl Sn), h⟩
    ·refine mV h fun v_13 h => ms h fun s_14 h => mV h fun v_15 h => mI h fun i_16 h => ?_
     exact ⟨(decide (((ByteArray.size s_14 : Nat) : Int) > (wr (65535 - i_16)))), x0, (Sc rfl (Sc rfl Sn)), (Sc rfl Sn), h⟩
 ·rintro env pv hp ⟨x25, k1, he, hv, h⟩
  refine AWP.sub (env' := (upd (upd E0 25 (sB x25)) 1 (sR 1 0))) (pv' := (upd V0 1 (29, k1))) ?_ (RefOk.p 1 1 0 (Ru 25 Rn) (fun e => by cases e)) he hv (HSub.refl _)
  clear he hv
  unfold F67_j1 at h
  refine AWP.cond (t := x25) rfl (fun e => ?_) (fun e => ?_)
  ·replace h := ite2_t h e
   refine AWP.seq' ?_
   refine AWP.rgn (F67_r1 E0  hp _) ?_ Rn Sn Sn
   refine AWP.ret ?_
   exact h
  ·replace h := ite2_f h e
   refine AWP.skip ?_
   refine AWP.seq' ?_
   refine AWP.rgn (F67_r2 E0 k1 hp _) ?_ (RefOk.p 1 1 0 Rn (fun e => by cases e)) (Sc rfl Sn) (Sc rfl Sn)
   refine mV h fun v_1 h => mB h fun q_2 h => ?_
   refine mt h (fun h => ?_) (fun h => ?_)
   ·refine AWP.ret ?_
    exact h
   ·refine mV h fun v_3 h => ms h fun s_4 h => ?_
    refine mt h (fun h => ?_) (fun h => ?_)
    ·refine mV h (fun v_5 h => ms h (fun s_6 h => ⟨h.1, ?_⟩))
     replace h := h.2
     refine AWP.ret ?_
     exact h
    ·refine AWP.ret ?_
     exact h
end
-- 75 (*interpreter/frag.Store).none
section
variable (e : Env) (x0 : Option Addr) (hp : HP) (K : Env → PV → HP → Prop)
abbrev R75 (p : List Nat) (n : Nat) := RW Try.prog 12 [] (opsAt Try.f75 p) (List.range n)
theorem F75_r0 : R75 [0] 1 e V0 hp K =
    (K (upd e 2 (sB false)) V0 hp) := by kernel_rfl
theorem F75_r1 : R75 [1, 0] 10 (upd e 0 (sP x0)) V0 hp K =
    (ite2 (Option.isNone x0) (K (upd (upd (upd (upd (upd (upd (upd (upd (upd (upd (upd e 0 (sP x0)) 3 (sP x0)) 4 (sB ((Option.isNone x0)))) 5 (sB true)) 6 sU) 7 sU) 8 sU) 9 sU) 10 sU) 11 (sB true)) 2 (sB true)) V0 hp) (ptrN x0 fun b1 o2 => (ldV (HP.cell hp b1 (o2 + 4)) fun v3 => (mapV v3 fun m4 => (K (upd (upd (upd (upd (upd (upd (upd (upd (upd (upd (upd e 0 (sP x0)) 3 (sP x0)) 4 (sB ((Option.isNone x0)))) 5 (sB false)) 6 (sP x0)) 7 (sQ b1 o2)) 8 (sQ b1 (o2 + 4))) 9 (sV (.map m4))) 10 (sB ((Option.isNone m4)))) 11 (sB ((Option.isNone m4)))) 2 (sB ((Option.isNone m4)))) V0 hp))))) := by kernel_rfl
def F75 (x0 : Option Addr) (hp : HP) (K : Value → HP → Prop) : Prop :=
  (ite2 (Option.isNone x0) (K (.bool true) hp) (ptrN x0 fun b_1 o_2 => (ldV (HP.cell hp b_1 (o_2 + 4)) fun v_3 => (mapV v_3 fun m_4 => (K (.bool (Option.isNone m_4)) hp)))))
noncomputable def F75_code : Code := (.seq (.region 0 (opsAt Try.f75 [0]) false) (.seq (.region 1 (opsAt Try.f75 [1, 0]) false) .ret))
theorem F75_body : Try.f75.body = some F75_code := by kernel_rfl
theorem F75_ok (x0 : Option Addr) (hp : HP) (K : Value → HP → Prop) (h : F75 x0 hp K) : CF Try.prog 75 [(.pointer x0)] hp K := by
 refine .inl ⟨by kernel_rfl, AC.intro (N := 12) Try.func75 F75_body rfl (Nat.le_of_ble_eq_true rfl) ?_⟩
 unfold F75 at h
 unfold F75_code
 refine AWP.seq' ?_
 refine AWP.rgn (F75_r0 (upd E0 0 (sP x0))  hp _) ?_ (Ru 0 Rn) (Sc rfl Sn) Sn
 refine AWP.seq' ?_
 refine AWP.rgn (F75_r1 E0 x0 hp _) ?_ (Ru 0 Rn) (Sc rfl Sn) Sn
 refine mt h (fun h => ?_) (fun h => ?_)
 ·refine AWP.ret ?_
  exact h
 ·refine mN h fun b_1 o_2 h => mV h fun v_3 h => mM h fun m_4 h => ?_
  refine AWP.ret ?_
  exact h
end
-- 76 slices.ContainsFunc[[]interpreter/frag.Piece,interpreter/frag.Piece]
section
variable (e : Env) (x0a : Option Addr) (x0n x0c : Nat) (x1 : Value) (hp : HP) (K : Env → PV → HP → Prop)
abbrev R76 (p : List Nat) (n : Nat) := RW Try.prog 9 [] (opsAt Try.f76 p) (List.range n)
theorem F76_r0 : R76 [0] 1 e V0 hp K =
    (K (upd e 4 (sB false)) V0 hp) := by kernel_rfl
theorem F76_r1 : R76 [1, 0] 5 (upd (upd e 1 (sV x1)) 0 (sS x0a x0n x0c)) V0 hp K =
    (CF Try.prog 121 [(.slice x0a x0n x0c), x1] hp fun u1 h2 => (intV u1 .i64 fun i3 => (K (upd (upd (upd (upd (upd (upd (upd e 1 (sV x1)) 0 (sS x0a x0n x0c)) 5 (sS x0a x0n x0c)) 6 (sV x1)) 7 (sI i3)) 8 (sB (decide (i3 ≥ 0)))) 4 (sB (decide (i3 ≥ 0)))) V0 h2))) := by kernel_rfl
def F76 (x0a : Option Addr) (x0n : Nat) (x0c : Nat) (x1 : Value) (hp : HP) (K : Value → HP → Prop) : Prop :=
  (CF Try.prog 121 [(.slice x0a x0n x0c), x1] hp fun u_1 h_2 => (intV u_1 .i64 fun i_3 => (K (.bool (decide (i_3 ≥ 0))) h_2)))
noncomputable def F76_code : Code := (.seq (.region 0 (opsAt Try.f76 [0]) false) (.seq (.region 1 (opsAt Try.f76 [1, 0]) false) .ret))
theorem F76_body : Try.f76.body = some F76_code := by kernel_rfl
theorem F76_ok (x0a : Option Addr) (x0n : Nat) (x0c : Nat) (x1 : Value) (hp : HP) (K : Value → HP → Prop) (h : F76 x0a x0n x0c x1 hp K) : CF Try.prog 76 [(.slice x0a x0n x0c), x1] hp K := by
 refine .inl ⟨by kernel_rfl, AC.intro (N := 9) Try.func76 F76_body rfl (Nat.le_of_ble_eq_true rfl) ?_⟩
 unfold F76 at h
 unfold F76_code
 refine AWP.seq' ?_
 refine AWP.rgn (F76_r0 (upd (upd E0 1 (sV x1)) 0 (sS x0a x0n x0c))  hp _) ?_ (Ru 0 (Ru 1 Rn)) (Sc rfl (Sc rfl Sn)) Sn
 refine AWP.seq' ?_
 refine AWP.rgn (F76_r1 E0 x0a x0n x0c x1 hp _) ?_ (Ru 0 (Ru 1 Rn)) (Sc rfl (Sc rfl Sn)) Sn
 refine mC h fun u_1 h_2 h => mI h fun i_3 h => ?_
 refine AWP.ret ?_
 exact h
end
-- 77 (interpreter/frag.Piece).same
section
variable (e : Env) (x0 x1 k2 k3 : List Value) (hp : HP) (K : Env → PV → HP → Prop)
abbrev R77 (p : List Nat) (n : Nat) := RW Try.prog 24 [2, 3, 5, 7, 11, 13, 18, 20] (opsAt Try.f77 p) (List.range n)
theorem F77_r0 : R77 [0] 3 (upd (upd e 1 (sA x1)) 0 (sA x0)) V0 hp K =
    (K (upd (upd (upd (upd (upd e 1 (sA x1)) 0 (sA x0)) 2 (sR 2 0)) 3 (sR 3 0)) 4 (sB false)) (upd (upd V0 2 (29, x0)) 3 (29, x1)) hp) := by kernel_rfl
theorem F77_r1 : R77 [1, 0] 20 (upd (upd e 3 (sR 3 0)) 2 (sR 2 0)) (upd (upd V0 3 (29, k3)) 2 (29, k2)) hp K =
    (ldV (k2)[2]? fun v1 => (intV v1 .i64 fun i2 => (ldV (k3)[2]? fun v3 => (intV v3 .i64 fun i4 => (ite2 (i2 == i4) (ldV (k2)[3]? fun v5 => (boolV v5 fun q6 => (ldV (k3)[3]? fun v7 => (boolV v7 fun q8 => (ite2 (q6 == q8) (ldV (k2)[4]? fun v9 => (strV v9 fun s10 => (ldV (k3)[4]? fun v11 => (strV v11 fun s12 => (K (upd (upd (upd (upd (upd (upd (upd (upd (upd (upd (upd (upd (upd (upd (upd (upd (upd (upd (upd (upd (upd (upd e 3 (sR 3 0)) 2 (sR 2 0)) 5 (sR 2 2)) 6 (sI i2)) 7 (sR 3 2)) 8 (sI i4)) 9 (sB ((i2 == i4)))) 10 (sB true)) 11 (sR 2 3)) 12 (sB q6)) 13 (sR 3 3)) 14 (sB q8)) 15 (sB ((q6 == q8)))) 16 (sB ((q6 == q8)))) 17 (sB true)) 18 (sR 2 4)) 19 (sV (.string s10))) 20 (sR 3 4)) 21 (sV (.string s12))) 22 (sB (((ByteArray.toList s10) == (ByteArray.toList s12))))) 23 (sB (((ByteArray.toList s10) == (ByteArray.toList s12))))) 4 (sB (((ByteArray.toList s10) == (ByteArray.toList s12))))) (upd (upd V0 3 (29, k3)) 2 (29, k2)) hp))))) (K (upd (upd (upd (upd (upd (upd (upd (upd (upd (upd (upd (upd (upd (upd (upd (upd (upd (upd (upd (upd (upd (upd e 3 (sR 3 0)) 2 (sR 2 0)) 5 (sR 2 2)) 6 (sI i2)) 7 (sR 3 2)) 8 (sI i4)) 9 (sB ((i2 == i4)))) 10 (sB true)) 11 (sR 2 3)) 12 (sB q6)) 13 (sR 3 3)) 14 (sB q8)) 15 (sB ((q6 == q8)))) 16 (sB ((q6 == q8)))) 17 (sB false)) 18 sU) 19 sU) 20 sU) 21 sU) 22 sU) 23 (sB false)) 4 (sB false)) (upd (upd V0 3 (29, k3)) 2 (29, k2)) hp)))))) (K (upd (upd (upd (upd (upd (upd (upd (upd (upd (upd (upd (upd (upd (upd (upd (upd (upd (upd (upd (upd (upd (upd e 3 (sR 3 0)) 2 (sR 2 0)) 5 (sR 2 2)) 6 (sI i2)) 7 (sR 3 2)) 8 (sI i4)) 9 (sB ((i2 == i4)))) 10 (sB false)) 11 sU) 12 sU) 13 sU) 14 sU) 15 sU) 16 (sB false)) 17 (sB false)) 18 sU) 19 sU) 20 sU) 21 sU) 22 sU) 23 (sB false)) 4 (sB false)) (upd (upd V0 3 (29, k3)) 2 (29, k2)) hp)))))) := by kernel_rfl
def F77 (x0 : List Value) (x1 : List Value) (hp : HP) (K : Value → HP → Prop) : Prop :=
  (ldV (x0)[2]? fun v_1 => (intV v_1 .i64 fun i_2 => (ldV (x1)[2]? fun v_3 => (intV v_3 .i64 fun i_4 => (ite2 (i_2 == i_4) (ldV (x0)[3]? fun v_5 => (boolV v_5 fun q_6 => (ldV (x1)[3]? fun v_7 => (boolV v_7 fun q_8 => (ite2 (q_6 == q_8) (ldV (x0)[4]? fun v_9 => (strV v_9 fun s_10 => (ldV (x1)[4]? fun v_11 => (strV v_11 fun s_12 => (K (.bool ((ByteArray.toList s_10) == (ByteArray.toList s_12))) hp))))) (K (.bool false) hp)))))) (K (.bool false) hp))))))
noncomputable def F77_code : Code := (.seq (.region 0 (opsAt Try.f77 [0]) false) (.seq (.region 1 (opsAt Try.f77 [1, 0]) false) .ret))
theorem F77_body : Try.f77.body = some F77_code := by kernel_rfl
theorem F77_ok (x0 : List Value) (x1 : List Value) (hp : HP) (K : Value → HP → Prop) (h : F77 x0 x1 hp K) : CF Try.prog 77 [(.agg ⟨x0⟩), (.agg ⟨x1⟩)] hp K := by
 refine .inl ⟨by kernel_rfl, AC.intro (N := 24) Try.func77 F77_body rfl (Nat.le_of_ble_eq_true rfl) ?_⟩
 unfold F77 at h
 unfold F77_code
 refine AWP.seq' ?_
 refine AWP.rgn (F77_r0 E0 x0 x1 hp _) ?_ (Ru 0 (Ru 1 Rn)) (Sc rfl (Sc rfl Sn)) Sn
 refine AWP.seq' ?_
 refine AWP.rgn (F77_r1 E0 x0 x1 hp _) ?_ (RefOk.p 2 2 0 (RefOk.p 3 3 0 Rn (fun e => by cases e)) (fun e => by cases e)) (Sc rfl (Sc rfl Sn)) (Sc rfl (Sc rfl Sn))
 refine mV h fun v_1 h => mI h fun i_2 h => mV h fun v_3 h => mI h fun i_4 h => ?_
 refine mt h (fun h => ?_) (fun h => ?_)
 ·refine mV h fun v_5 h => mB h fun q_6 h => mV h fun v_7 h => mB h fun q_8 h => ?_
  refine mt h (fun h => ?_) (fun h => ?_)
  ·refine mV h fun v_9 h => ms h fun s_10 h => mV h fun v_11 h => ms h fun s_12 h => ?_
   refine AWP.ret ?_
   exact h
  ·refine AWP.ret ?_
   exact h
 ·refine AWP.ret ?_
  exact h
end
-- 78 (*interpreter/frag.datagram).fits
section
variable (e : Env) (x0 : Option Addr) (x1 : List Value) (x3 : Option Addr) (hp : HP) (K : Env → PV → HP → Prop)
abbrev R78 (p : List Nat) (n : Nat) := RW Try.prog 31 [] (opsAt Try.f78 p) (List.range n)
theorem F78_r0 : R78 [0] 2 (upd e 1 (sA x1)) V0 hp K =
    (∀ b1 : Nat, hp b1 = .none → (K (upd (upd (upd e 1 (sA x1)) 3 (sQ b1 0)) 4 (sB false)) V0 (HP.set hp b1 (.cells 29 x1 0)))) := by kernel_rfl
theorem F78_r1 : R78 [1, 0, 1, 0, 0] 1 e V0 hp K =
    (K (upd e 4 (sB false)) V0 hp) := by kernel_rfl
theorem F78_r2 : R78 [1, 1, 0] 8 (upd (upd e 3 (sP x3)) 0 (sP x0)) V0 hp K =
    (ptrN x0 fun b1 o2 => (ldV (HP.cell hp b1 (o2 + 3)) fun v3 => (slcV v3 fun a4 n5 c6 => (CF Try.prog 76 [(.slice a4 n5 c6), (.func (.func 123) ⟨[]⟩ ⟨[(.pointer x3)]⟩)] hp fun u7 h8 => (boolV u7 fun q9 => (K (upd (upd (upd (upd (upd (upd (upd (upd (upd (upd e 3 (sP x3)) 0 (sP x0)) 24 (sP x0)) 25 (sQ b1 o2)) 26 (sQ b1 (o2 + 3))) 27 (sS a4 n5 c6)) 28 (sV (.func (.func 123) ⟨[]⟩ ⟨[(.pointer x3)]⟩))) 29 (sB q9)) 30 (sB ((!q9)))) 4 (sB ((!q9)))) V0 h8)))))) := by kernel_rfl
def F78_j1 (x0 : Option Addr) (x3 : Option Addr) (x23 : Bool) (hp : HP) (K : Value → HP → Prop) : Prop :=
  (ite2 x23 (K (.bool false) hp) (ptrN x0 fun b_2 o_3 => (ldV (HP.cell hp b_2 (o_3 + 3)) fun v_4 => (slcV v_4 fun a_5 n_6 c_7 => (CF Try.prog 76 [(.slice a_5 n_6 c_7), (.func (.func 123) ⟨[]⟩ ⟨[(.pointer x3)]⟩)] hp fun u_8 h_9 => (boolV u_8 fun q_10 => (K (.bool (!q_10)) h_9)))))))
theorem F78_r3 (e : Env) (x0 : Option Addr) (x3 : Option Addr) (hp : HP) (K : Env → PV → HP → Prop) : RW Try.prog 31 [] (opsAt Try.f78 [1, 0, 0]) [0, 1, 2, 3, 4, 5, 6, 7, 8, 9, 10, 11, 12, 13, 14, 15, 16, 17, 18] (upd (upd e 3 (sP x3)) 0 (sP x0)) V0 hp K =
    (ptrN x0 fun b1 o2 => (ldV (HP.cell hp b1 (o2 + 2)) fun v3 => (intV v3 .i64 fun i4 => (ite2 (decide (i4 ≥ 0)) (ptrN x3 fun b5 o6 => (ldV (HP.cell hp b5 (o6 + 3)) fun v7 => (boolV v7 fun q8 => (ite2 (!q8) (K (upd (upd (upd (upd (upd (upd (upd (upd (upd (upd (upd (upd (upd (upd (upd (upd (upd (upd (upd (upd (upd e 3 (sP x3)) 0 (sP x0)) 5 (sP x0)) 6 (sQ b1 o2)) 7 (sQ b1 (o2 + 2))) 8 (sI i4)) 9 (sB (decide (i4 ≥ 0)))) 10 (sB true)) 11 (sQ b5 (o6 + 3))) 12 (sB q8)) 13 (sB ((!q8)))) 14 (sB true)) 15 sU) 16 sU) 17 sU) 18 sU) 19 sU) 20 sU) 21 sU) 22 (sB true)) 23 (sB true)) V0 hp) (ptrN x3 fun b9 o10 => (ldL (HP.cellN hp b9 o10 6) fun l11 => (CF Try.prog 122 [(.agg ⟨l11⟩)] hp fun u12 h13 => (intV u12 .i64 fun i14 => (ptrN x0 fun b15 o16 => (ldV (HP.cell h13 b15 (o16 + 2)) fun v17 => (intV v17 .i64 fun i18 => (K (upd (upd (upd (upd (upd (upd (upd (upd (upd (upd (upd (upd (upd (upd (upd (upd (upd (upd (upd (upd (upd e 3 (sP x3)) 0 (sP x0)) 5 (sP x0)) 6 (sQ b1 o2)) 7 (sQ b1 (o2 + 2))) 8 (sI i4)) 9 (sB (decide (i4 ≥ 0)))) 10 (sB true)) 11 (sQ b5 (o6 + 3))) 12 (sB q8)) 13 (sB ((!q8)))) 14 (sB false)) 15 (sA l11)) 16 (sI i14)) 17 (sP x0)) 18 (sQ b15 o16)) 19 (sQ b15 (o16 + 2))) 20 (sI i18)) 21 (sB (decide (i14 > i18)))) 22 (sB (decide (i14 > i18)))) 23 (sB (decide (i14 > i18)))) V0 h13)))))))))))) (K (upd (upd (upd (upd (upd (upd (upd (upd (upd (upd (upd (upd (upd (upd (upd (upd (upd (upd (upd (upd (upd e 3 (sP x3)) 0 (sP x0)) 5 (sP x0)) 6 (sQ b1 o2)) 7 (sQ b1 (o2 + 2))) 8 (sI i4)) 9 (sB (decide (i4 ≥ 0)))) 10 (sB false)) 11 sU) 12 sU) 13 sU) 14 sU) 15 sU) 16 sU) 17 sU) 18 sU) 19 sU) 20 sU) 21 sU) 22 sU) 23 (sB false)) V0 hp))))) := by kernel_rfl
theorem F78_r4 (e : Env) (x0 : Option Addr) (x3 : Option Addr) (hp : HP) (K : Env → PV → HP → Prop) : RW Try.prog 31 [] (opsAt Try.f78 [1, 0, 0]) [0, 1, 2, 3, 4, 5, 6, 7, 8, 9, 10, 12, 13, 14, 15, 11, 16, 17, 18] (upd (upd e 3 (sP x3)) 0 (sP x0)) V0 hp K =
    (ptrN x0 fun b1 o2 => (ldV (HP.cell hp b1 (o2 + 2)) fun v3 => (intV v3 .i64 fun i4 => (ite2 (decide (i4 ≥ 0)) (ptrN x3 fun b5 o6 => (ldV (HP.cell hp b5 (o6 + 3)) fun v7 => (boolV v7 fun q8 => (ite2 (!q8) (K (upd (upd (upd (upd (upd (upd (upd (upd (upd (upd (upd (upd (upd (upd (upd (upd (upd (upd (upd (upd (upd e 3 (sP x3)) 0 (sP x0)) 5 (sP x0)) 6 (sQ b1 o2)) 7 (sQ b1 (o2 + 2))) 8 (sI i4)) 9 (sB (decide (i4 ≥ 0)))) 10 (sB true)) 11 (sQ b5 (o6 + 3))) 12 (sB q8)) 13 (sB ((!q8)))) 14 (sB true)) 15 sU) 17 sU) 18 sU) 19 sU) 20 sU) 16 sU) 21 sU) 22 (sB true)) 23 (sB true)) V0 hp) (ptrN x3 fun b9 o10 => (ldL (HP.cellN hp b9 o10 6) fun l11 => (ptrN x0 fun b12 o13 => (ldV (HP.cell hp b12 (o13 + 2)) fun v14 => (intV v14 .i64 fun i15 => (CF Try.prog 122 [(.agg ⟨l11⟩)] hp fun u16 h17 => (intV u16 .i64 fun i18 => (K (upd (upd (upd (upd (upd (upd (upd (upd (upd (upd (upd (upd (upd (upd (upd (upd (upd (upd (upd (upd (upd e 3 (sP x3)) 0 (sP x0)) 5 (sP x0)) 6 (sQ b1 o2)) 7 (sQ b1 (o2 + 2))) 8 (sI i4)) 9 (sB (decide (i4 ≥ 0)))) 10 (sB true)) 11 (sQ b5 (o6 + 3))) 12 (sB q8)) 13 (sB ((!q8)))) 14 (sB false)) 15 (sA l11)) 17 (sP x0)) 18 (sQ b12 o13)) 19 (sQ b12 (o13 + 2))) 20 (sI i15)) 16 (sI i18)) 21 (sB (decide (i18 > i15)))) 22 (sB (decide (i18 > i15)))) 23 (sB (decide (i18 > i15)))) V0 h17)))))))))))) (K (upd (upd (upd (upd (upd (upd (upd (upd (upd (upd (upd (upd (upd (upd (upd (upd (upd (upd (upd (upd (upd e 3 (sP x3)) 0 (sP x0)) 5 (sP x0)) 6 (sQ b1 o2)) 7 (sQ b1 (o2 + 2))) 8 (sI i4)) 9 (sB (decide (i4 ≥ 0)))) 10 (sB false)) 11 sU) 12 sU) 13 sU) 14 sU) 15 sU) 17 sU) 18 sU) 19 sU) 20 sU) 16 sU) 21 sU) 22 sU) 23 (sB false)) V0 hp))))) := by kernel_rfl
def F78 (x0 : Option Addr) (x1 : List Value) (hp : HP) (K : Value → HP → Prop) : Prop :=
  (∀ b_1 : Nat, hp b_1 = .none → ((ptrN x0 fun b_11 o_12 => (ldV (HP.cell (HP.set hp b_1 (.cells 29 x1 0)) b_11 (o_12 + 2)) fun v_13 => (intV v_13 .i64 fun i_14 => (ite2 (decide (i_14 ≥ 0)) (ptrN (some ⟨b_1, 0, none⟩) fun b_15 o_16 => (ldV (HP.cell (HP.set hp b_1 (.cells 29 x1 0)) b_15 (o_16 + 3)) fun v_17 => (boolV v_17 fun q_18 => (ite2 (!q_18) (F78_j1 x0 (some ⟨b_1, 0, none⟩) true (HP.set hp b_1 (.cells 29 x1 0))  K) (ptrN (some ⟨b_1, 0, none⟩) fun b_19 o_20 => (ldL (HP.cellN (HP.set hp b_1 (.cells 29 x1 0)) b_19 o_20 6) fun l_21 => (CF Try.prog 122 [(.agg ⟨l_21⟩)] (HP.set hp b_1 (.cells 29 x1 0)) fun u_22 h_23 => (intV u_22 .i64 fun i_24 => (ptrN x0 fun b_25 o_26 => (ldV (HP.cell h_23 b_25 (o_26 + 2)) fun v_27 => (intV v_27 .i64 fun i_28 => (F78_j1 x0 (some ⟨b_1, 0, none⟩) (decide (i_24 > i_28)) h_23  K)))))))))))) (F78_j1 x0 (some ⟨b_1, 0, none⟩) false (HP.set hp b_1 (.cells 29 x1 0))  K))))) ∧ (ptrN x0 fun b_29 o_30 => (ldV (HP.cell (HP.set hp b_1 (.cells 29 x1 0)) b_29 (o_30 + 2)) fun v_31 => (intV v_31 .i64 fun i_32 => (ite2 (decide (i_32 ≥ 0)) (ptrN (some ⟨b_1, 0, none⟩) fun b_33 o_34 => (ldV (HP.cell (HP.set hp b_1 (.cells 29 x1 0)) b_33 (o_34 + 3)) fun v_35 => (boolV v_35 fun q_36 => (ite2 (!q_36) (F78_j1 x0 (some ⟨b_1, 0, none⟩) true (HP.set hp b_1 (.cells 29 x1 0))  K) (ptrN (some ⟨b_1, 0, none⟩) fun b_37 o_38 => (ldL (HP.cellN (HP.set hp b_1 (.cells 29 x1 0)) b_37 o_38 6) fun l_39 => (ptrN x0 fun b_40 o_41 => (ldV (HP.cell (HP.set hp b_1 (.cells 29 x1 0)) b_40 (o_41 + 2)) fun v_42 => (intV v_42 .i64 fun i_43 => (CF Try.prog 122 [(.agg ⟨l_39⟩)] (HP.set hp b_1 (.cells 29 x1 0)) fun u_44 h_45 => (intV u_44 .i64 fun i_46 => (F78_j1 x0 (some ⟨b_1, 0, none⟩) (decide (i_46 > i_43)) h_45  K)))))))))))) (F78_j1 x0 (some ⟨b_1, 0, none⟩) false (HP.set hp b_1 (.cells 29 x1 0))  K)))))))
noncomputable def F78_code : Code := (.seq (.region 0 (opsAt Try.f78 [0]) false) (.seq (.seq (.region 1 (opsAt Try.f78 [1, 0, 0]) true) (.cond (.tmp 23) (.seq (.region 2 (opsAt Try.f78 [1, 0, 1, 0, 0]) false) .ret) .skip)) (.seq (.region 3 (opsAt Try.f78 [1, 1, 0]) false) .ret)))
theorem F78_body : Try.f78.body = some F78_code := by kernel_rfl
theorem F78_ok (x0 : Option Addr) (x1 : List Value) (hp : HP) (K : Value → HP → Prop) (h : F78 x0 x1 hp K) : CF Try.prog 78 [(.pointer x0), (.agg ⟨x1⟩)] hp K := by
 refine .inl ⟨by kernel_rfl, AC.intro (N := 31) Try.func78 F78_body rfl (Nat.le_of_ble_eq_true rfl) ?_⟩
 unfold F78 at h
 unfold F78_code
 refine AWP.seq' ?_
 refine AWP.rgn (F78_r0 (upd E0 0 (sP x0)) x1 hp _) ?_ (Ru 1 (Ru 0 Rn)) (Sc rfl (Sc rfl Sn)) Sn
 refine fun b_1 hb_b_1 => ?_
 replace h := h b_1 hb_b_1
 refine AWP.seq' ?_
 refine AWP.seq (fun env pv hp => ∃ (x0 : Option Addr) (x3 : Option Addr) (x23 : Bool), Sub (upd (upd (upd E0 23 (sB x23)) 3 (sP x3)) 0 (sP x0)) env ∧ Sub V0 pv ∧ (F78_j1 x0 x3 x23 hp  K)) ?_ ?_
 ·refine AWP.rgnC (cf := [(11, 15)]) (c := [([true], true, [0, 1, 2, 3, 4, 5, 6, 7, 8, 9, 10, 11, 12, 13, 14, 15, 16, 17, 18]), ([false], true, [0, 1, 2, 3, 4, 5, 6, 7, 8, 9, 10, 12, 13, 14, 15, 11, 16, 17, 18])]) (by kernel_rfl) (by kernel_rfl) (by kernel_rfl) (by kernel_rfl) (allO_t (Eq.mpr (F78_r3 E0 x0 (some ⟨b_1, 0, none⟩) (HP.set hp b_1 (.cells 29 x1 0)) _) ?_) (allO_t (Eq.mpr (F78_r4 E0 x0 (some ⟨b_1, 0, none⟩) (HP.set hp b_1 (.cells 29 x1 0)) _) ?_) trivial)) (Ru 0 (Ru 3 Rn)) (Sc rfl (Sc rfl Sn)) Sn
  ·replace h := h.1
   refine mN h fun b_11 o_12 h => mV h fun v_13 h => mI h fun i_14 h => ?_
   refine mt h (fun h => ?_) (fun h => ?_)
   ·refine mN h fun b_15 o_16 h => mV h fun v_17 h => mB h fun q_18 h => ?_
    refine mt h (fun h => ?_) (fun h => ?_)
    ·exact ⟨x0, (some ⟨b_1, 0, none⟩), true, (Sc rfl (Sc rfl (Sc rfl Sn))), Sn, h⟩
    ·refine mN h fun b_19 o_20 h => mL h fun l_21 h => mC h fun u_22 h_23 h => mI h fun i_24 h => mN h fun b_25 o_26 h => mV h fun v_27 h => mI h fun i_28 h => ?_
     exact ⟨x0, (some ⟨b_1, 0, none⟩), (decide (i_24 > i_28)), (Sc rfl (Sc rfl (Sc rfl Sn))), Sn, h⟩
   ·exact ⟨x0, (some ⟨b_1, 0, none⟩), false, (Sc rfl (Sc rfl (Sc rfl Sn))), Sn, h⟩
  ·replace h := h.2
   refine mN h fun b_29 o_30 h => mV h fun v_31 h => mI h fun i_32 h => ?_
   refine mt h (fun h => ?_) (fun h => ?_)
   ·refine mN h fun b_33 o_34 h => mV h fun v_35 h => mB h fun q_36 h => ?_
    refine mt h (fun h => ?_) (fun h => ?_)
    ·exact ⟨x0, (some ⟨b_1, 0, none⟩), true, (Sc rfl (Sc rfl (Sc rfl Sn))), Sn, h⟩
    ·refine mN h fun b_37 o_38 h => mL h fun l_39 h => mN h fun b_40 o_41 h => mV h fun v_42 h => mI h fun i_43 h => mC h fun u_44 h_45 h => mI h fun i_46 h => ?_
     exact ⟨x0, (some ⟨b_1, 0, none⟩), (decide (i_46 > i_43)), (Sc rfl (Sc rfl (Sc rfl Sn))), Sn, h⟩
   ·exact ⟨x0, (some ⟨b_1, 0, none⟩), false, (Sc rfl (Sc rfl (Sc rfl Sn))), Sn, h⟩
 ·rintro env pv hp ⟨x0, x3, x23, he, hv, h⟩
  refine AWP.sub (env' := (upd (upd (upd E0 23 (sB x23)) 3 (sP x3)) 0 (sP x0))) (pv' := V0) ?_ (Ru 0 (Ru 3 (Ru 23 Rn))) he hv (HSub.refl _)
  clear he hv
  unfold F78_j1 at h
  refine AWP.cond (t := x23) rfl (fun e => ?_) (fun e => ?_)
  ·replace h := ite2_t h e
   refine AWP.seq' ?_
   refine AWP.rgn (F78_r1 E0  hp _) ?_ Rn Sn Sn
   refine AWP.ret ?_
   exact h
  ·replace h := ite2_f h e
   refine AWP.skip ?_
   refine AWP.seq' ?_
   refine AWP.rgn (F78_r2 E0 x0 x3 hp _) ?_ (Ru 0 (Ru 3 Rn)) (Sc rfl (Sc rfl Sn)) Sn
   refine mN h fun b_2 o_3 h => mV h fun v_4 h => mS h fun a_5 n_6 c_7 h => mC h fun u_8 h_9 h => mB h fun q_10 h => ?_
   refine AWP.ret ?_
   exact h
end
-- 79 (*interpreter/frag.Store).cut
section
variable (e : Env) (x0 : Option Addr) (x1 : ByteArray) (x14a : Option Addr) (x14n x14c : Nat) (x15 x16 : Int) (k5 : List Value) (hp : HP) (K : Env → PV → HP → Prop)
abbrev R79 (p : List Nat) (n : Nat) := RW Try.prog 55 [5, 31, 39, 47] (opsAt Try.f79 p) (List.range n)
theorem F79_r0 : R79 [1] 6 (upd (upd e 1 (sV (.string x1))) 0 (sP x0)) V0 hp K =
    (ptrN x0 fun b1 o2 => (ldV (HP.cell hp b1 (o2 + 4)) fun v3 => (mapV v3 fun m4 => (opS Try.prog (Builtin.delete_ #[128, 9] 0 ⟨[(.map m4), (.string x1)]⟩) hp fun u5 h6 => (K (upd (upd (upd (upd (upd (upd (upd e 1 (sV (.string x1))) 0 (sP x0)) 50 (sP x0)) 51 (sQ b1 o2)) 52 (sQ b1 (o2 + 4))) 53 (sV (.map m4))) 54 (sV (.string x1))) V0 h6))))) := by kernel_rfl
def F79_j1 (x0 : Option Addr) (x1 : ByteArray) (hp : HP) (K : Value → HP → Prop) : Prop :=
  (ptrN x0 fun b_1 o_2 => (ldV (HP.cell hp b_1 (o_2 + 4)) fun v_3 => (mapV v_3 fun m_4 => (opS Try.prog (Builtin.delete_ #[128, 9] 0 ⟨[(.map m_4), (.string x1)]⟩) hp fun u_5 h_6 => (K (.tuple ⟨[]⟩) h_6)))))
theorem F79_r1 : R79 [0, 1, 0, 0, 0] 1 (upd (upd e 16 (sI x16)) 15 (sI x15)) V0 hp K =
    (K (upd (upd (upd e 16 (sI x16)) 15 (sI x15)) 17 (sB (decide (x16 < x15)))) V0 hp) := by kernel_rfl
theorem F79_r2 : R79 [0, 1, 0, 0, 1, 1, 1] 2 (upd e 16 (sI x16)) V0 hp K =
    (K (upd (upd (upd e 16 (sI x16)) 49 (sI ((wr (x16 + 1))))) 16 (sI ((wr (x16 + 1))))) V0 hp) := by kernel_rfl
def F79_j4 (x0 : Option Addr) (x1 : ByteArray) (x14a : Option Addr) (x14n : Nat) (x14c : Nat) (x15 : Int) (x16 : Int) (hp : HP) (I3 : (Int) → HP → Prop) (K : Value → HP → Prop) : Prop :=
  (I3 (IntKind.wrap .i64 (x16 + 1)) hp)
theorem F79_r3 : R79 [0, 1, 0, 0, 1, 1, 0, 0, 0] 4 (upd (upd e 16 (sI x16)) 14 (sS x14a x14n x14c)) V0 hp K =
    ((0 ≤ x16) ∧ (x16 < x14n) ∧ (ptrN x14a fun b1 o2 => (ldL (HP.cellN hp b1 (o2 + Int.toNat x16 * 6) 6) fun l3 => (if List.length l3 = 6 then (if List.all l3 one = true then (if 0 + List.length l3 ≤ List.length [(Value.string ⟨#[]⟩), .string ⟨#[]⟩, .int .i64 0, .bool false, .string ⟨#[]⟩, .string ⟨#[]⟩] then (K (upd (upd (upd (upd (upd e 16 (sI x16)) 14 (sS x14a x14n x14c)) 18 (sQ b1 (o2 + Int.toNat x16 * 6))) 19 (sA l3)) 5 (sR 5 0)) (upd (upd V0 5 (29, [.string ⟨#[]⟩, .string ⟨#[]⟩, .int .i64 0, .bool false, .string ⟨#[]⟩, .string ⟨#[]⟩])) 5 (29, (splice [.string ⟨#[]⟩, .string ⟨#[]⟩, .int .i64 0, .bool false, .string ⟨#[]⟩, .string ⟨#[]⟩] 0 l3))) hp) else False) else False) else False)))) := by kernel_rfl
theorem F79_r4 : R79 [0, 1, 0, 0, 1, 1, 0, 0, 1, 0] 8 (upd e 0 (sP x0)) (upd V0 5 (29, k5)) hp K =
    (ptrN x0 fun b1 o2 => (ldV (HP.cell hp b1 (o2 + 3)) fun v3 => (intV v3 .i64 fun i4 => (ptrN x0 fun b5 o6 => (HP.st hp b5 (o6 + 3) (.int .i64 (wr (i4 - 1))) fun h7 => (K (upd (upd (upd (upd (upd (upd (upd (upd e 0 (sP x0)) 20 (sP x0)) 21 (sQ b1 o2)) 22 (sQ b1 (o2 + 3))) 23 (sI i4)) 24 (sI ((wr (i4 - 1))))) 25 (sQ b5 o6)) 26 (sQ b5 (o6 + 3))) (upd V0 5 (29, k5)) h7)))))) := by kernel_rfl
theorem F79_r5 : R79 [0, 1, 0, 0, 1, 1, 0, 0, 1, 1, 0] 9 (upd (upd e 5 (sR 5 0)) 0 (sP x0)) (upd V0 5 (29, k5)) hp K =
    (ptrN x0 fun b1 o2 => (ldV (HP.cell hp b1 (o2 + 5)) fun v3 => (mapV v3 fun m4 => (ldV (k5)[1]? fun v5 => (strV v5 fun s6 => (rdS Try.prog (Instr.lookup 97 (.map m4) (.string s6) false) hp fun u7 => (intV u7 .i64 fun i8 => (opS Try.prog (Instr.mapUpdate 97 (.map m4) (.string s6) (.int .i64 (wr (i8 - 1)))) hp fun u9 h10 => (K (upd (upd (upd (upd (upd (upd (upd (upd (upd (upd e 5 (sR 5 0)) 0 (sP x0)) 27 (sP x0)) 28 (sQ b1 o2)) 29 (sQ b1 (o2 + 5))) 30 (sV (.map m4))) 31 (sR 5 1)) 32 (sV (.string s6))) 33 (sI i8)) 34 (sI ((wr (i8 - 1))))) (upd V0 5 (29, k5)) h10))))))))) := by kernel_rfl
theorem F79_r6 : R79 [0, 1, 0, 0, 1, 1, 0, 0, 1, 1, 1, 0] 8 (upd (upd e 5 (sR 5 0)) 0 (sP x0)) (upd V0 5 (29, k5)) hp K =
    (ptrN x0 fun b1 o2 => (ldV (HP.cell hp b1 (o2 + 5)) fun v3 => (mapV v3 fun m4 => (ldV (k5)[1]? fun v5 => (strV v5 fun s6 => (rdS Try.prog (Instr.lookup 97 (.map m4) (.string s6) false) hp fun u7 => (intV u7 .i64 fun i8 => (K (upd (upd (upd (upd (upd (upd (upd (upd (upd (upd e 5 (sR 5 0)) 0 (sP x0)) 35 (sP x0)) 36 (sQ b1 o2)) 37 (sQ b1 (o2 + 5))) 38 (sV (.map m4))) 39 (sR 5 1)) 40 (sV (.string s6))) 41 (sI i8)) 42 (sB ((i8 == 0)))) (upd V0 5 (29, k5)) hp)))))))) := by kernel_rfl
theorem F79_r7 : R79 [0, 1, 0, 0, 1, 1, 0, 0, 1, 1, 1, 1, 0] 7 (upd (upd e 5 (sR 5 0)) 0 (sP x0)) (upd V0 5 (29, k5)) hp K =
    (ptrN x0 fun b1 o2 => (ldV (HP.cell hp b1 (o2 + 5)) fun v3 => (mapV v3 fun m4 => (ldV (k5)[1]? fun v5 => (strV v5 fun s6 => (opS Try.prog (Builtin.delete_ #[97, 9] 0 ⟨[(.map m4), (.string s6)]⟩) hp fun u7 h8 => (K (upd (upd (upd (upd (upd (upd (upd (upd e 5 (sR 5 0)) 0 (sP x0)) 43 (sP x0)) 44 (sQ b1 o2)) 45 (sQ b1 (o2 + 5))) 46 (sV (.map m4))) 47 (sR 5 1)) 48 (sV (.string s6))) (upd V0 5 (29, k5)) h8))))))) := by kernel_rfl
def F79_l3 (x0 : Option Addr) (x1 : ByteArray) (x14a : Option Addr) (x14n : Nat) (x14c : Nat) (x15 : Int) (K : Value → HP → Prop) (I3 : (Int) → HP → Prop) (x16 : Int) (hp : HP) : Prop :=
  (ite2 (decide (x16 < x15)) ((0 ≤ x16) ∧ (x16 < x14n) ∧ (ptrN x14a fun b_7 o_8 => (ldL (HP.cellN hp b_7 (o_8 + Int.toNat x16 * 6) 6) fun l_9 => (if List.length l_9 = 6 then (if List.all l_9 one = true then (if 0 + List.length l_9 ≤ List.length [(Value.string ⟨#[]⟩), .string ⟨#[]⟩, .int .i64 0, .bool false, .string ⟨#[]⟩, .string ⟨#[]⟩] then (ptrN x0 fun b_10 o_11 => (ldV (HP.cell hp b_10 (o_11 + 3)) fun v_12 => (intV v_12 .i64 fun i_13 => (ptrN x0 fun b_14 o_15 => (HP.st hp b_14 (o_15 + 3) (.int .i64 (IntKind.wrap .i64 (i_13 - 1))) fun h_16 => (ptrN x0 fun b_17 o_18 => (ldV (HP.cell h_16 b_17 (o_18 + 5)) fun v_19 => (mapV v_19 fun m_20 => (ldV ((splice [.string ⟨#[]⟩, .string ⟨#[]⟩, .int .i64 0, .bool false, .string ⟨#[]⟩, .string ⟨#[]⟩] 0 l_9))[1]? fun v_21 => (strV v_21 fun s_22 => (rdS Try.prog (Instr.lookup 97 (.map m_20) (.string s_22) false) h_16 fun u_23 => (intV u_23 .i64 fun i_24 => (opS Try.prog (Instr.mapUpdate 97 (.map m_20) (.string s_22) (.int .i64 (IntKind.wrap .i64 (i_24 - 1)))) h_16 fun u_25 h_26 => (ptrN x0 fun b_27 o_28 => (ldV (HP.cell h_26 b_27 (o_28 + 5)) fun v_29 => (mapV v_29 fun m_30 => (ldV ((splice [.string ⟨#[]⟩, .string ⟨#[]⟩, .int .i64 0, .bool false, .string ⟨#[]⟩, .string ⟨#[]⟩] 0 l_9))[1]? fun v_31 => (strV v_31 fun s_32 => (rdS Try.prog (Instr.lookup 97 (.map m_30) (.string s_32) false) h_26 fun u_33 => (intV u_33 .i64 fun i_34 => (ite2 (i_34 == 0) (ptrN x0 fun b_35 o_36 => (ldV (HP.cell h_26 b_35 (o_36 + 5)) fun v_37 => (mapV v_37 fun m_38 => (ldV ((splice [.string ⟨#[]⟩, .string ⟨#[]⟩, .int .i64 0, .bool false, .string ⟨#[]⟩, .string ⟨#[]⟩] 0 l_9))[1]? fun v_39 => (strV v_39 fun s_40 => (opS Try.prog (Builtin.delete_ #[97, 9] 0 ⟨[(.map m_38), (.string s_40)]⟩) h_26 fun u_41 h_42 => (F79_j4 x0 x1 x14a x14n x14c x15 x16 h_42 I3 K))))))) (F79_j4 x0 x1 x14a x14n x14c x15 x16 h_26 I3 K)))))))))))))))))))))) else False) else False) else False)))) (F79_j1 x0 x1 hp  K))
def F79_j2 (x0 : Option Addr) (x1 : ByteArray) (x14a : Option Addr) (x14n : Nat) (x14c : Nat) (x15 : Int) (x16 : Int) (hp : HP) (K : Value → HP → Prop) : Prop :=
  (LoopP (σ := Int) (fun I s hp => F79_l3 x0 x1 x14a x14n x14c x15  K I s hp) x16 hp)
theorem F79_r8 : R79 [0, 0] 11 (upd (upd e 1 (sV (.string x1))) 0 (sP x0)) V0 hp K =
    (ptrN x0 fun b1 o2 => (ldV (HP.cell hp b1 (o2 + 4)) fun v3 => (mapV v3 fun m4 => (rdS Try.prog (Instr.lookup 128 (.map m4) (.string x1) false) hp fun u5 => (ptrV u5 fun p6 => (ptrN p6 fun b7 o8 => (ldV (HP.cell hp b7 (o8 + 3)) fun v9 => (slcV v9 fun a10 n11 c12 => (K (upd (upd (upd (upd (upd (upd (upd (upd (upd (upd (upd (upd (upd e 1 (sV (.string x1))) 0 (sP x0)) 6 (sP x0)) 7 (sQ b1 o2)) 8 (sQ b1 (o2 + 4))) 9 (sV (.map m4))) 10 (sV (.string x1))) 11 (sP p6)) 12 (sQ b7 o8)) 13 (sQ b7 (o8 + 3))) 14 (sS a10 n11 c12)) 15 (sI ((n11 : Nat)))) 16 (sI 0)) V0 hp))))))))) := by kernel_rfl
def F79 (x0 : Option Addr) (x1 : ByteArray) (hp : HP) (K : Value → HP → Prop) : Prop :=
  (ptrN x0 fun b_43 o_44 => (ldV (HP.cell hp b_43 (o_44 + 4)) fun v_45 => (mapV v_45 fun m_46 => (rdS Try.prog (Instr.lookup 128 (.map m_46) (.string x1) false) hp fun u_47 => (ptrV u_47 fun p_48 => (ptrN p_48 fun b_49 o_50 => (ldV (HP.cell hp b_49 (o_50 + 3)) fun v_51 => (slcV v_51 fun a_52 n_53 c_54 => (F79_j2 x0 x1 a_52 n_53 c_54 (n_53 : Nat) 0 hp  K)))))))))
noncomputable def F79_code : Code := (.seq (.seq (.region 0 (opsAt Try.f79 [0, 0]) false) (.block 0 (.loop (.seq (.region 1 (opsAt Try.f79 [0, 1, 0, 0, 0]) false) (.seq (.cond (.tmp 17) .skip (.exit 0)) (.seq (.block 1 (.seq (.region 2 (opsAt Try.f79 [0, 1, 0, 0, 1, 1, 0, 0, 0]) false) (.seq (.region 3 (opsAt Try.f79 [0, 1, 0, 0, 1, 1, 0, 0, 1, 0]) false) (.seq (.region 4 (opsAt Try.f79 [0, 1, 0, 0, 1, 1, 0, 0, 1, 1, 0]) true) (.seq (.region 5 (opsAt Try.f79 [0, 1, 0, 0, 1, 1, 0, 0, 1, 1, 1, 0]) true) (.cond (.tmp 42) (.region 6 (opsAt Try.f79 [0, 1, 0, 0, 1, 1, 0, 0, 1, 1, 1, 1, 0]) true) .skip)))))) (.region 7 (opsAt Try.f79 [0, 1, 0, 0, 1, 1, 1]) false))))))) (.region 8 (opsAt Try.f79 [1]) false))
theorem F79_body : Try.f79.body = some F79_code := by kernel_rfl
theorem F79_ok (x0 : Option Addr) (x1 : ByteArray) (hp : HP) (K : Value → HP → Prop) (h : F79 x0 x1 hp K) : CF Try.prog 79 [(.pointer x0), (.string x1)] hp K := by
 refine .inl ⟨by kernel_rfl, AC.intro (N := 55) Try.func79 F79_body rfl (Nat.le_of_ble_eq_true rfl) ?_⟩
 unfold F79 at h
 unfold F79_code
 refine AWP.seq (fun env pv hp => ∃ (x0 : Option Addr) (x1 : ByteArray), Sub (upd (upd E0 1 (sV (.string x1))) 0 (sP x0)) env ∧ Sub V0 pv ∧ (F79_j1 x0 x1 hp  K)) ?_ ?_
 ·refine AWP.seq (fun env pv hp => ∃ (x0 : Option Addr) (x1 : ByteArray) (x14a : Option Addr) (x14n : Nat) (x14c : Nat) (x15 : Int) (x16 : Int), Sub (upd (upd (upd (upd (upd E0 16 (sI x16)) 15 (sI x15)) 14 (sS x14a x14n x14c)) 1 (sV (.string x1))) 0 (sP x0)) env ∧ Sub V0 pv ∧ (F79_j2 x0 x1 x14a x14n x14c x15 x16 hp  K)) ?_ ?_
  ·refine AWP.rgn (F79_r8 E0 x0 x1 hp _) ?_ (Ru 0 (Ru 1 Rn)) (Sc rfl (Sc rfl Sn)) Sn
   refine mN h fun b_43 o_44 h => mV h fun v_45 h => mM h fun m_46 h => mR h fun u_47 h => mP h fun p_48 h => mN h fun b_49 o_50 h => mV h fun v_51 h => mS h fun a_52 n_53 c_54 h => ?_
   exact ⟨x0, x1, a_52, n_53, c_54, (n_53 : Nat), 0, (Sc rfl (Sc rfl (Sc rfl (Sc rfl (Sc rfl Sn))))), Sn, h⟩
  ·rintro env pv hp ⟨x0, x1, x14a, x14n, x14c, x15, x16, he, hv, h⟩
   refine AWP.sub (env' := (upd (upd (upd (upd (upd E0 16 (sI x16)) 15 (sI x15)) 14 (sS x14a x14n x14c)) 1 (sV (.string x1))) 0 (sP x0))) (pv' := V0) ?_ (Ru 0 (Ru 1 (Ru 14 (Ru 15 (Ru 16 Rn))))) he hv (HSub.refl _)
   clear he hv
   unfold F79_j2 at h
   refine AWP.block ?_
   refine AWP.loop (σ := Int) (fun I s hp => F79_l3 x0 x1 x14a x14n x14c x15  K I s hp) (fun s => (upd (upd (upd (upd (upd E0 16 (sI s)) 15 (sI x15)) 14 (sS x14a x14n x14c)) 1 (sV (.string x1))) 0 (sP x0))) (fun s => V0) x16 h (fun s => (Ru 0 (Ru 1 (Ru 14 (Ru 15 (Ru 16 Rn)))))) (Sc rfl (Sc rfl (Sc rfl (Sc rfl (Sc rfl Sn))))) Sn ?_
   intro I3 s hp h
   obtain ⟨x16, hs⟩ : ∃ x, x = s := ⟨s, rfl⟩
   subst hs
   replace h : F79_l3 x0 x1 x14a x14n x14c x15  K I3 x16 hp := h
   unfold F79_l3 at h
   refine AWP.seq' ?_
   refine AWP.rgn (F79_r1 (upd (upd (upd E0 14 (sS x14a x14n x14c)) 1 (sV (.string x1))) 0 (sP x0)) x15 x16 hp _) ?_ (Ru 15 (Ru 16 (Ru 0 (Ru 1 (Ru 14 Rn))))) (Sc rfl (Sc rfl (Sc rfl (Sc rfl (Sc rfl Sn))))) Sn
   refine AWP.seq' ?_
   refine AWP.cond (t := (decide (x16 < x15))) rfl (fun e => ?_) (fun e => ?_)
   ·replace h := ite2_t h e
    refine AWP.skip ?_
    refine AWP.seq (fun env pv hp => ∃ (x16 : Int), Sub (upd (upd (upd (upd (upd E0 16 (sI x16)) 15 (sI x15)) 14 (sS x14a x14n x14c)) 1 (sV (.string x1))) 0 (sP x0)) env ∧ Sub V0 pv ∧ (F79_j4 x0 x1 x14a x14n x14c x15 x16 hp I3 K)) ?_ ?_
    ·refine AWP.block ?_
     refine AWP.seq' ?_
     refine AWP.rgn (F79_r3 (upd (upd (upd E0 15 (sI x15)) 1 (sV (.string x1))) 0 (sP x0)) x14a x14n x14c x16 hp _) ?_ (Ru 14 (Ru 16 (Ru 0 (Ru 1 (Ru 15 Rn))))) (Sc rfl (Sc rfl (Sc rfl (Sc rfl (Sc rfl Sn))))) Sn
     refine ⟨h.1, h.2.1, mN h.2.2 fun b_7 o_8 h => mL h fun l_9 h => mf h fun h => mf h fun h => mf h fun h => ?_⟩
     refine AWP.seq' ?_
     refine AWP.rgn (F79_r4 (upd (upd (upd (upd (upd E0 16 (sI x16)) 15 (sI x15)) 14 (sS x14a x14n x14c)) 5 (sR 5 0)) 1 (sV (.string x1))) x0 (splice [.string ⟨#[]⟩, .string ⟨#[]⟩, .int .i64 0, .bool false, .string ⟨#[]⟩, .string ⟨#[]⟩] 0 l_9) hp _) ?_ (Ru 0 (Ru 1 (RefOk.p 5 5 0 (Ru 14 (Ru 15 (Ru 16 Rn))) (fun e => by cases e)))) (Sc rfl (Sc rfl (Sc rfl (Sc rfl (Sc rfl (Sc rfl Sn)))))) (Sc rfl Sn)
     refine mN h fun b_10 o_11 h => mV h fun v_12 h => mI h fun i_13 h => mN h fun b_14 o_15 h => mw h fun h_16 h => ?_
     refine AWP.seq' ?_
     refine AWP.rgnD (by kernel_rfl) (by kernel_rfl) (F79_r5 (upd (upd (upd (upd E0 16 (sI x16)) 15 (sI x15)) 14 (sS x14a x14n x14c)) 1 (sV (.string x1))) x0 (splice [.string ⟨#[]⟩, .string ⟨#[]⟩, .int .i64 0, .bool false, .string ⟨#[]⟩, .string ⟨#[]⟩] 0 l_9) h_16 _) ?_ (Ru 0 (RefOk.p 5 5 0 (Ru 1 (Ru 14 (Ru 15 (Ru 16 Rn)))) (fun e => by cases e))) (Sc rfl (Sc rfl (Sc rfl (Sc rfl (Sc rfl (Sc rfl Sn)))))) (Sc rfl Sn)
     refine mN h fun b_17 o_18 h => mV h fun v_19 h => mM h fun m_20 h => mV h fun v_21 h => ms h fun s_22 h => mR h fun u_23 h => mI h fun i_24 h => mO h fun u_25 h_26 h => ?_
     refine AWP.seq' ?_
     refine AWP.rgnD (by kernel_rfl) (by kernel_rfl) (F79_r6 (upd (upd (upd (upd E0 16 (sI x16)) 15 (sI x15)) 14 (sS x14a x14n x14c)) 1 (sV (.string x1))) x0 (splice [.string ⟨#[]⟩, .string ⟨#[]⟩, .int .i64 0, .bool false, .string ⟨#[]⟩, .string ⟨#[]⟩] 0 l_9) h_26 _) ?_ (Ru 0 (RefOk.p 5 5 0 (Ru 1 (Ru 14 (Ru 15 (Ru 16 Rn)))) (fun e => by cases e))) (Sc rfl (Sc rfl (Sc rfl (Sc rfl (Sc rfl (Sc rfl Sn)))))) (Sc rfl Sn)
     refine mN h fun b_27 o_28 h => mV h fun v_29 h => mM h fun m_30 h => mV h fun v_31 h => ms h fun s_32 h => mR h fun u_33 h => mI h fun i_34 h => ?_
     refine AWP.cond (t := (i_34 == 0)) rfl (fun e => ?_) (fun e => ?_)
     ·replace h := ite2_t h e
      refine AWP.rgnD (by kernel_rfl) (by kernel_rfl) (F79_r7 (upd (upd (upd (upd E0 16 (sI x16)) 15 (sI x15)) 14 (sS x14a x14n x14c)) 1 (sV (.string x1))) x0 (splice [.string ⟨#[]⟩, .string ⟨#[]⟩, .int .i64 0, .bool false, .string ⟨#[]⟩, .string ⟨#[]⟩] 0 l_9) h_26 _) ?_ (Ru 0 (RefOk.p 5 5 0 (Ru 1 (Ru 14 (Ru 15 (Ru 16 Rn)))) (fun e => by cases e))) (Sc rfl (Sc rfl (Sc rfl (Sc rfl (Sc rfl (Sc rfl Sn)))))) (Sc rfl Sn)
      refine mN h fun b_35 o_36 h => mV h fun v_37 h => mM h fun m_38 h => mV h fun v_39 h => ms h fun s_40 h => mO h fun u_41 h_42 h => ?_
      exact ⟨x16, (Sc rfl (Sc rfl (Sc rfl (Sc rfl (Sc rfl Sn))))), Sn, h⟩
     ·replace h := ite2_f h e
      refine AWP.skip ?_
      exact ⟨x16, (Sc rfl (Sc rfl (Sc rfl (Sc rfl (Sc rfl Sn))))), Sn, h⟩
    ·rintro env pv hp ⟨x16, he, hv, h⟩
     refine AWP.sub (env' := (upd (upd (upd (upd (upd E0 16 (sI x16)) 15 (sI x15)) 14 (sS x14a x14n x14c)) 1 (sV (.string x1))) 0 (sP x0))) (pv' := V0) ?_ (Ru 0 (Ru 1 (Ru 14 (Ru 15 (Ru 16 Rn))))) he hv (HSub.refl _)
     clear he hv
     unfold F79_j4 at h
     refine AWP.rgn (F79_r2 (upd (upd (upd (upd E0 15 (sI x15)) 14 (sS x14a x14n x14c)) 1 (sV (.string x1))) 0 (sP x0)) x16 hp _) ?_ (Ru 16 (Ru 0 (Ru 1 (Ru 14 (Ru 15 Rn))))) (Sc rfl (Sc rfl (Sc rfl (Sc rfl (Sc rfl Sn))))) Sn
     exact ⟨(wr (x16 + 1)), (Sc rfl (Sc rfl (Sc rfl (Sc rfl (Sc rfl Sn))))), Sn, h⟩
   ·replace h := ite2_f h e
    refine AWP.exit ?_
    exact ⟨x0, x1, (Sc rfl (Sc rfl Sn)), Sn, h⟩
 ·rintro env pv hp ⟨x0, x1, he, hv, h⟩
  refine AWP.sub (env' := (upd (upd E0 1 (sV (.string x1))) 0 (sP x0))) (pv' := V0) ?_ (Ru 0 (Ru 1 Rn)) he hv (HSub.refl _)
  clear he hv
  unfold F79_j1 at h
  refine AWP.rgn (F79_r0 E0 x0 x1 hp _) ?_ (Ru 0 (Ru 1 Rn)) (Sc rfl (Sc rfl Sn)) Sn
  refine mN h fun b_1 o_2 h => mV h fun v_3 h => mM h fun m_4 h => mO h fun u_5 h_6 h => ?_
  exact h
end
-- 80 (*interpreter/frag.Store).takes
section
variable (e : Env) (x0 : Option Addr) (x1 : List Value) (x2 : Int) (x6 : Option Addr) (x7 : Bool) (k4 : List Value) (hp : HP) (K : Env → PV → HP → Prop)
abbrev R80 (p : List Nat) (n : Nat) := RW Try.prog 74 [4, 13, 38, 51, 70] (opsAt Try.f80 p) (List.range n)
theorem F80_r0 : R80 [0] 1 (upd e 1 (sA x1)) V0 hp K =
    (K (upd (upd e 1 (sA x1)) 4 (sR 4 0)) (upd V0 4 (29, x1)) hp) := by kernel_rfl
theorem F80_r1 : R80 [1, 0] 12 (upd (upd e 4 (sR 4 0)) 0 (sP x0)) (upd V0 4 (29, k4)) hp K =
    (ptrN x0 fun b1 o2 => (ldV (HP.cell hp b1 (o2 + 4)) fun v3 => (mapV v3 fun m4 => (ldV (k4)[0]? fun v5 => (strV v5 fun s6 => (rdS Try.prog (Instr.lookup 128 (.map m4) (.string s6) true) hp fun u7 => (tup2V u7 fun u8 u9 => (ptrV u8 fun p10 => (boolV u9 fun q11 => (K (upd (upd (upd (upd (upd (upd (upd (upd (upd (upd (upd (upd (upd (upd e 4 (sR 4 0)) 0 (sP x0)) 9 (sP x0)) 10 (sQ b1 o2)) 11 (sQ b1 (o2 + 4))) 12 (sV (.map m4))) 13 (sR 4 0)) 14 (sV (.string s6))) 15 (sV (.tuple ⟨[(.pointer p10), (.bool q11)]⟩))) 8 (sV (.tuple ⟨[(.pointer p10), (.bool q11)]⟩))) 16 (sP p10)) 17 (sB q11)) 6 (sP p10)) 7 (sB q11)) (upd V0 4 (29, k4)) hp)))))))))) := by kernel_rfl
theorem F80_r2 : R80 [1, 1, 1, 1, 1, 0] 8 (upd e 0 (sP x0)) (upd V0 4 (29, k4)) hp K =
    (ptrN x0 fun b1 o2 => (ldV (HP.cell hp b1 (o2 + 3)) fun v3 => (intV v3 .i64 fun i4 => (ptrN x0 fun b5 o6 => (HP.st hp b5 (o6 + 3) (.int .i64 (wr (i4 + 1))) fun h7 => (K (upd (upd (upd (upd (upd (upd (upd (upd e 0 (sP x0)) 59 (sP x0)) 60 (sQ b1 o2)) 61 (sQ b1 (o2 + 3))) 62 (sI i4)) 63 (sI ((wr (i4 + 1))))) 64 (sQ b5 o6)) 65 (sQ b5 (o6 + 3))) (upd V0 4 (29, k4)) h7)))))) := by kernel_rfl
theorem F80_r3 : R80 [1, 1, 1, 1, 1, 1] 9 (upd (upd e 4 (sR 4 0)) 0 (sP x0)) (upd V0 4 (29, k4)) hp K =
    (ptrN x0 fun b1 o2 => (ldV (HP.cell hp b1 (o2 + 5)) fun v3 => (mapV v3 fun m4 => (ldV (k4)[1]? fun v5 => (strV v5 fun s6 => (rdS Try.prog (Instr.lookup 97 (.map m4) (.string s6) false) hp fun u7 => (intV u7 .i64 fun i8 => (opS Try.prog (Instr.mapUpdate 97 (.map m4) (.string s6) (.int .i64 (wr (i8 + 1)))) hp fun u9 h10 => (K (upd (upd (upd (upd (upd (upd (upd (upd (upd (upd e 4 (sR 4 0)) 0 (sP x0)) 66 (sP x0)) 67 (sQ b1 o2)) 68 (sQ b1 (o2 + 5))) 69 (sV (.map m4))) 70 (sR 4 1)) 71 (sV (.string s6))) 72 (sI i8)) 73 (sI ((wr (i8 + 1))))) (upd V0 4 (29, k4)) h10))))))))) := by kernel_rfl
def F80_j3 (x0 : Option Addr) (k4 : List Value) (hp : HP) (K : Value → HP → Prop) : Prop :=
  (ptrN x0 fun b_12 o_13 => (ldV (HP.cell hp b_12 (o_13 + 3)) fun v_14 => (intV v_14 .i64 fun i_15 => (ptrN x0 fun b_16 o_17 => (HP.st hp b_16 (o_17 + 3) (.int .i64 (IntKind.wrap .i64 (i_15 + 1))) fun h_18 => (ptrN x0 fun b_19 o_20 => (ldV (HP.cell h_18 b_19 (o_20 + 5)) fun v_21 => (mapV v_21 fun m_22 => (ldV (k4)[1]? fun v_23 => (strV v_23 fun s_24 => (rdS Try.prog (Instr.lookup 97 (.map m_22) (.string s_24) false) h_18 fun u_25 => (intV u_25 .i64 fun i_26 => (opS Try.prog (Instr.mapUpdate 97 (.map m_22) (.string s_24) (.int .i64 (IntKind.wrap .i64 (i_26 + 1)))) h_18 fun u_27 h_28 => (K (.tuple ⟨[]⟩) h_28))))))))))))))
theorem F80_r4 : R80 [1, 1, 1, 1, 0, 0] 3 (upd e 4 (sR 4 0)) (upd V0 4 (29, k4)) hp K =
    (ldV (k4)[3]? fun v1 => (boolV v1 fun q2 => (K (upd (upd (upd (upd e 4 (sR 4 0)) 51 (sR 4 3)) 52 (sB q2)) 53 (sB ((!q2)))) (upd V0 4 (29, k4)) hp))) := by kernel_rfl
theorem F80_r5 : R80 [1, 1, 1, 1, 0, 1, 0] 6 (upd (upd e 6 (sP x6)) 4 (sR 4 0)) (upd V0 4 (29, k4)) hp K =
    (ldL (cellsN k4 0 6) fun l1 => (CF Try.prog 122 [(.agg ⟨l1⟩)] hp fun u2 h3 => (intV u2 .i64 fun i4 => (ptrN x6 fun b5 o6 => (HP.st h3 b5 (o6 + 2) (.int .i64 i4) fun h7 => (K (upd (upd (upd (upd (upd (upd (upd e 6 (sP x6)) 4 (sR 4 0)) 54 (sP x6)) 55 (sA l1)) 56 (sI i4)) 57 (sQ b5 o6)) 58 (sQ b5 (o6 + 2))) (upd V0 4 (29, k4)) h7)))))) := by kernel_rfl
def F80_j2 (x0 : Option Addr) (x6 : Option Addr) (k4 : List Value) (hp : HP) (K : Value → HP → Prop) : Prop :=
  (ldV (k4)[3]? fun v_29 => (boolV v_29 fun q_30 => (ite2 (!q_30) (ldL (cellsN k4 0 6) fun l_31 => (CF Try.prog 122 [(.agg ⟨l_31⟩)] hp fun u_32 h_33 => (intV u_32 .i64 fun i_34 => (ptrN x6 fun b_35 o_36 => (HP.st h_33 b_35 (o_36 + 2) (.int .i64 i_34) fun h_37 => (F80_j3 x0 k4 h_37  K)))))) (F80_j3 x0 k4 hp  K))))
theorem F80_r6 (e : Env) (x6 : Option Addr) (k4 : List Value) (hp : HP) (K : Env → PV → HP → Prop) : RW Try.prog 74 [4, 13, 38, 51, 70] (opsAt Try.f80 [1, 1, 1, 0]) [0, 1, 2, 3, 4, 5, 6, 7, 8, 9, 10] (upd (upd e 6 (sP x6)) 4 (sR 4 0)) (upd V0 4 (29, k4)) hp K =
    (ptrN x6 fun b1 o2 => (ldV (HP.cell hp b1 (o2 + 3)) fun v3 => (slcV v3 fun a4 n5 c6 => (ldL (cellsN k4 0 6) fun l7 => (if List.length l7 = 6 then (∀ b8 : Nat, hp b8 = .none → (opS Try.prog (Builtin.append_ #[26, 26] 26 ⟨[(.slice a4 n5 c6), (.slice (some ⟨b8, 0, none⟩) 1 1)]⟩) (HP.set hp b8 (.cells 29 (splice [.string ⟨#[]⟩, .string ⟨#[]⟩, .int .i64 0, .bool false, .string ⟨#[]⟩, .string ⟨#[]⟩] 0 l7) 0)) fun u9 h10 => (slcV u9 fun a11 n12 c13 => (ptrN x6 fun b14 o15 => (HP.st h10 b14 (o15 + 3) (.slice a11 n12 c13) fun h16 => (K (upd (upd (upd (upd (upd (upd (upd (upd (upd (upd (upd (upd e 6 (sP x6)) 4 (sR 4 0)) 41 (sP x6)) 42 (sP x6)) 43 (sQ b1 o2)) 44 (sQ b1 (o2 + 3))) 45 (sS a4 n5 c6)) 46 (sA l7)) 47 (sV (.slice (some ⟨b8, 0, none⟩) 1 1))) 48 (sS a11 n12 c13)) 49 (sQ b14 o15)) 50 (sQ b14 (o15 + 3))) (upd V0 4 (29, k4)) h16)))))) else False))))) := by kernel_rfl
theorem F80_r7 (e : Env) (x6 : Option Addr) (k4 : List Value) (hp : HP) (K : Env → PV → HP → Prop) : RW Try.prog 74 [4, 13, 38, 51, 70] (opsAt Try.f80 [1, 1, 1, 0]) [0, 1, 2, 3, 5, 6, 4, 7, 8, 9, 10] (upd (upd e 6 (sP x6)) 4 (sR 4 0)) (upd V0 4 (29, k4)) hp K =
    (ptrN x6 fun b1 o2 => (ldL (cellsN k4 0 6) fun l3 => (if List.length l3 = 6 then (∀ b4 : Nat, hp b4 = .none → (ldV (HP.cell (HP.set hp b4 (.cells 29 (splice [.string ⟨#[]⟩, .string ⟨#[]⟩, .int .i64 0, .bool false, .string ⟨#[]⟩, .string ⟨#[]⟩] 0 l3) 0)) b1 (o2 + 3)) fun v5 => (slcV v5 fun a6 n7 c8 => (opS Try.prog (Builtin.append_ #[26, 26] 26 ⟨[(.slice a6 n7 c8), (.slice (some ⟨b4, 0, none⟩) 1 1)]⟩) (HP.set hp b4 (.cells 29 (splice [.string ⟨#[]⟩, .string ⟨#[]⟩, .int .i64 0, .bool false, .string ⟨#[]⟩, .string ⟨#[]⟩] 0 l3) 0)) fun u9 h10 => (slcV u9 fun a11 n12 c13 => (ptrN x6 fun b14 o15 => (HP.st h10 b14 (o15 + 3) (.slice a11 n12 c13) fun h16 => (K (upd (upd (upd (upd (upd (upd (upd (upd (upd (upd (upd (upd e 6 (sP x6)) 4 (sR 4 0)) 41 (sP x6)) 42 (sP x6)) 43 (sQ b1 o2)) 44 (sQ b1 (o2 + 3))) 46 (sA l3)) 47 (sV (.slice (some ⟨b4, 0, none⟩) 1 1))) 45 (sS a6 n7 c8)) 48 (sS a11 n12 c13)) 49 (sQ b14 o15)) 50 (sQ b14 (o15 + 3))) (upd V0 4 (29, k4)) h16)))))))) else False))) := by kernel_rfl
def F80_j1 (x0 : Option Addr) (x6 : Option Addr) (k4 : List Value) (hp : HP) (K : Value → HP → Prop) : Prop :=
  ((ptrN x6 fun b_38 o_39 => (ldV (HP.cell hp b_38 (o_39 + 3)) fun v_40 => (slcV v_40 fun a_41 n_42 c_43 => (ldL (cellsN k4 0 6) fun l_44 => (if List.length l_44 = 6 then (∀ b_45 : Nat, hp b_45 = .none → (opS Try.prog (Builtin.append_ #[26, 26] 26 ⟨[(.slice a_41 n_42 c_43), (.slice (some ⟨b_45, 0, none⟩) 1 1)]⟩) (HP.set hp b_45 (.cells 29 (splice [.string ⟨#[]⟩, .string ⟨#[]⟩, .int .i64 0, .bool false, .string ⟨#[]⟩, .string ⟨#[]⟩] 0 l_44) 0)) fun u_46 h_47 => (slcV u_46 fun a_48 n_49 c_50 => (ptrN x6 fun b_51 o_52 => (HP.st h_47 b_51 (o_52 + 3) (.slice a_48 n_49 c_50) fun h_53 => (F80_j2 x0 x6 k4 h_53  K)))))) else False))))) ∧ (ptrN x6 fun b_54 o_55 => (ldL (cellsN k4 0 6) fun l_56 => (if List.length l_56 = 6 then (∀ b_57 : Nat, hp b_57 = .none → (ldV (HP.cell (HP.set hp b_57 (.cells 29 (splice [.string ⟨#[]⟩, .string ⟨#[]⟩, .int .i64 0, .bool false, .string ⟨#[]⟩, .string ⟨#[]⟩] 0 l_56) 0)) b_54 (o_55 + 3)) fun v_58 => (slcV v_58 fun a_59 n_60 c_61 => (opS Try.prog (Builtin.append_ #[26, 26] 26 ⟨[(.slice a_59 n_60 c_61), (.slice (some ⟨b_57, 0, none⟩) 1 1)]⟩) (HP.set hp b_57 (.cells 29 (splice [.string ⟨#[]⟩, .string ⟨#[]⟩, .int .i64 0, .bool false, .string ⟨#[]⟩, .string ⟨#[]⟩] 0 l_56) 0)) fun u_62 h_63 => (slcV u_62 fun a_64 n_65 c_66 => (ptrN x6 fun b_67 o_68 => (HP.st h_63 b_67 (o_68 + 3) (.slice a_64 n_65 c_66) fun h_69 => (F80_j2 x0 x6 k4 h_69  K)))))))) else False))))
theorem F80_r8 : R80 [1, 1, 0, 0] 2 (upd e 7 (sB x7)) (upd V0 4 (29, k4)) hp K =
    (K (upd (upd (upd e 7 (sB x7)) 18 (sB x7)) 19 (sB ((!x7)))) (upd V0 4 (29, k4)) hp) := by kernel_rfl
theorem F80_r9 : R80 [1, 1, 0, 1, 0, 0] 8 (upd e 0 (sP x0)) (upd V0 4 (29, k4)) hp K =
    (ptrN x0 fun b1 o2 => (ldV (HP.cell hp b1 (o2 + 2)) fun v3 => (intV v3 .i64 fun i4 => (ptrN x0 fun b5 o6 => (HP.st hp b5 (o6 + 2) (.int .i64 (wr (i4 + 1))) fun h7 => (K (upd (upd (upd (upd (upd (upd (upd (upd e 0 (sP x0)) 20 (sP x0)) 21 (sQ b1 o2)) 22 (sQ b1 (o2 + 2))) 23 (sI i4)) 24 (sI ((wr (i4 + 1))))) 25 (sQ b5 o6)) 26 (sQ b5 (o6 + 2))) (upd V0 4 (29, k4)) h7)))))) := by kernel_rfl
theorem F80_r10 : R80 [1, 1, 0, 1, 0, 1, 0] 8 (upd (upd e 2 (sI x2)) 0 (sP x0)) (upd V0 4 (29, k4)) hp K =
    (ptrN x0 fun b1 o2 => (ldV (HP.cell hp b1 (o2 + 2)) fun v3 => (intV v3 .i64 fun i4 => (∀ b5 : Nat, hp b5 = .none → (K (upd (upd (upd (upd (upd (upd (upd (upd (upd (upd e 2 (sI x2)) 0 (sP x0)) 27 (sP x0)) 28 (sQ b1 o2)) 29 (sQ b1 (o2 + 2))) 30 (sI i4)) 31 (sI x2)) 32 (sV (.agg ⟨[(.int .i64 i4), (.int .i64 x2), (.int .i64 (-1)), (.slice none 0 0)]⟩))) 33 (sQ b5 0)) 6 (sQ b5 0)) (upd V0 4 (29, k4)) (HP.set hp b5 (.cells 135 [(.int .i64 i4), (.int .i64 x2), (.int .i64 (-1)), (.slice none 0 0)] 0))))))) := by kernel_rfl
theorem F80_r11 : R80 [1, 1, 0, 1, 0, 1, 1] 8 (upd (upd (upd e 6 (sP x6)) 4 (sR 4 0)) 0 (sP x0)) (upd V0 4 (29, k4)) hp K =
    (ptrN x0 fun b1 o2 => (ldV (HP.cell hp b1 (o2 + 4)) fun v3 => (mapV v3 fun m4 => (ldV (k4)[0]? fun v5 => (strV v5 fun s6 => (opS Try.prog (Instr.mapUpdate 128 (.map m4) (.string s6) (.pointer x6)) hp fun u7 h8 => (K (upd (upd (upd (upd (upd (upd (upd (upd (upd (upd e 6 (sP x6)) 4 (sR 4 0)) 0 (sP x0)) 34 (sP x0)) 35 (sQ b1 o2)) 36 (sQ b1 (o2 + 4))) 37 (sV (.map m4))) 38 (sR 4 0)) 39 (sV (.string s6))) 40 (sP x6)) (upd V0 4 (29, k4)) h8))))))) := by kernel_rfl
def F80 (x0 : Option Addr) (x1 : List Value) (x2 : Int) (hp : HP) (K : Value → HP → Prop) : Prop :=
  (ptrN x0 fun b_1 o_2 => (ldV (HP.cell hp b_1 (o_2 + 4)) fun v_3 => (mapV v_3 fun m_4 => (ldV (x1)[0]? fun v_5 => (strV v_5 fun s_6 => (rdS Try.prog (Instr.lookup 128 (.map m_4) (.string s_6) true) hp fun u_7 => (tup2V u_7 fun u_8 u_9 => (ptrV u_8 fun p_10 => (boolV u_9 fun q_11 => (ite2 (!q_11) (ptrN x0 fun b_70 o_71 => (ldV (HP.cell hp b_70 (o_71 + 2)) fun v_72 => (intV v_72 .i64 fun i_73 => (ptrN x0 fun b_74 o_75 => (HP.st hp b_74 (o_75 + 2) (.int .i64 (IntKind.wrap .i64 (i_73 + 1))) fun h_76 => (ptrN x0 fun b_77 o_78 => (ldV (HP.cell h_76 b_77 (o_78 + 2)) fun v_79 => (intV v_79 .i64 fun i_80 => (∀ b_81 : Nat, h_76 b_81 = .none → (ptrN x0 fun b_82 o_83 => (ldV (HP.cell (HP.set h_76 b_81 (.cells 135 [(.int .i64 i_80), (.int .i64 x2), (.int .i64 (-1)), (.slice none 0 0)] 0)) b_82 (o_83 + 4)) fun v_84 => (mapV v_84 fun m_85 => (ldV (x1)[0]? fun v_86 => (strV v_86 fun s_87 => (opS Try.prog (Instr.mapUpdate 128 (.map m_85) (.string s_87) (.pointer (some ⟨b_81, 0, none⟩))) (HP.set h_76 b_81 (.cells 135 [(.int .i64 i_80), (.int .i64 x2), (.int .i64 (-1)), (.slice none 0 0)] 0)) fun u_88 h_89 => (F80_j1 x0 (some ⟨b_81, 0, none⟩) x1 h_89  K)))))))))))))))) (F80_j1 x0 p_10 x1 hp  K)))))))))))
noncomputable def F80_code : Code := (.seq (.region 0 (opsAt Try.f80 [0]) false) (.seq (.region 1 (opsAt Try.f80 [1, 0]) true) (.seq (.seq (.region 2 (opsAt Try.f80 [1, 1, 0, 0]) false) (.cond (.tmp 19) (.seq (.region 3 (opsAt Try.f80 [1, 1, 0, 1, 0, 0]) false) (.seq (.region 4 (opsAt Try.f80 [1, 1, 0, 1, 0, 1, 0]) false) (.region 5 (opsAt Try.f80 [1, 1, 0, 1, 0, 1, 1]) true))) .skip)) (.seq (.region 6 (opsAt Try.f80 [1, 1, 1, 0]) true) (.seq (.seq (.region 7 (opsAt Try.f80 [1, 1, 1, 1, 0, 0]) false) (.cond (.tmp 53) (.region 8 (opsAt Try.f80 [1, 1, 1, 1, 0, 1, 0]) false) .skip)) (.seq (.region 9 (opsAt Try.f80 [1, 1, 1, 1, 1, 0]) false) (.region 10 (opsAt Try.f80 [1, 1, 1, 1, 1, 1]) true)))))))
theorem F80_body : Try.f80.body = some F80_code := by kernel_rfl
theorem F80_ok (x0 : Option Addr) (x1 : List Value) (x2 : Int) (hp : HP) (K : Value → HP → Prop) (h : F80 x0 x1 x2 hp K) : CF Try.prog 80 [(.pointer x0), (.agg ⟨x1⟩), (.int .i64 x2)] hp K := by
 refine .inl ⟨by kernel_rfl, AC.intro (N := 74) Try.func80 F80_body rfl (Nat.le_of_ble_eq_true rfl) ?_⟩
 unfold F80 at h
 unfold F80_code
 refine AWP.seq' ?_
 refine AWP.rgn (F80_r0 (upd (upd E0 2 (sI x2)) 0 (sP x0)) x1 hp _) ?_ (Ru 1 (Ru 0 (Ru 2 Rn))) (Sc rfl (Sc rfl (Sc rfl Sn))) Sn
 refine AWP.seq' ?_
 refine AWP.rgnD (by kernel_rfl) (by kernel_rfl) (F80_r1 (upd E0 2 (sI x2)) x0 x1 hp _) ?_ (Ru 0 (RefOk.p 4 4 0 (Ru 2 Rn) (fun e => by cases e))) (Sc rfl (Sc rfl (Sc rfl Sn))) (Sc rfl Sn)
 refine mN h fun b_1 o_2 h => mV h fun v_3 h => mM h fun m_4 h => mV h fun v_5 h => ms h fun s_6 h => mR h fun u_7 h => mT h fun u_8 u_9 h => mP h fun p_10 h => mB h fun q_11 h => ?_
 refine AWP.seq (fun env pv hp => ∃ (x0 : Option Addr) (x6 : Option Addr) (k4 : List Value), Sub (upd (upd (upd E0 6 (sP x6)) 4 (sR 4 0)) 0 (sP x0)) env ∧ Sub (upd V0 4 (29, k4)) pv ∧ (F80_j1 x0 x6 k4 hp  K)) ?_ ?_
 ·refine AWP.seq' ?_
  refine AWP.rgn (F80_r8 (upd (upd (upd (upd E0 6 (sP p_10)) 4 (sR 4 0)) 2 (sI x2)) 0 (sP x0)) q_11 x1 hp _) ?_ (Ru 7 (Ru 0 (Ru 2 (RefOk.p 4 4 0 (Ru 6 Rn) (fun e => by cases e))))) (Sc rfl (Sc rfl (Sc rfl (Sc rfl (Sc rfl Sn))))) (Sc rfl Sn)
  refine AWP.cond (t := (!q_11)) rfl (fun e => ?_) (fun e => ?_)
  ·replace h := ite2_t h e
   refine AWP.seq' ?_
   refine AWP.rgn (F80_r9 (upd (upd E0 4 (sR 4 0)) 2 (sI x2)) x0 x1 hp _) ?_ (Ru 0 (Ru 2 (RefOk.p 4 4 0 Rn (fun e => by cases e)))) (Sc rfl (Sc rfl (Sc rfl Sn))) (Sc rfl Sn)
   refine mN h fun b_70 o_71 h => mV h fun v_72 h => mI h fun i_73 h => mN h fun b_74 o_75 h => mw h fun h_76 h => ?_
   refine AWP.seq' ?_
   refine AWP.rgn (F80_r10 (upd E0 4 (sR 4 0)) x0 x2 x1 h_76 _) ?_ (Ru 0 (Ru 2 (RefOk.p 4 4 0 Rn (fun e => by cases e)))) (Sc rfl (Sc rfl (Sc rfl Sn))) (Sc rfl Sn)
   refine mN h fun b_77 o_78 h => mV h fun v_79 h => mI h fun i_80 h => ?_
   refine fun b_81 hb_b_81 => ?_
   replace h := h b_81 hb_b_81
   refine AWP.rgnD (by kernel_rfl) (by kernel_rfl) (F80_r11 E0 x0 (some ⟨b_81, 0, none⟩) x1 (HP.set h_76 b_81 (.cells 135 [(.int .i64 i_80), (.int .i64 x2), (.int .i64 (-1)), (.slice none 0 0)] 0)) _) ?_ (Ru 0 (RefOk.p 4 4 0 (Ru 6 Rn) (fun e => by cases e))) (Sc rfl (Sc rfl (Sc rfl Sn))) (Sc rfl Sn)
   refine mN h fun b_82 o_83 h => mV h fun v_84 h => mM h fun m_85 h => mV h fun v_86 h => ms h fun s_87 h => mO h fun u_88 h_89 h => ?_
   exact ⟨x0, (some ⟨b_81, 0, none⟩), x1, (Sc rfl (Sc rfl (Sc rfl Sn))), (Sc rfl Sn), h⟩
  ·replace h := ite2_f h e
   refine AWP.skip ?_
   exact ⟨x0, p_10, x1, (Sc rfl (Sc rfl (Sc rfl Sn))), (Sc rfl Sn), h⟩
 ·rintro env pv hp ⟨x0, x6, k4, he, hv, h⟩
  refine AWP.sub (env' := (upd (upd (upd E0 6 (sP x6)) 4 (sR 4 0)) 0 (sP x0))) (pv' := (upd V0 4 (29, k4))) ?_ (Ru 0 (RefOk.p 4 4 0 (Ru 6 Rn) (fun e => by cases e))) he hv (HSub.refl _)
  clear he hv
  unfold F80_j1 at h
  refine AWP.seq (fun env pv hp => ∃ (x0 : Option Addr) (x6 : Option Addr) (k4 : List Value), Sub (upd (upd (upd E0 6 (sP x6)) 4 (sR 4 0)) 0 (sP x0)) env ∧ Sub (upd V0 4 (29, k4)) pv ∧ (F80_j2 x0 x6 k4 hp  K)) ?_ ?_
  ·refine AWP.rgnC (cf := [(4, 6)]) (c := [([true], true, [0, 1, 2, 3, 4, 5, 6, 7, 8, 9, 10]), ([false], true, [0, 1, 2, 3, 5, 6, 4, 7, 8, 9, 10])]) (by kernel_rfl) (by kernel_rfl) (by kernel_rfl) (by kernel_rfl) (allO_t (Eq.mpr (F80_r6 (upd E0 0 (sP x0)) x6 k4 hp _) ?_) (allO_t (Eq.mpr (F80_r7 (upd E0 0 (sP x0)) x6 k4 hp _) ?_) trivial)) (RefOk.p 4 4 0 (Ru 6 (Ru 0 Rn)) (fun e => by cases e)) (Sc rfl (Sc rfl (Sc rfl Sn))) (Sc rfl Sn)
   ·replace h := h.1
    refine mN h fun b_38 o_39 h => mV h fun v_40 h => mS h fun a_41 n_42 c_43 h => mL h fun l_44 h => mf h fun h => ?_
    refine fun b_45 hb_b_45 => ?_
    replace h := h b_45 hb_b_45
    refine mO h fun u_46 h_47 h => mS h fun a_48 n_49 c_50 h => mN h fun b_51 o_52 h => mw h fun h_53 h => ?_
    exact ⟨x0, x6, k4, (Sc rfl (Sc rfl (Sc rfl Sn))), (Sc rfl Sn), h⟩
   ·replace h := h.2
    refine mN h fun b_54 o_55 h => mL h fun l_56 h => mf h fun h => ?_
    refine fun b_57 hb_b_57 => ?_
    replace h := h b_57 hb_b_57
    refine mV h fun v_58 h => mS h fun a_59 n_60 c_61 h => mO h fun u_62 h_63 h => mS h fun a_64 n_65 c_66 h => mN h fun b_67 o_68 h => mw h fun h_69 h => ?_
    exact ⟨x0, x6, k4, (Sc rfl (Sc rfl (Sc rfl Sn))), (Sc rfl Sn), h⟩
  ·rintro env pv hp ⟨x0, x6, k4, he, hv, h⟩
   refine AWP.sub (env' := (upd (upd (upd E0 6 (sP x6)) 4 (sR 4 0)) 0 (sP x0))) (pv' := (upd V0 4 (29, k4))) ?_ (Ru 0 (RefOk.p 4 4 0 (Ru 6 Rn) (fun e => by cases e))) he hv (HSub.refl _)
   clear he hv
   unfold F80_j2 at h
   refine AWP.seq (fun env pv hp => ∃ (x0 : Option Addr) (k4 : List Value), Sub (upd (upd E0 4 (sR 4 0)) 0 (sP x0)) env ∧ Sub (upd V0 4 (29, k4)) pv ∧ (F80_j3 x0 k4 hp  K)) ?_ ?_
   ·refine AWP.seq' ?_
    refine AWP.rgn (F80_r4 (upd (upd E0 6 (sP x6)) 0 (sP x0)) k4 hp _) ?_ (RefOk.p 4 4 0 (Ru 0 (Ru 6 Rn)) (fun e => by cases e)) (Sc rfl (Sc rfl (Sc rfl Sn))) (Sc rfl Sn)
    refine mV h fun v_29 h => mB h fun q_30 h => ?_
    refine AWP.cond (t := (!q_30)) rfl (fun e => ?_) (fun e => ?_)
    ·replace h := ite2_t h e
     refine AWP.rgn (F80_r5 (upd E0 0 (sP x0)) x6 k4 hp _) ?_ (RefOk.p 4 4 0 (Ru 6 (Ru 0 Rn)) (fun e => by cases e)) (Sc rfl (Sc rfl (Sc rfl Sn))) (Sc rfl Sn)
     refine mL h fun l_31 h => mC h fun u_32 h_33 h => mI h fun i_34 h => mN h fun b_35 o_36 h => mw h fun h_37 h => ?_
     exact ⟨x0, k4, (Sc rfl (Sc rfl Sn)), (Sc rfl Sn), h⟩
    ·replace h := ite2_f h e
     refine AWP.skip ?_
     exact ⟨x0, k4, (Sc rfl (Sc rfl Sn)), (Sc rfl Sn), h⟩
   ·rintro env pv hp ⟨x0, k4, he, hv, h⟩
    refine AWP.sub (env' := (upd (upd E0 4 (sR 4 0)) 0 (sP x0))) (pv' := (upd V0 4 (29, k4))) ?_ (Ru 0 (RefOk.p 4 4 0 Rn (fun e => by cases e))) he hv (HSub.refl _)
    clear he hv
    unfold F80_j3 at h
    refine AWP.seq' ?_
    refine AWP.rgn (F80_r2 (upd E0 4 (sR 4 0)) x0 k4 hp _) ?_ (Ru 0 (RefOk.p 4 4 0 Rn (fun e => by cases e))) (Sc rfl (Sc rfl Sn)) (Sc rfl Sn)
    refine mN h fun b_12 o_13 h => mV h fun v_14 h => mI h fun i_15 h => mN h fun b_16 o_17 h => mw h fun h_18 h => ?_
    refine AWP.rgnD (by kernel_rfl) (by kernel_rfl) (F80_r3 E0 x0 k4 h_18 _) ?_ (Ru 0 (RefOk.p 4 4 0 Rn (fun e => by cases e))) (Sc rfl (Sc rfl Sn)) (Sc rfl Sn)
    refine mN h fun b_19 o_20 h => mV h fun v_21 h => mM h fun m_22 h => mV h fun v_23 h => ms h fun s_24 h => mR h fun u_25 h => mI h fun i_26 h => mO h fun u_27 h_28 h => ?_
    exact h
end
-- 81 (*interpreter/frag.datagram).whole
section
variable (e : Env) (x0 x32a : Option Addr) (x32n x32c : Nat) (x33 x34 : Int) (k4 k6 k8 : List Value) (hp : HP) (K : Env → PV → HP → Prop)
abbrev R81 (p : List Nat) (n : Nat) := RW Try.prog 62 [4, 6, 8, 38, 40, 45, 47, 50, 52] (opsAt Try.f81 p) (List.range n)
theorem F81_r0 : R81 [0] 2 e V0 hp K =
    (K (upd (upd e 4 (sR 4 0)) 5 (sB false)) (upd V0 4 (36, [.string ⟨#[]⟩, .string ⟨#[]⟩, .string ⟨#[]⟩, .int .i64 0])) hp) := by kernel_rfl
theorem F81_r1 : R81 [1, 0, 0] 5 (upd e 0 (sP x0)) (upd V0 4 (36, k4)) hp K =
    (ptrN x0 fun b1 o2 => (ldV (HP.cell hp b1 (o2 + 2)) fun v3 => (intV v3 .i64 fun i4 => (K (upd (upd (upd (upd (upd (upd e 0 (sP x0)) 9 (sP x0)) 10 (sQ b1 o2)) 11 (sQ b1 (o2 + 2))) 12 (sI i4)) 13 (sB (decide (i4 < 0)))) (upd V0 4 (36, k4)) hp)))) := by kernel_rfl
theorem F81_r2 : R81 [1, 0, 1, 0, 0] 3 (upd e 4 (sR 4 0)) (upd V0 4 (36, k4)) hp K =
    (if List.length [(Value.string ⟨#[]⟩), .string ⟨#[]⟩, .string ⟨#[]⟩, .int .i64 0] = 4 then (if List.all [(Value.string ⟨#[]⟩), .string ⟨#[]⟩, .string ⟨#[]⟩, .int .i64 0] one = true then (if 0 + List.length [(Value.string ⟨#[]⟩), .string ⟨#[]⟩, .string ⟨#[]⟩, .int .i64 0] ≤ List.length k4 then (K (upd (upd (upd e 4 (sR 4 0)) 14 (sV (.agg ⟨[.string ⟨#[]⟩, .string ⟨#[]⟩, .string ⟨#[]⟩, .int .i64 0]⟩))) 5 (sB false)) (upd (upd V0 4 (36, k4)) 4 (36, (splice k4 0 [.string ⟨#[]⟩, .string ⟨#[]⟩, .string ⟨#[]⟩, .int .i64 0]))) hp) else False) else False) else False) := by kernel_rfl
theorem F81_r3 : R81 [1, 1, 1, 0] 5 (upd e 0 (sP x0)) (upd (upd V0 6 (36, k6)) 4 (36, k4)) hp K =
    (ptrN x0 fun b1 o2 => (ldV (HP.cell hp b1 (o2 + 3)) fun v3 => (slcV v3 fun a4 n5 c6 => (CF Try.prog 124 [(.slice a4 n5 c6), (.func (.func 125) ⟨[]⟩ ⟨[]⟩)] hp fun u7 h8 => (K (upd (upd (upd (upd (upd (upd e 0 (sP x0)) 24 (sP x0)) 25 (sQ b1 o2)) 26 (sQ b1 (o2 + 3))) 27 (sS a4 n5 c6)) 28 (sV u7)) (upd (upd V0 6 (36, k6)) 4 (36, k4)) h8))))) := by kernel_rfl
theorem F81_r4 : R81 [1, 1, 1, 1, 1, 0, 0] 8 (upd (upd e 6 (sR 6 0)) 0 (sP x0)) (upd (upd V0 6 (36, k6)) 4 (36, k4)) hp K =
    (ldV (k6)[2]? fun v1 => (strV v1 fun s2 => (ptrN x0 fun b3 o4 => (ldV (HP.cell hp b3 (o4 + 2)) fun v5 => (intV v5 .i64 fun i6 => (K (upd (upd (upd (upd (upd (upd (upd (upd (upd (upd e 6 (sR 6 0)) 0 (sP x0)) 52 (sR 6 2)) 53 (sV (.string s2))) 54 (sI ((ByteArray.size s2 : Nat)))) 55 (sP x0)) 56 (sQ b3 o4)) 57 (sQ b3 (o4 + 2))) 58 (sI i6)) 59 (sB ((((ByteArray.size s2 : Nat) : Int) != i6)))) (upd (upd V0 6 (36, k6)) 4 (36, k4)) hp)))))) := by kernel_rfl
theorem F81_r5 : R81 [1, 1, 1, 1, 1, 0, 1, 0, 0] 3 (upd e 4 (sR 4 0)) (upd V0 4 (36, k4)) hp K =
    (if List.length [(Value.string ⟨#[]⟩), .string ⟨#[]⟩, .string ⟨#[]⟩, .int .i64 0] = 4 then (if List.all [(Value.string ⟨#[]⟩), .string ⟨#[]⟩, .string ⟨#[]⟩, .int .i64 0] one = true then (if 0 + List.length [(Value.string ⟨#[]⟩), .string ⟨#[]⟩, .string ⟨#[]⟩, .int .i64 0] ≤ List.length k4 then (K (upd (upd (upd e 4 (sR 4 0)) 60 (sV (.agg ⟨[.string ⟨#[]⟩, .string ⟨#[]⟩, .string ⟨#[]⟩, .int .i64 0]⟩))) 5 (sB false)) (upd (upd V0 4 (36, k4)) 4 (36, (splice k4 0 [.string ⟨#[]⟩, .string ⟨#[]⟩, .string ⟨#[]⟩, .int .i64 0]))) hp) else False) else False) else False) := by kernel_rfl
theorem F81_r6 : R81 [1, 1, 1, 1, 1, 1, 0] 3 (upd (upd e 6 (sR 6 0)) 4 (sR 4 0)) (upd (upd V0 6 (36, k6)) 4 (36, k4)) hp K =
    (ldL (cellsN k6 0 4) fun l1 => (if List.length l1 = 4 then (if List.all l1 one = true then (if 0 + List.length l1 ≤ List.length k4 then (K (upd (upd (upd (upd e 6 (sR 6 0)) 4 (sR 4 0)) 61 (sA l1)) 5 (sB true)) (upd (upd (upd V0 6 (36, k6)) 4 (36, k4)) 4 (36, (splice k4 0 l1))) hp) else False) else False) else False)) := by kernel_rfl
def F81_j2 (x0 : Option Addr) (k4 : List Value) (k6 : List Value) (hp : HP) (K : Value → HP → Prop) : Prop :=
  (ldV (k6)[2]? fun v_14 => (strV v_14 fun s_15 => (ptrN x0 fun b_16 o_17 => (ldV (HP.cell hp b_16 (o_17 + 2)) fun v_18 => (intV v_18 .i64 fun i_19 => (ite2 (((ByteArray.size s_15 : Nat) : Int) != i_19) (if List.length [(Value.string ⟨#[]⟩), .string ⟨#[]⟩, .string ⟨#[]⟩, .int .i64 0] = 4 then (if List.all [(Value.string ⟨#[]⟩), .string ⟨#[]⟩, .string ⟨#[]⟩, .int .i64 0] one = true then (if 0 + List.length [(Value.string ⟨#[]⟩), .string ⟨#[]⟩, .string ⟨#[]⟩, .int .i64 0] ≤ List.length k4 then (ldL (cellsN (splice k4 0 [.string ⟨#[]⟩, .string ⟨#[]⟩, .string ⟨#[]⟩, .int .i64 0]) 0 4) fun l_20 => (K (.tuple ⟨[(.agg ⟨l_20⟩), .bool false]⟩) hp)) else False) else False) else False) (ldL (cellsN k6 0 4) fun l_21 => (if List.length l_21 = 4 then (if List.all l_21 one = true then (if 0 + List.length l_21 ≤ List.length k4 then (ldL (cellsN (splice k4 0 l_21) 0 4) fun l_22 => (K (.tuple ⟨[(.agg ⟨l_22⟩), (.bool true)]⟩) hp)) else False) else False) else False))))))))
theorem F81_r7 : R81 [1, 1, 1, 1, 0, 1, 0, 0, 0] 1 (upd (upd e 34 (sI x34)) 33 (sI x33)) (upd (upd V0 6 (36, k6)) 4 (36, k4)) hp K =
    (K (upd (upd (upd e 34 (sI x34)) 33 (sI x33)) 35 (sB (decide (x34 < x33)))) (upd (upd V0 6 (36, k6)) 4 (36, k4)) hp) := by kernel_rfl
theorem F81_r8 : R81 [1, 1, 1, 1, 0, 1, 0, 0, 1, 1, 0, 0, 0] 4 (upd (upd e 34 (sI x34)) 32 (sS x32a x32n x32c)) (upd (upd V0 6 (36, k6)) 4 (36, k4)) hp K =
    ((0 ≤ x34) ∧ (x34 < x32n) ∧ (ptrN x32a fun b1 o2 => (ldL (HP.cellN hp b1 (o2 + Int.toNat x34 * 6) 6) fun l3 => (if List.length l3 = 6 then (if List.all l3 one = true then (if 0 + List.length l3 ≤ List.length [(Value.string ⟨#[]⟩), .string ⟨#[]⟩, .int .i64 0, .bool false, .string ⟨#[]⟩, .string ⟨#[]⟩] then (K (upd (upd (upd (upd (upd e 34 (sI x34)) 32 (sS x32a x32n x32c)) 36 (sQ b1 (o2 + Int.toNat x34 * 6))) 37 (sA l3)) 8 (sR 8 0)) (upd (upd (upd (upd V0 6 (36, k6)) 4 (36, k4)) 8 (29, [.string ⟨#[]⟩, .string ⟨#[]⟩, .int .i64 0, .bool false, .string ⟨#[]⟩, .string ⟨#[]⟩])) 8 (29, (splice [.string ⟨#[]⟩, .string ⟨#[]⟩, .int .i64 0, .bool false, .string ⟨#[]⟩, .string ⟨#[]⟩] 0 l3))) hp) else False) else False) else False)))) := by kernel_rfl
theorem F81_r9 : R81 [1, 1, 1, 1, 0, 1, 0, 0, 1, 1, 0, 0, 1, 0, 0] 6 (upd (upd e 8 (sR 8 0)) 6 (sR 6 0)) (upd (upd (upd V0 8 (29, k8)) 6 (36, k6)) 4 (36, k4)) hp K =
    (ldV (k8)[2]? fun v1 => (intV v1 .i64 fun i2 => (ldV (k6)[2]? fun v3 => (strV v3 fun s4 => (K (upd (upd (upd (upd (upd (upd (upd (upd e 8 (sR 8 0)) 6 (sR 6 0)) 38 (sR 8 2)) 39 (sI i2)) 40 (sR 6 2)) 41 (sV (.string s4))) 42 (sI ((ByteArray.size s4 : Nat)))) 43 (sB ((i2 != (ByteArray.size s4 : Nat))))) (upd (upd (upd V0 8 (29, k8)) 6 (36, k6)) 4 (36, k4)) hp))))) := by kernel_rfl
theorem F81_r10 : R81 [1, 1, 1, 1, 0, 1, 0, 0, 1, 1, 0, 0, 1, 0, 1, 0, 0] 3 (upd e 4 (sR 4 0)) (upd V0 4 (36, k4)) hp K =
    (if List.length [(Value.string ⟨#[]⟩), .string ⟨#[]⟩, .string ⟨#[]⟩, .int .i64 0] = 4 then (if List.all [(Value.string ⟨#[]⟩), .string ⟨#[]⟩, .string ⟨#[]⟩, .int .i64 0] one = true then (if 0 + List.length [(Value.string ⟨#[]⟩), .string ⟨#[]⟩, .string ⟨#[]⟩, .int .i64 0] ≤ List.length k4 then (K (upd (upd (upd e 4 (sR 4 0)) 44 (sV (.agg ⟨[.string ⟨#[]⟩, .string ⟨#[]⟩, .string ⟨#[]⟩, .int .i64 0]⟩))) 5 (sB false)) (upd (upd V0 4 (36, k4)) 4 (36, (splice k4 0 [.string ⟨#[]⟩, .string ⟨#[]⟩, .string ⟨#[]⟩, .int .i64 0]))) hp) else False) else False) else False) := by kernel_rfl
theorem F81_r11 : R81 [1, 1, 1, 1, 0, 1, 0, 0, 1, 1, 0, 0, 1, 1] 7 (upd (upd e 8 (sR 8 0)) 6 (sR 6 0)) (upd (upd (upd V0 8 (29, k8)) 6 (36, k6)) 4 (36, k4)) hp K =
    (ldV (k6)[2]? fun v1 => (strV v1 fun s2 => (ldV (k8)[4]? fun v3 => (strV v3 fun s4 => ((ByteArray.size s2 + ByteArray.size s4 ≤ 9223372036854775807) ∧ (if 2 < List.length k6 then (K (upd (upd (upd (upd (upd (upd (upd (upd e 8 (sR 8 0)) 6 (sR 6 0)) 45 (sR 6 2)) 46 (sV (.string s2))) 47 (sR 8 4)) 48 (sV (.string s4))) 49 (sV (.string (s2 ++ s4)))) 50 (sR 6 2)) (upd (upd (upd (upd V0 8 (29, k8)) 6 (36, k6)) 4 (36, k4)) 6 (36, (List.set k6 2 (.string (s2 ++ s4))))) hp) else False)))))) := by kernel_rfl
theorem F81_r12 : R81 [1, 1, 1, 1, 0, 1, 0, 0, 1, 1, 1] 2 (upd e 34 (sI x34)) (upd (upd V0 6 (36, k6)) 4 (36, k4)) hp K =
    (K (upd (upd (upd e 34 (sI x34)) 51 (sI ((wr (x34 + 1))))) 34 (sI ((wr (x34 + 1))))) (upd (upd V0 6 (36, k6)) 4 (36, k4)) hp) := by kernel_rfl
def F81_l4 (x0 : Option Addr) (x32a : Option Addr) (x32n : Nat) (x32c : Nat) (x33 : Int) (K : Value → HP → Prop) (I4 : (Int × (List Value) × (List Value)) → HP → Prop) (x34 : Int) (k4 : List Value) (k6 : List Value) (hp : HP) : Prop :=
  (ite2 (decide (x34 < x33)) ((0 ≤ x34) ∧ (x34 < x32n) ∧ (ptrN x32a fun b_23 o_24 => (ldL (HP.cellN hp b_23 (o_24 + Int.toNat x34 * 6) 6) fun l_25 => (if List.length l_25 = 6 then (if List.all l_25 one = true then (if 0 + List.length l_25 ≤ List.length [(Value.string ⟨#[]⟩), .string ⟨#[]⟩, .int .i64 0, .bool false, .string ⟨#[]⟩, .string ⟨#[]⟩] then (ldV ((splice [.string ⟨#[]⟩, .string ⟨#[]⟩, .int .i64 0, .bool false, .string ⟨#[]⟩, .string ⟨#[]⟩] 0 l_25))[2]? fun v_26 => (intV v_26 .i64 fun i_27 => (ldV (k6)[2]? fun v_28 => (strV v_28 fun s_29 => (ite2 (i_27 != (ByteArray.size s_29 : Nat)) (if List.length [(Value.string ⟨#[]⟩), .string ⟨#[]⟩, .string ⟨#[]⟩, .int .i64 0] = 4 then (if List.all [(Value.string ⟨#[]⟩), .string ⟨#[]⟩, .string ⟨#[]⟩, .int .i64 0] one = true then (if 0 + List.length [(Value.string ⟨#[]⟩), .string ⟨#[]⟩, .string ⟨#[]⟩, .int .i64 0] ≤ List.length k4 then (ldL (cellsN (splice k4 0 [.string ⟨#[]⟩, .string ⟨#[]⟩, .string ⟨#[]⟩, .int .i64 0]) 0 4) fun l_30 => (K (.tuple ⟨[(.agg ⟨l_30⟩), .bool false]⟩) hp)) else False) else False) else False) (ldV (k6)[2]? fun v_31 => (strV v_31 fun s_32 => (ldV ((splice [.string ⟨#[]⟩, .string ⟨#[]⟩, .int .i64 0, .bool false, .string ⟨#[]⟩, .string ⟨#[]⟩] 0 l_25))[4]? fun v_33 => (strV v_33 fun s_34 => ((ByteArray.size s_32 + ByteArray.size s_34 ≤ 9223372036854775807) ∧ (if 2 < List.length k6 then (I4 ((IntKind.wrap .i64 (x34 + 1)), k4, (List.set k6 2 (.string (s_32 ++ s_34)))) hp) else False))))))))))) else False) else False) else False)))) (F81_j2 x0 k4 k6 hp  K))
def F81_j3 (x0 : Option Addr) (x32a : Option Addr) (x32n : Nat) (x32c : Nat) (x33 : Int) (x34 : Int) (k4 : List Value) (k6 : List Value) (hp : HP) (K : Value → HP → Prop) : Prop :=
  (LoopP (σ := Int × (List Value) × (List Value)) (fun I s hp => F81_l4 x0 x32a x32n x32c x33  K I s.1 s.2.1 s.2.2 hp) (x34, k4, k6) hp)
theorem F81_r13 : R81 [1, 1, 1, 1, 0, 0] 6 (upd e 0 (sP x0)) (upd (upd V0 6 (36, k6)) 4 (36, k4)) hp K =
    (ptrN x0 fun b1 o2 => (ldV (HP.cell hp b1 (o2 + 3)) fun v3 => (slcV v3 fun a4 n5 c6 => (K (upd (upd (upd (upd (upd (upd (upd e 0 (sP x0)) 29 (sP x0)) 30 (sQ b1 o2)) 31 (sQ b1 (o2 + 3))) 32 (sS a4 n5 c6)) 33 (sI ((n5 : Nat)))) 34 (sI 0)) (upd (upd V0 6 (36, k6)) 4 (36, k4)) hp)))) := by kernel_rfl
def F81_j1 (x0 : Option Addr) (k4 : List Value) (k6 : List Value) (hp : HP) (K : Value → HP → Prop) : Prop :=
  (ptrN x0 fun b_6 o_7 => (ldV (HP.cell hp b_6 (o_7 + 3)) fun v_8 => (slcV v_8 fun a_9 n_10 c_11 => (CF Try.prog 124 [(.slice a_9 n_10 c_11), (.func (.func 125) ⟨[]⟩ ⟨[]⟩)] hp fun u_12 h_13 => (ptrN x0 fun b_35 o_36 => (ldV (HP.cell h_13 b_35 (o_36 + 3)) fun v_37 => (slcV v_37 fun a_38 n_39 c_40 => (F81_j3 x0 a_38 n_39 c_40 (n_39 : Nat) 0 k4 k6 h_13  K))))))))
theorem F81_r14 (e : Env) (x0 : Option Addr) (x1 : ByteArray) (k4 : List Value) (hp : HP) (K : Env → PV → HP → Prop) : RW Try.prog 62 [4, 6, 8, 38, 40, 45, 47, 50, 52] (opsAt Try.f81 [1, 1, 0]) [0, 1, 2, 3, 4, 5, 6, 7, 8, 9, 10] (upd (upd e 1 (sV (.string x1))) 0 (sP x0)) (upd V0 4 (36, k4)) hp K =
    (ptrN x0 fun b1 o2 => (ldV (HP.cell hp b1 (o2 + 3)) fun v3 => (slcV v3 fun a4 n5 c6 => (CF Try.prog 110 [(.pointer x0)] hp fun u7 h8 => (strV u7 fun s9 => (if List.length [(Value.string x1), (.string s9), .string ⟨#[]⟩, (.int .i64 (n5 : Nat))] = 4 then (if List.all [(Value.string x1), (.string s9), .string ⟨#[]⟩, (.int .i64 (n5 : Nat))] one = true then (if 0 + List.length [(Value.string x1), (.string s9), .string ⟨#[]⟩, (.int .i64 (n5 : Nat))] ≤ List.length [(Value.string ⟨#[]⟩), .string ⟨#[]⟩, .string ⟨#[]⟩, .int .i64 0] then (K (upd (upd (upd (upd (upd (upd (upd (upd (upd (upd (upd (upd e 1 (sV (.string x1))) 0 (sP x0)) 15 (sV (.string x1))) 16 (sP x0)) 17 (sQ b1 o2)) 18 (sQ b1 (o2 + 3))) 19 (sS a4 n5 c6)) 20 (sI ((n5 : Nat)))) 21 (sP x0)) 22 (sV (.string s9))) 23 (sV (.agg ⟨[(.string x1), (.string s9), .string ⟨#[]⟩, (.int .i64 (n5 : Nat))]⟩))) 6 (sR 6 0)) (upd (upd (upd V0 4 (36, k4)) 6 (36, [.string ⟨#[]⟩, .string ⟨#[]⟩, .string ⟨#[]⟩, .int .i64 0])) 6 (36, (splice [.string ⟨#[]⟩, .string ⟨#[]⟩, .string ⟨#[]⟩, .int .i64 0] 0 [(.string x1), (.string s9), .string ⟨#[]⟩, (.int .i64 (n5 : Nat))]))) h8) else False) else False) else False)))))) := by kernel_rfl
theorem F81_r15 (e : Env) (x0 : Option Addr) (x1 : ByteArray) (k4 : List Value) (hp : HP) (K : Env → PV → HP → Prop) : RW Try.prog 62 [4, 6, 8, 38, 40, 45, 47, 50, 52] (opsAt Try.f81 [1, 1, 0]) [0, 1, 2, 3, 6, 7, 4, 5, 8, 9, 10] (upd (upd e 1 (sV (.string x1))) 0 (sP x0)) (upd V0 4 (36, k4)) hp K =
    (ptrN x0 fun b1 o2 => (CF Try.prog 110 [(.pointer x0)] hp fun u3 h4 => (strV u3 fun s5 => (ldV (HP.cell h4 b1 (o2 + 3)) fun v6 => (slcV v6 fun a7 n8 c9 => (if List.length [(Value.string x1), (.string s5), .string ⟨#[]⟩, (.int .i64 (n8 : Nat))] = 4 then (if List.all [(Value.string x1), (.string s5), .string ⟨#[]⟩, (.int .i64 (n8 : Nat))] one = true then (if 0 + List.length [(Value.string x1), (.string s5), .string ⟨#[]⟩, (.int .i64 (n8 : Nat))] ≤ List.length [(Value.string ⟨#[]⟩), .string ⟨#[]⟩, .string ⟨#[]⟩, .int .i64 0] then (K (upd (upd (upd (upd (upd (upd (upd (upd (upd (upd (upd (upd e 1 (sV (.string x1))) 0 (sP x0)) 15 (sV (.string x1))) 16 (sP x0)) 17 (sQ b1 o2)) 18 (sQ b1 (o2 + 3))) 21 (sP x0)) 22 (sV (.string s5))) 19 (sS a7 n8 c9)) 20 (sI ((n8 : Nat)))) 23 (sV (.agg ⟨[(.string x1), (.string s5), .string ⟨#[]⟩, (.int .i64 (n8 : Nat))]⟩))) 6 (sR 6 0)) (upd (upd (upd V0 4 (36, k4)) 6 (36, [.string ⟨#[]⟩, .string ⟨#[]⟩, .string ⟨#[]⟩, .int .i64 0])) 6 (36, (splice [.string ⟨#[]⟩, .string ⟨#[]⟩, .string ⟨#[]⟩, .int .i64 0] 0 [(.string x1), (.string s5), .string ⟨#[]⟩, (.int .i64 (n8 : Nat))]))) h4) else False) else False) else False)))))) := by kernel_rfl
def F81 (x0 : Option Addr) (x1 : ByteArray) (hp : HP) (K : Value → HP → Prop) : Prop :=
  (ptrN x0 fun b_1 o_2 => (ldV (HP.cell hp b_1 (o_2 + 2)) fun v_3 => (intV v_3 .i64 fun i_4 => (ite2 (decide (i_4 < 0)) (if List.length [(Value.string ⟨#[]⟩), .string ⟨#[]⟩, .string ⟨#[]⟩, .int .i64 0] = 4 then (if List.all [(Value.string ⟨#[]⟩), .string ⟨#[]⟩, .string ⟨#[]⟩, .int .i64 0] one = true then (if 0 + List.length [(Value.string ⟨#[]⟩), .string ⟨#[]⟩, .string ⟨#[]⟩, .int .i64 0] ≤ List.length [(Value.string ⟨#[]⟩), .string ⟨#[]⟩, .string ⟨#[]⟩, .int .i64 0] then (ldL (cellsN (splice [.string ⟨#[]⟩, .string ⟨#[]⟩, .string ⟨#[]⟩, .int .i64 0] 0 [.string ⟨#[]⟩, .string ⟨#[]⟩, .string ⟨#[]⟩, .int .i64 0]) 0 4) fun l_5 => (K (.tuple ⟨[(.agg ⟨l_5⟩), .bool false]⟩) hp)) else False) else False) else False) ((ptrN x0 fun b_41 o_42 => (ldV (HP.cell hp b_41 (o_42 + 3)) fun v_43 => (slcV v_43 fun a_44 n_45 c_46 => (CF Try.prog 110 [(.pointer x0)] hp fun u_47 h_48 => (strV u_47 fun s_49 => (if List.length [(Value.string x1), (.string s_49), .string ⟨#[]⟩, (.int .i64 (n_45 : Nat))] = 4 then (if List.all [(Value.string x1), (.string s_49), .string ⟨#[]⟩, (.int .i64 (n_45 : Nat))] one = true then (if 0 + List.length [(Value.string x1), (.string s_49), .string ⟨#[]⟩, (.int .i64 (n_45 : Nat))] ≤ List.length [(Value.string ⟨#[]⟩), .string ⟨#[]⟩, .string ⟨#[]⟩, .int .i64 0] then (F81_j1 x0 [.string ⟨#[]⟩, .string ⟨#[]⟩, .string ⟨#[]⟩, .int .i64 0] (splice [.string ⟨#[]⟩, .string ⟨#[]⟩, .string ⟨#[]⟩, .int .i64 0] 0 [(.string x1), (.string s_49), .string ⟨#[]⟩, (.int .i64 (n_45 : Nat))]) h_48  K) else False) else False) else False)))))) ∧ (ptrN x0 fun b_50 o_51 => (CF Try.prog 110 [(.pointer x0)] hp fun u_52 h_53 => (strV u_52 fun s_54 => (ldV (HP.cell h_53 b_50 (o_51 + 3)) fun v_55 => (slcV v_55 fun a_56 n_57 c_58 => (if List.length [(Value.string x1), (.string s_54), .string ⟨#[]⟩, (.int .i64 (n_57 : Nat))] = 4 then (if List.all [(Value.string x1), (.string s_54), .string ⟨#[]⟩, (.int .i64 (n_57 : Nat))] one = true then (if 0 + List.length [(Value.string x1), (.string s_54), .string ⟨#[]⟩, (.int .i64 (n_57 : Nat))] ≤ List.length [(Value.string ⟨#[]⟩), .string ⟨#[]⟩, .string ⟨#[]⟩, .int .i64 0] then (F81_j1 x0 [.string ⟨#[]⟩, .string ⟨#[]⟩, .string ⟨#[]⟩, .int .i64 0] (splice [.string ⟨#[]⟩, .string ⟨#[]⟩, .string ⟨#[]⟩, .int .i64 0] 0 [(.string x1), (.string s_54), .string ⟨#[]⟩, (.int .i64 (n_57 : Nat))]) h_53  K) else False) else False) else False)))))))))))
noncomputable def F81_code : Code := (.seq (.region 0 (opsAt Try.f81 [0]) false) (.seq (.seq (.region 1 (opsAt Try.f81 [1, 0, 0]) false) (.cond (.tmp 13) (.seq (.region 2 (opsAt Try.f81 [1, 0, 1, 0, 0]) false) .ret) .skip)) (.seq (.region 3 (opsAt Try.f81 [1, 1, 0]) true) (.seq (.region 4 (opsAt Try.f81 [1, 1, 1, 0]) false) (.seq (.seq (.region 5 (opsAt Try.f81 [1, 1, 1, 1, 0, 0]) false) (.block 0 (.loop (.seq (.region 6 (opsAt Try.f81 [1, 1, 1, 1, 0, 1, 0, 0, 0]) false) (.seq (.cond (.tmp 35) .skip (.exit 0)) (.seq (.block 1 (.seq (.region 7 (opsAt Try.f81 [1, 1, 1, 1, 0, 1, 0, 0, 1, 1, 0, 0, 0]) false) (.seq (.seq (.region 8 (opsAt Try.f81 [1, 1, 1, 1, 0, 1, 0, 0, 1, 1, 0, 0, 1, 0, 0]) false) (.cond (.tmp 43) (.seq (.region 9 (opsAt Try.f81 [1, 1, 1, 1, 0, 1, 0, 0, 1, 1, 0, 0, 1, 0, 1, 0, 0]) false) .ret) .skip)) (.region 10 (opsAt Try.f81 [1, 1, 1, 1, 0, 1, 0, 0, 1, 1, 0, 0, 1, 1]) false)))) (.region 11 (opsAt Try.f81 [1, 1, 1, 1, 0, 1, 0, 0, 1, 1, 1]) false))))))) (.seq (.seq (.region 12 (opsAt Try.f81 [1, 1, 1, 1, 1, 0, 0]) true) (.cond (.tmp 59) (.seq (.region 13 (opsAt Try.f81 [1, 1, 1, 1, 1, 0, 1, 0, 0]) false) .ret) .skip)) (.seq (.region 14 (opsAt Try.f81 [1, 1, 1, 1, 1, 1, 0]) false) .ret)))))))
theorem F81_body : Try.f81.body = some F81_code := by kernel_rfl
theorem F81_ok (x0 : Option Addr) (x1 : ByteArray) (hp : HP) (K : Value → HP → Prop) (h : F81 x0 x1 hp K) : CF Try.prog 81 [(.pointer x0), (.string x1)] hp K := by
 refine .inl ⟨by kernel_rfl, AC.intro (N := 62) Try.func81 F81_body rfl (Nat.le_of_ble_eq_true rfl) ?_⟩
 unfold F81 at h
 unfold F81_code
 refine AWP.seq' ?_
 refine AWP.rgn (F81_r0 (upd (upd E0 1 (sV (.string x1))) 0 (sP x0))  hp _) ?_ (Ru 0 (Ru 1 Rn)) (Sc rfl (Sc rfl Sn)) Sn
 refine AWP.seq' ?_
 refine AWP.seq' ?_
 refine AWP.rgn (F81_r1 (upd (upd E0 4 (sR 4 0)) 1 (sV (.string x1))) x0 [.string ⟨#[]⟩, .string ⟨#[]⟩, .string ⟨#[]⟩, .int .i64 0] hp _) ?_ (Ru 0 (Ru 1 (RefOk.p 4 4 0 Rn (fun e => by cases e)))) (Sc rfl (Sc rfl (Sc rfl Sn))) (Sc rfl Sn)
 refine mN h fun b_1 o_2 h => mV h fun v_3 h => mI h fun i_4 h => ?_
 refine AWP.cond (t := (decide (i_4 < 0))) rfl (fun e => ?_) (fun e => ?_)
 ·replace h := ite2_t h e
  refine AWP.seq' ?_
  refine AWP.rgn (F81_r2 E0 [.string ⟨#[]⟩, .string ⟨#[]⟩, .string ⟨#[]⟩, .int .i64 0] hp _) ?_ (RefOk.p 4 4 0 Rn (fun e => by cases e)) (Sc rfl Sn) (Sc rfl Sn)
  refine mf h fun h => mf h fun h => mf h fun h => ?_
  refine AWP.ret ?_
  exact h
 ·replace h := ite2_f h e
  refine AWP.skip ?_
  refine AWP.seq (fun env pv hp => ∃ (x0 : Option Addr) (k4 : List Value) (k6 : List Value), Sub (upd (upd (upd E0 6 (sR 6 0)) 4 (sR 4 0)) 0 (sP x0)) env ∧ Sub (upd (upd V0 6 (36, k6)) 4 (36, k4)) pv ∧ (F81_j1 x0 k4 k6 hp  K)) ?_ ?_
  ·refine AWP.rgnC (cf := [(4, 7)]) (c := [([true], true, [0, 1, 2, 3, 4, 5, 6, 7, 8, 9, 10]), ([false], true, [0, 1, 2, 3, 6, 7, 4, 5, 8, 9, 10])]) (by kernel_rfl) (by kernel_rfl) (by kernel_rfl) (by kernel_rfl) (allO_t (Eq.mpr (F81_r14 (upd E0 4 (sR 4 0)) x0 x1 [.string ⟨#[]⟩, .string ⟨#[]⟩, .string ⟨#[]⟩, .int .i64 0] hp _) ?_) (allO_t (Eq.mpr (F81_r15 (upd E0 4 (sR 4 0)) x0 x1 [.string ⟨#[]⟩, .string ⟨#[]⟩, .string ⟨#[]⟩, .int .i64 0] hp _) ?_) trivial)) (Ru 0 (Ru 1 (RefOk.p 4 4 0 Rn (fun e => by cases e)))) (Sc rfl (Sc rfl (Sc rfl Sn))) (Sc rfl Sn)
   ·replace h := h.1
    refine mN h fun b_41 o_42 h => mV h fun v_43 h => mS h fun a_44 n_45 c_46 h => mC h fun u_47 h_48 h => ms h fun s_49 h => mf h fun h => mf h fun h => mf h fun h => ?_
    exact ⟨x0, [.string ⟨#[]⟩, .string ⟨#[]⟩, .string ⟨#[]⟩, .int .i64 0], (splice [.string ⟨#[]⟩, .string ⟨#[]⟩, .string ⟨#[]⟩, .int .i64 0] 0 [(.string x1), (.string s_49), .string ⟨#[]⟩, (.int .i64 (n_45 : Nat))]), (Sc rfl (Sc rfl (Sc rfl Sn))), (Sc rfl (Sc rfl Sn)), h⟩
   ·replace h := h.2
    refine mN h fun b_50 o_51 h => mC h fun u_52 h_53 h => ms h fun s_54 h => mV h fun v_55 h => mS h fun a_56 n_57 c_58 h => mf h fun h => mf h fun h => mf h fun h => ?_
    exact ⟨x0, [.string ⟨#[]⟩, .string ⟨#[]⟩, .string ⟨#[]⟩, .int .i64 0], (splice [.string ⟨#[]⟩, .string ⟨#[]⟩, .string ⟨#[]⟩, .int .i64 0] 0 [(.string x1), (.string s_54), .string ⟨#[]⟩, (.int .i64 (n_57 : Nat))]), (Sc rfl (Sc rfl (Sc rfl Sn))), (Sc rfl (Sc rfl Sn)), h⟩
  ·rintro env pv hp ⟨x0, k4, k6, he, hv, h⟩
   refine AWP.sub (env' := (upd (upd (upd E0 6 (sR 6 0)) 4 (sR 4 0)) 0 (sP x0))) (pv' := (upd (upd V0 6 (36, k6)) 4 (36, k4))) ?_ (Ru 0 (RefOk.p 4 4 0 (RefOk.p 6 6 0 Rn (fun e => by cases e)) (fun e => by cases e))) he hv (HSub.refl _)
   clear he hv
   unfold F81_j1 at h
   refine AWP.seq' ?_
   refine AWP.rgn (F81_r3 (upd (upd E0 6 (sR 6 0)) 4 (sR 4 0)) x0 k4 k6 hp _) ?_ (Ru 0 (RefOk.p 4 4 0 (RefOk.p 6 6 0 Rn (fun e => by cases e)) (fun e => by cases e))) (Sc rfl (Sc rfl (Sc rfl Sn))) (Sc rfl (Sc rfl Sn))
   refine mN h fun b_6 o_7 h => mV h fun v_8 h => mS h fun a_9 n_10 c_11 h => mC h fun u_12 h_13 h => ?_
   refine AWP.seq (fun env pv hp => ∃ (x0 : Option Addr) (k4 : List Value) (k6 : List Value), Sub (upd (upd (upd E0 6 (sR 6 0)) 4 (sR 4 0)) 0 (sP x0)) env ∧ Sub (upd (upd V0 6 (36, k6)) 4 (36, k4)) pv ∧ (F81_j2 x0 k4 k6 hp  K)) ?_ ?_
   ·refine AWP.seq (fun env pv hp => ∃ (x0 : Option Addr) (x32a : Option Addr) (x32n : Nat) (x32c : Nat) (x33 : Int) (x34 : Int) (k4 : List Value) (k6 : List Value), Sub (upd (upd (upd (upd (upd (upd E0 34 (sI x34)) 33 (sI x33)) 32 (sS x32a x32n x32c)) 6 (sR 6 0)) 4 (sR 4 0)) 0 (sP x0)) env ∧ Sub (upd (upd V0 6 (36, k6)) 4 (36, k4)) pv ∧ (F81_j3 x0 x32a x32n x32c x33 x34 k4 k6 hp  K)) ?_ ?_
    ·refine AWP.rgn (F81_r13 (upd (upd E0 6 (sR 6 0)) 4 (sR 4 0)) x0 k4 k6 h_13 _) ?_ (Ru 0 (RefOk.p 4 4 0 (RefOk.p 6 6 0 Rn (fun e => by cases e)) (fun e => by cases e))) (Sc rfl (Sc rfl (Sc rfl Sn))) (Sc rfl (Sc rfl Sn))
     refine mN h fun b_35 o_36 h => mV h fun v_37 h => mS h fun a_38 n_39 c_40 h => ?_
     exact ⟨x0, a_38, n_39, c_40, (n_39 : Nat), 0, k4, k6, (Sc rfl (Sc rfl (Sc rfl (Sc rfl (Sc rfl (Sc rfl Sn)))))), (Sc rfl (Sc rfl Sn)), h⟩
    ·rintro env pv hp ⟨x0, x32a, x32n, x32c, x33, x34, k4, k6, he, hv, h⟩
     refine AWP.sub (env' := (upd (upd (upd (upd (upd (upd E0 34 (sI x34)) 33 (sI x33)) 32 (sS x32a x32n x32c)) 6 (sR 6 0)) 4 (sR 4 0)) 0 (sP x0))) (pv' := (upd (upd V0 6 (36, k6)) 4 (36, k4))) ?_ (Ru 0 (RefOk.p 4 4 0 (RefOk.p 6 6 0 (Ru 32 (Ru 33 (Ru 34 Rn))) (fun e => by cases e)) (fun e => by cases e))) he hv (HSub.refl _)
     clear he hv
     unfold F81_j3 at h
     refine AWP.block ?_
     refine AWP.loop (σ := Int × (List Value) × (List Value)) (fun I s hp => F81_l4 x0 x32a x32n x32c x33  K I s.1 s.2.1 s.2.2 hp) (fun s => (upd (upd (upd (upd (upd (upd E0 34 (sI (s.1))) 33 (sI x33)) 32 (sS x32a x32n x32c)) 6 (sR 6 0)) 4 (sR 4 0)) 0 (sP x0))) (fun s => (upd (upd V0 6 (36, s.2.2)) 4 (36, s.2.1))) (x34, k4, k6) h (fun s => (Ru 0 (RefOk.p 4 4 0 (RefOk.p 6 6 0 (Ru 32 (Ru 33 (Ru 34 Rn))) (fun e => by cases e)) (fun e => by cases e)))) (Sc rfl (Sc rfl (Sc rfl (Sc rfl (Sc rfl (Sc rfl Sn)))))) (Sc rfl (Sc rfl Sn)) ?_
     intro I4 s hp h
     obtain ⟨x34, k4, k6⟩ := s
     replace h : F81_l4 x0 x32a x32n x32c x33  K I4 x34 k4 k6 hp := h
     unfold F81_l4 at h
     refine AWP.seq' ?_
     refine AWP.rgn (F81_r7 (upd (upd (upd (upd E0 32 (sS x32a x32n x32c)) 6 (sR 6 0)) 4 (sR 4 0)) 0 (sP x0)) x33 x34 k4 k6 hp _) ?_ (Ru 33 (Ru 34 (Ru 0 (RefOk.p 4 4 0 (RefOk.p 6 6 0 (Ru 32 Rn) (fun e => by cases e)) (fun e => by cases e))))) (Sc rfl (Sc rfl (Sc rfl (Sc rfl (Sc rfl (Sc rfl Sn)))))) (Sc rfl (Sc rfl Sn))
     refine AWP.seq' ?_
     refine AWP.cond (t := (decide (x34 < x33))) rfl (fun e => ?_) (fun e => ?_)
     ·replace h := ite2_t h e
      refine AWP.skip ?_
      refine AWP.seq' ?_
      refine AWP.block ?_
      refine AWP.seq' ?_
      refine AWP.rgn (F81_r8 (upd (upd (upd (upd E0 33 (sI x33)) 6 (sR 6 0)) 4 (sR 4 0)) 0 (sP x0)) x32a x32n x32c x34 k4 k6 hp _) ?_ (Ru 32 (Ru 34 (Ru 0 (RefOk.p 4 4 0 (RefOk.p 6 6 0 (Ru 33 Rn) (fun e => by cases e)) (fun e => by cases e))))) (Sc rfl (Sc rfl (Sc rfl (Sc rfl (Sc rfl (Sc rfl Sn)))))) (Sc rfl (Sc rfl Sn))
      refine ⟨h.1, h.2.1, mN h.2.2 fun b_23 o_24 h => mL h fun l_25 h => mf h fun h => mf h fun h => mf h fun h => ?_⟩
      refine AWP.seq' ?_
      refine AWP.seq' ?_
      refine AWP.rgn (F81_r9 (upd (upd (upd (upd (upd E0 34 (sI x34)) 33 (sI x33)) 32 (sS x32a x32n x32c)) 4 (sR 4 0)) 0 (sP x0)) k4 k6 (splice [.string ⟨#[]⟩, .string ⟨#[]⟩, .int .i64 0, .bool false, .string ⟨#[]⟩, .string ⟨#[]⟩] 0 l_25) hp _) ?_ (RefOk.p 6 6 0 (RefOk.p 8 8 0 (Ru 0 (RefOk.p 4 4 0 (Ru 32 (Ru 33 (Ru 34 Rn))) (fun e => by cases e))) (fun e => by cases e)) (fun e => by cases e)) (Sc rfl (Sc rfl (Sc rfl (Sc rfl (Sc rfl (Sc rfl (Sc rfl Sn))))))) (Sc rfl (Sc rfl (Sc rfl Sn)))
      refine mV h fun v_26 h => mI h fun i_27 h => mV h fun v_28 h => ms h fun s_29 h => ?_
      refine AWP.cond (t := (i_27 != (ByteArray.size s_29 : Nat))) rfl (fun e => ?_) (fun e => ?_)
      ·replace h := ite2_t h e
       refine AWP.seq' ?_
       refine AWP.rgn (F81_r10 E0 k4 hp _) ?_ (RefOk.p 4 4 0 Rn (fun e => by cases e)) (Sc rfl Sn) (Sc rfl Sn)
       refine mf h fun h => mf h fun h => mf h fun h => ?_
       refine AWP.ret ?_
       exact h
      ·replace h := ite2_f h e
       refine AWP.skip ?_
       refine AWP.rgn (F81_r11 (upd (upd (upd (upd (upd E0 34 (sI x34)) 33 (sI x33)) 32 (sS x32a x32n x32c)) 4 (sR 4 0)) 0 (sP x0)) k4 k6 (splice [.string ⟨#[]⟩, .string ⟨#[]⟩, .int .i64 0, .bool false, .string ⟨#[]⟩, .string ⟨#[]⟩] 0 l_25) hp _) ?_ (RefOk.p 6 6 0 (RefOk.p 8 8 0 (Ru 0 (RefOk.p 4 4 0 (Ru 32 (Ru 33 (Ru 34 Rn))) (fun e => by cases e))) (fun e => by cases e)) (fun e => by cases e)) (Sc rfl (Sc rfl (Sc rfl (Sc rfl (Sc rfl (Sc rfl (Sc rfl Sn))))))) (Sc rfl (Sc rfl (Sc rfl Sn)))
       refine mV h (fun v_31 h => ms h (fun s_32 h => mV h (fun v_33 h => ms h (fun s_34 h => ⟨h.1, mf h.2 fun h => ?_⟩))))
       refine AWP.rgn (F81_r12 (upd (upd (upd (upd (upd E0 33 (sI x33)) 32 (sS x32a x32n x32c)) 6 (sR 6 0)) 4 (sR 4 0)) 0 (sP x0)) x34 k4 (List.set k6 2 (.string (s_32 ++ s_34))) hp _) ?_ (Ru 34 (Ru 0 (RefOk.p 4 4 0 (RefOk.p 6 6 0 (Ru 32 (Ru 33 Rn)) (fun e => by cases e)) (fun e => by cases e)))) (Sc rfl (Sc rfl (Sc rfl (Sc rfl (Sc rfl (Sc rfl Sn)))))) (Sc rfl (Sc rfl Sn))
       exact ⟨((wr (x34 + 1)), k4, (List.set k6 2 (.string (s_32 ++ s_34)))), (Sc rfl (Sc rfl (Sc rfl (Sc rfl (Sc rfl (Sc rfl Sn)))))), (Sc rfl (Sc rfl Sn)), h⟩
     ·replace h := ite2_f h e
      refine AWP.exit ?_
      exact ⟨x0, k4, k6, (Sc rfl (Sc rfl (Sc rfl Sn))), (Sc rfl (Sc rfl Sn)), h⟩
   ·rintro env pv hp ⟨x0, k4, k6, he, hv, h⟩
    refine AWP.sub (env' := (upd (upd (upd E0 6 (sR 6 0)) 4 (sR 4 0)) 0 (sP x0))) (pv' := (upd (upd V0 6 (36, k6)) 4 (36, k4))) ?_ (Ru 0 (RefOk.p 4 4 0 (RefOk.p 6 6 0 Rn (fun e => by cases e)) (fun e => by cases e))) he hv (HSub.refl _)
    clear he hv
    unfold F81_j2 at h
    refine AWP.seq' ?_
    refine AWP.seq' ?_
    refine AWP.rgnD (by kernel_rfl) (by kernel_rfl) (F81_r4 (upd E0 4 (sR 4 0)) x0 k4 k6 hp _) ?_ (Ru 0 (RefOk.p 6 6 0 (RefOk.p 4 4 0 Rn (fun e => by cases e)) (fun e => by cases e))) (Sc rfl (Sc rfl (Sc rfl Sn))) (Sc rfl (Sc rfl Sn))
    refine mV h fun v_14 h => ms h fun s_15 h => mN h fun b_16 o_17 h => mV h fun v_18 h => mI h fun i_19 h => ?_
    refine AWP.cond (t := (((ByteArray.size s_15 : Nat) : Int) != i_19)) rfl (fun e => ?_) (fun e => ?_)
    ·replace h := ite2_t h e
     refine AWP.seq' ?_
     refine AWP.rgn (F81_r5 E0 k4 hp _) ?_ (RefOk.p 4 4 0 Rn (fun e => by cases e)) (Sc rfl Sn) (Sc rfl Sn)
     refine mf h fun h => mf h fun h => mf h fun h => ?_
     refine AWP.ret ?_
     exact h
    ·replace h := ite2_f h e
     refine AWP.skip ?_
     refine AWP.seq' ?_
     refine AWP.rgn (F81_r6 E0 k4 k6 hp _) ?_ (RefOk.p 4 4 0 (RefOk.p 6 6 0 Rn (fun e => by cases e)) (fun e => by cases e)) (Sc rfl (Sc rfl Sn)) (Sc rfl (Sc rfl Sn))
     refine mL h fun l_21 h => mf h fun h => mf h fun h => mf h fun h => ?_
     refine AWP.ret ?_
     exact h
end
-- 110 (*interpreter/frag.datagram).head
section
variable (e : Env) (x0 x8a : Option Addr) (x8n x8c : Nat) (x9 x10 : Int) (k4 : List Value) (hp : HP) (K : Env → PV → HP → Prop)
abbrev R110 (p : List Nat) (n : Nat) := RW Try.prog 20 [4, 14, 17] (opsAt Try.f110 p) (List.range n)
theorem F110_r0 : R110 [0] 1 e V0 hp K =
    (K (upd e 2 (sV (.string (⟨#[]⟩ : ByteArray)))) V0 hp) := by kernel_rfl
theorem F110_r1 : R110 [1, 0, 1, 0, 0, 0] 1 (upd (upd e 10 (sI x10)) 9 (sI x9)) V0 hp K =
    (K (upd (upd (upd e 10 (sI x10)) 9 (sI x9)) 11 (sB (decide (x10 < x9)))) V0 hp) := by kernel_rfl
theorem F110_r2 : R110 [1, 0, 1, 0, 0, 1, 1, 0, 0, 0] 4 (upd (upd e 10 (sI x10)) 8 (sS x8a x8n x8c)) V0 hp K =
    ((0 ≤ x10) ∧ (x10 < x8n) ∧ (ptrN x8a fun b1 o2 => (ldL (HP.cellN hp b1 (o2 + Int.toNat x10 * 6) 6) fun l3 => (if List.length l3 = 6 then (if List.all l3 one = true then (if 0 + List.length l3 ≤ List.length [(Value.string ⟨#[]⟩), .string ⟨#[]⟩, .int .i64 0, .bool false, .string ⟨#[]⟩, .string ⟨#[]⟩] then (K (upd (upd (upd (upd (upd e 10 (sI x10)) 8 (sS x8a x8n x8c)) 12 (sQ b1 (o2 + Int.toNat x10 * 6))) 13 (sA l3)) 4 (sR 4 0)) (upd (upd V0 4 (29, [.string ⟨#[]⟩, .string ⟨#[]⟩, .int .i64 0, .bool false, .string ⟨#[]⟩, .string ⟨#[]⟩])) 4 (29, (splice [.string ⟨#[]⟩, .string ⟨#[]⟩, .int .i64 0, .bool false, .string ⟨#[]⟩, .string ⟨#[]⟩] 0 l3))) hp) else False) else False) else False)))) := by kernel_rfl
theorem F110_r3 : R110 [1, 0, 1, 0, 0, 1, 1, 0, 0, 1, 0] 3 (upd e 4 (sR 4 0)) (upd V0 4 (29, k4)) hp K =
    (ldV (k4)[2]? fun v1 => (intV v1 .i64 fun i2 => (K (upd (upd (upd (upd e 4 (sR 4 0)) 14 (sR 4 2)) 15 (sI i2)) 16 (sB ((i2 == 0)))) (upd V0 4 (29, k4)) hp))) := by kernel_rfl
theorem F110_r4 : R110 [1, 0, 1, 0, 0, 1, 1, 0, 0, 1, 1, 0, 0] 3 (upd e 4 (sR 4 0)) (upd V0 4 (29, k4)) hp K =
    (ldV (k4)[5]? fun v1 => (strV v1 fun s2 => (K (upd (upd (upd (upd e 4 (sR 4 0)) 17 (sR 4 5)) 18 (sV (.string s2))) 2 (sV (.string s2))) (upd V0 4 (29, k4)) hp))) := by kernel_rfl
theorem F110_r5 : R110 [1, 0, 1, 0, 0, 1, 1, 1] 2 (upd e 10 (sI x10)) V0 hp K =
    (K (upd (upd (upd e 10 (sI x10)) 19 (sI ((wr (x10 + 1))))) 10 (sI ((wr (x10 + 1))))) V0 hp) := by kernel_rfl
theorem F110_r6 : R110 [1, 1, 0] 1 e V0 hp K =
    (K (upd e 2 (sV (.string (⟨#[]⟩ : ByteArray)))) V0 hp) := by kernel_rfl
def F110_l2 (x8a : Option Addr) (x8n : Nat) (x8c : Nat) (x9 : Int) (K : Value → HP → Prop) (I2 : (Int) → HP → Prop) (x10 : Int) (hp : HP) : Prop :=
  (ite2 (decide (x10 < x9)) ((0 ≤ x10) ∧ (x10 < x8n) ∧ (ptrN x8a fun b_1 o_2 => (ldL (HP.cellN hp b_1 (o_2 + Int.toNat x10 * 6) 6) fun l_3 => (if List.length l_3 = 6 then (if List.all l_3 one = true then (if 0 + List.length l_3 ≤ List.length [(Value.string ⟨#[]⟩), .string ⟨#[]⟩, .int .i64 0, .bool false, .string ⟨#[]⟩, .string ⟨#[]⟩] then (ldV ((splice [.string ⟨#[]⟩, .string ⟨#[]⟩, .int .i64 0, .bool false, .string ⟨#[]⟩, .string ⟨#[]⟩] 0 l_3))[2]? fun v_4 => (intV v_4 .i64 fun i_5 => (ite2 (i_5 == 0) (ldV ((splice [.string ⟨#[]⟩, .string ⟨#[]⟩, .int .i64 0, .bool false, .string ⟨#[]⟩, .string ⟨#[]⟩] 0 l_3))[5]? fun v_6 => (strV v_6 fun s_7 => (K (.string s_7) hp))) (I2 (IntKind.wrap .i64 (x10 + 1)) hp)))) else False) else False) else False)))) (K (.string (⟨#[]⟩ : ByteArray)) hp))
def F110_j1 (x8a : Option Addr) (x8n : Nat) (x8c : Nat) (x9 : Int) (x10 : Int) (hp : HP) (K : Value → HP → Prop) : Prop :=
  (LoopP (σ := Int) (fun I s hp => F110_l2 x8a x8n x8c x9  K I s hp) x10 hp)
theorem F110_r7 : R110 [1, 0, 0] 6 (upd e 0 (sP x0)) V0 hp K =
    (ptrN x0 fun b1 o2 => (ldV (HP.cell hp b1 (o2 + 3)) fun v3 => (slcV v3 fun a4 n5 c6 => (K (upd (upd (upd (upd (upd (upd (upd e 0 (sP x0)) 5 (sP x0)) 6 (sQ b1 o2)) 7 (sQ b1 (o2 + 3))) 8 (sS a4 n5 c6)) 9 (sI ((n5 : Nat)))) 10 (sI 0)) V0 hp)))) := by kernel_rfl
def F110 (x0 : Option Addr) (hp : HP) (K : Value → HP → Prop) : Prop :=
  (ptrN x0 fun b_8 o_9 => (ldV (HP.cell hp b_8 (o_9 + 3)) fun v_10 => (slcV v_10 fun a_11 n_12 c_13 => (F110_j1 a_11 n_12 c_13 (n_12 : Nat) 0 hp  K))))
noncomputable def F110_code : Code := (.seq (.region 0 (opsAt Try.f110 [0]) false) (.seq (.seq (.region 1 (opsAt Try.f110 [1, 0, 0]) false) (.block 0 (.loop (.seq (.region 2 (opsAt Try.f110 [1, 0, 1, 0, 0, 0]) false) (.seq (.cond (.tmp 11) .skip (.exit 0)) (.seq (.block 1 (.seq (.region 3 (opsAt Try.f110 [1, 0, 1, 0, 0, 1, 1, 0, 0, 0]) false) (.seq (.region 4 (opsAt Try.f110 [1, 0, 1, 0, 0, 1, 1, 0, 0, 1, 0]) false) (.cond (.tmp 16) (.seq (.region 5 (opsAt Try.f110 [1, 0, 1, 0, 0, 1, 1, 0, 0, 1, 1, 0, 0]) false) .ret) .skip)))) (.region 6 (opsAt Try.f110 [1, 0, 1, 0, 0, 1, 1, 1]) false))))))) (.seq (.region 7 (opsAt Try.f110 [1, 1, 0]) false) .ret)))
theorem F110_body : Try.f110.body = some F110_code := by kernel_rfl
theorem F110_ok (x0 : Option Addr) (hp : HP) (K : Value → HP → Prop) (h : F110 x0 hp K) : CF Try.prog 110 [(.pointer x0)] hp K := by
 refine .inl ⟨by kernel_rfl, AC.intro (N := 20) Try.func110 F110_body rfl (Nat.le_of_ble_eq_true rfl) ?_⟩
 unfold F110 at h
 unfold F110_code
 refine AWP.seq' ?_
 refine AWP.rgn (F110_r0 (upd E0 0 (sP x0))  hp _) ?_ (Ru 0 Rn) (Sc rfl Sn) Sn
 refine AWP.seq' ?_
 refine AWP.seq (fun env pv hp => ∃ (x8a : Option Addr) (x8n : Nat) (x8c : Nat) (x9 : Int) (x10 : Int), Sub (upd (upd (upd E0 10 (sI x10)) 9 (sI x9)) 8 (sS x8a x8n x8c)) env ∧ Sub V0 pv ∧ (F110_j1 x8a x8n x8c x9 x10 hp  K)) ?_ ?_
 ·refine AWP.rgn (F110_r7 E0 x0 hp _) ?_ (Ru 0 Rn) (Sc rfl Sn) Sn
  refine mN h fun b_8 o_9 h => mV h fun v_10 h => mS h fun a_11 n_12 c_13 h => ?_
  exact ⟨a_11, n_12, c_13, (n_12 : Nat), 0, (Sc rfl (Sc rfl (Sc rfl Sn))), Sn, h⟩
 ·rintro env pv hp ⟨x8a, x8n, x8c, x9, x10, he, hv, h⟩
  refine AWP.sub (env' := (upd (upd (upd E0 10 (sI x10)) 9 (sI x9)) 8 (sS x8a x8n x8c))) (pv' := V0) ?_ (Ru 8 (Ru 9 (Ru 10 Rn))) he hv (HSub.refl _)
  clear he hv
  unfold F110_j1 at h
  refine AWP.block ?_
  refine AWP.loop (σ := Int) (fun I s hp => F110_l2 x8a x8n x8c x9  K I s hp) (fun s => (upd (upd (upd E0 10 (sI s)) 9 (sI x9)) 8 (sS x8a x8n x8c))) (fun s => V0) x10 h (fun s => (Ru 8 (Ru 9 (Ru 10 Rn)))) (Sc rfl (Sc rfl (Sc rfl Sn))) Sn ?_
  intro I2 s hp h
  obtain ⟨x10, hs⟩ : ∃ x, x = s := ⟨s, rfl⟩
  subst hs
  replace h : F110_l2 x8a x8n x8c x9  K I2 x10 hp := h
  unfold F110_l2 at h
  refine AWP.seq' ?_
  refine AWP.rgn (F110_r1 (upd E0 8 (sS x8a x8n x8c)) x9 x10 hp _) ?_ (Ru 9 (Ru 10 (Ru 8 Rn))) (Sc rfl (Sc rfl (Sc rfl Sn))) Sn
  refine AWP.seq' ?_
  refine AWP.cond (t := (decide (x10 < x9))) rfl (fun e => ?_) (fun e => ?_)
  ·replace h := ite2_t h e
   refine AWP.skip ?_
   refine AWP.seq' ?_
   refine AWP.block ?_
   refine AWP.seq' ?_
   refine AWP.rgn (F110_r2 (upd E0 9 (sI x9)) x8a x8n x8c x10 hp _) ?_ (Ru 8 (Ru 10 (Ru 9 Rn))) (Sc rfl (Sc rfl (Sc rfl Sn))) Sn
   refine ⟨h.1, h.2.1, mN h.2.2 fun b_1 o_2 h => mL h fun l_3 h => mf h fun h => mf h fun h => mf h fun h => ?_⟩
   refine AWP.seq' ?_
   refine AWP.rgn (F110_r3 (upd (upd (upd E0 10 (sI x10)) 9 (sI x9)) 8 (sS x8a x8n x8c)) (splice [.string ⟨#[]⟩, .string ⟨#[]⟩, .int .i64 0, .bool false, .string ⟨#[]⟩, .string ⟨#[]⟩] 0 l_3) hp _) ?_ (RefOk.p 4 4 0 (Ru 8 (Ru 9 (Ru 10 Rn))) (fun e => by cases e)) (Sc rfl (Sc rfl (Sc rfl (Sc rfl Sn)))) (Sc rfl Sn)
   refine mV h fun v_4 h => mI h fun i_5 h => ?_
   refine AWP.cond (t := (i_5 == 0)) rfl (fun e => ?_) (fun e => ?_)
   ·replace h := ite2_t h e
    refine AWP.seq' ?_
    refine AWP.rgn (F110_r4 E0 (splice [.string ⟨#[]⟩, .string ⟨#[]⟩, .int .i64 0, .bool false, .string ⟨#[]⟩, .string ⟨#[]⟩] 0 l_3) hp _) ?_ (RefOk.p 4 4 0 Rn (fun e => by cases e)) (Sc rfl Sn) (Sc rfl Sn)
    refine mV h fun v_6 h => ms h fun s_7 h => ?_
    refine AWP.ret ?_
    exact h
   ·replace h := ite2_f h e
    refine AWP.skip ?_
    refine AWP.rgn (F110_r5 (upd (upd E0 9 (sI x9)) 8 (sS x8a x8n x8c)) x10 hp _) ?_ (Ru 10 (Ru 8 (Ru 9 Rn))) (Sc rfl (Sc rfl (Sc rfl Sn))) Sn
    exact ⟨(wr (x10 + 1)), (Sc rfl (Sc rfl (Sc rfl Sn))), Sn, h⟩
  ·replace h := ite2_f h e
   refine AWP.exit ?_
   refine AWP.seq' ?_
   refine AWP.rgn (F110_r6 E0  hp _) ?_ Rn Sn Sn
   refine AWP.ret ?_
   exact h
end
-- 121 slices.IndexFunc[[]interpreter/frag.Piece,interpreter/frag.Piece]
section
variable (e : Env) (x0a : Option Addr) (x0n x0c : Nat) (x1 : Value) (x5 x7 x8 : Int) (hp : HP) (K : Env → PV → HP → Prop)
abbrev R121 (p : List Nat) (n : Nat) := RW Try.prog 19 [] (opsAt Try.f121 p) (List.range n)
theorem F121_r0 : R121 [0] 1 e V0 hp K =
    (K (upd e 4 (sI 0)) V0 hp) := by kernel_rfl
theorem F121_r1 : R121 [1, 0, 1, 0, 0, 0] 1 (upd (upd e 8 (sI x8)) 7 (sI x7)) V0 hp K =
    (K (upd (upd (upd e 8 (sI x8)) 7 (sI x7)) 9 (sB (decide (x8 < x7)))) V0 hp) := by kernel_rfl
theorem F121_r2 : R121 [1, 0, 1, 0, 0, 1, 1, 0, 0, 0] 2 (upd e 8 (sI x8)) V0 hp K =
    (K (upd (upd (upd e 8 (sI x8)) 10 (sI x8)) 5 (sI x8)) V0 hp) := by kernel_rfl
theorem F121_r3 : R121 [1, 0, 1, 0, 0, 1, 1, 0, 0, 1, 0] 6 (upd (upd (upd e 5 (sI x5)) 1 (sV x1)) 0 (sS x0a x0n x0c)) V0 hp K =
    ((0 ≤ x5) ∧ (x5 < x0n) ∧ (ptrN x0a fun b1 o2 => (ldL (HP.cellN hp b1 (o2 + Int.toNat x5 * 6) 6) fun l3 => (fnV x1 fun f4 ga5 gb6 => (CF Try.prog f4 (ga5 ++ [(Value.agg ⟨l3⟩)] ++ gb6) hp fun u7 h8 => (boolV u7 fun q9 => (K (upd (upd (upd (upd (upd (upd (upd (upd (upd e 5 (sI x5)) 1 (sV x1)) 0 (sS x0a x0n x0c)) 11 (sV x1)) 12 (sS x0a x0n x0c)) 13 (sI x5)) 14 (sQ b1 (o2 + Int.toNat x5 * 6))) 15 (sA l3)) 16 (sB q9)) V0 h8))))))) := by kernel_rfl
theorem F121_r4 : R121 [1, 0, 1, 0, 0, 1, 1, 0, 0, 1, 1, 0, 0] 2 (upd e 5 (sI x5)) V0 hp K =
    (K (upd (upd (upd e 5 (sI x5)) 17 (sI x5)) 4 (sI x5)) V0 hp) := by kernel_rfl
theorem F121_r5 : R121 [1, 0, 1, 0, 0, 1, 1, 1] 2 (upd e 8 (sI x8)) V0 hp K =
    (K (upd (upd (upd e 8 (sI x8)) 18 (sI ((wr (x8 + 1))))) 8 (sI ((wr (x8 + 1))))) V0 hp) := by kernel_rfl
theorem F121_r6 : R121 [1, 1, 0] 1 e V0 hp K =
    (K (upd e 4 (sI ((-1)))) V0 hp) := by kernel_rfl
def F121_l2 (x0a : Option Addr) (x0n : Nat) (x0c : Nat) (x1 : Value) (x7 : Int) (K : Value → HP → Prop) (I2 : (Int) → HP → Prop) (x8 : Int) (hp : HP) : Prop :=
  (ite2 (decide (x8 < x7)) ((0 ≤ x8) ∧ (x8 < x0n) ∧ (ptrN x0a fun b_1 o_2 => (ldL (HP.cellN hp b_1 (o_2 + Int.toNat x8 * 6) 6) fun l_3 => (fnV x1 fun f_4 ga_5 gb_6 => (CF Try.prog f_4 (ga_5 ++ [(Value.agg ⟨l_3⟩)] ++ gb_6) hp fun u_7 h_8 => (boolV u_7 fun q_9 => (ite2 q_9 (K (.int .i64 x8) h_8) (I2 (IntKind.wrap .i64 (x8 + 1)) h_8)))))))) (K (.int .i64 (-1)) hp))
def F121_j1 (x0a : Option Addr) (x0n : Nat) (x0c : Nat) (x1 : Value) (x7 : Int) (x8 : Int) (hp : HP) (K : Value → HP → Prop) : Prop :=
  (LoopP (σ := Int) (fun I s hp => F121_l2 x0a x0n x0c x1 x7  K I s hp) x8 hp)
theorem F121_r7 : R121 [1, 0, 0] 3 (upd e 0 (sS x0a x0n x0c)) V0 hp K =
    (K (upd (upd (upd (upd e 0 (sS x0a x0n x0c)) 6 (sS x0a x0n x0c)) 7 (sI ((x0n : Nat)))) 8 (sI 0)) V0 hp) := by kernel_rfl
def F121 (x0a : Option Addr) (x0n : Nat) (x0c : Nat) (x1 : Value) (hp : HP) (K : Value → HP → Prop) : Prop :=
  (F121_j1 x0a x0n x0c x1 (x0n : Nat) 0 hp  K)
noncomputable def F121_code : Code := (.seq (.region 0 (opsAt Try.f121 [0]) false) (.seq (.seq (.region 1 (opsAt Try.f121 [1, 0, 0]) false) (.block 0 (.loop (.seq (.region 2 (opsAt Try.f121 [1, 0, 1, 0, 0, 0]) false) (.seq (.cond (.tmp 9) .skip (.exit 0)) (.seq (.block 1 (.seq (.region 3 (opsAt Try.f121 [1, 0, 1, 0, 0, 1, 1, 0, 0, 0]) false) (.seq (.region 4 (opsAt Try.f121 [1, 0, 1, 0, 0, 1, 1, 0, 0, 1, 0]) false) (.cond (.tmp 16) (.seq (.region 5 (opsAt Try.f121 [1, 0, 1, 0, 0, 1, 1, 0, 0, 1, 1, 0, 0]) false) .ret) .skip)))) (.region 6 (opsAt Try.f121 [1, 0, 1, 0, 0, 1, 1, 1]) false))))))) (.seq (.region 7 (opsAt Try.f121 [1, 1, 0]) false) .ret)))
theorem F121_body : Try.f121.body = some F121_code := by kernel_rfl
theorem F121_ok (x0a : Option Addr) (x0n : Nat) (x0c : Nat) (x1 : Value) (hp : HP) (K : Value → HP → Prop) (h : F121 x0a x0n x0c x1 hp K) : CF Try.prog 121 [(.slice x0a x0n x0c), x1] hp K := by
 refine .inl ⟨by kernel_rfl, AC.intro (N := 19) Try.func121 F121_body rfl (Nat.le_of_ble_eq_true rfl) ?_⟩
 unfold F121 at h
 unfold F121_code
 refine AWP.seq' ?_
 refine AWP.rgn (F121_r0 (upd (upd E0 1 (sV x1)) 0 (sS x0a x0n x0c))  hp _) ?_ (Ru 0 (Ru 1 Rn)) (Sc rfl (Sc rfl Sn)) Sn
 refine AWP.seq' ?_
 refine AWP.seq (fun env pv hp => ∃ (x0a : Option Addr) (x0n : Nat) (x0c : Nat) (x1 : Value) (x7 : Int) (x8 : Int), Sub (upd (upd (upd (upd E0 8 (sI x8)) 7 (sI x7)) 1 (sV x1)) 0 (sS x0a x0n x0c)) env ∧ Sub V0 pv ∧ (F121_j1 x0a x0n x0c x1 x7 x8 hp  K)) ?_ ?_
 ·refine AWP.rgn (F121_r7 (upd E0 1 (sV x1)) x0a x0n x0c hp _) ?_ (Ru 0 (Ru 1 Rn)) (Sc rfl (Sc rfl Sn)) Sn
  exact ⟨x0a, x0n, x0c, x1, (x0n : Nat), 0, (Sc rfl (Sc rfl (Sc rfl (Sc rfl Sn)))), Sn, h⟩
 ·rintro env pv hp ⟨x0a, x0n, x0c, x1, x7, x8, he, hv, h⟩
  refine AWP.sub (env' := (upd (upd (upd (upd E0 8 (sI x8)) 7 (sI x7)) 1 (sV x1)) 0 (sS x0a x0n x0c))) (pv' := V0) ?_ (Ru 0 (Ru 1 (Ru 7 (Ru 8 Rn)))) he hv (HSub.refl _)
  clear he hv
  unfold F121_j1 at h
  refine AWP.block ?_
  refine AWP.loop (σ := Int) (fun I s hp => F121_l2 x0a x0n x0c x1 x7  K I s hp) (fun s => (upd (upd (upd (upd E0 8 (sI s)) 7 (sI x7)) 1 (sV x1)) 0 (sS x0a x0n x0c))) (fun s => V0) x8 h (fun s => (Ru 0 (Ru 1 (Ru 7 (Ru 8 Rn))))) (Sc rfl (Sc rfl (Sc rfl (Sc rfl Sn)))) Sn ?_
  intro I2 s hp h
  obtain ⟨x8, hs⟩ : ∃ x, x = s := ⟨s, rfl⟩
  subst hs
  replace h : F121_l2 x0a x0n x0c x1 x7  K I2 x8 hp := h
  unfold F121_l2 at h
  refine AWP.seq' ?_
  refine AWP.rgn (F121_r1 (upd (upd E0 1 (sV x1)) 0 (sS x0a x0n x0c)) x7 x8 hp _) ?_ (Ru 7 (Ru 8 (Ru 0 (Ru 1 Rn)))) (Sc rfl (Sc rfl (Sc rfl (Sc rfl Sn)))) Sn
  refine AWP.seq' ?_
  refine AWP.cond (t := (decide (x8 < x7))) rfl (fun e => ?_) (fun e => ?_)
  ·replace h := ite2_t h e
   refine AWP.skip ?_
   refine AWP.seq' ?_
   refine AWP.block ?_
   refine AWP.seq' ?_
   refine AWP.rgn (F121_r2 (upd (upd (upd E0 7 (sI x7)) 1 (sV x1)) 0 (sS x0a x0n x0c)) x8 hp _) ?_ (Ru 8 (Ru 0 (Ru 1 (Ru 7 Rn)))) (Sc rfl (Sc rfl (Sc rfl (Sc rfl Sn)))) Sn
   refine AWP.seq' ?_
   refine AWP.rgn (F121_r3 (upd (upd E0 8 (sI x8)) 7 (sI x7)) x0a x0n x0c x1 x8 hp _) ?_ (Ru 0 (Ru 1 (Ru 5 (Ru 7 (Ru 8 Rn))))) (Sc rfl (Sc rfl (Sc rfl (Sc rfl (Sc rfl Sn))))) Sn
   refine ⟨h.1, h.2.1, mN h.2.2 fun b_1 o_2 h => mL h fun l_3 h => mF h fun f_4 ga_5 gb_6 h => mC h fun u_7 h_8 h => mB h fun q_9 h => ?_⟩
   refine AWP.cond (t := q_9) rfl (fun e => ?_) (fun e => ?_)
   ·replace h := ite2_t h e
    refine AWP.seq' ?_
    refine AWP.rgn (F121_r4 E0 x8 h_8 _) ?_ (Ru 5 Rn) (Sc rfl Sn) Sn
    refine AWP.ret ?_
    exact h
   ·replace h := ite2_f h e
    refine AWP.skip ?_
    refine AWP.rgn (F121_r5 (upd (upd (upd E0 7 (sI x7)) 1 (sV x1)) 0 (sS x0a x0n x0c)) x8 h_8 _) ?_ (Ru 8 (Ru 0 (Ru 1 (Ru 7 Rn)))) (Sc rfl (Sc rfl (Sc rfl (Sc rfl Sn)))) Sn
    exact ⟨(wr (x8 + 1)), (Sc rfl (Sc rfl (Sc rfl (Sc rfl Sn)))), Sn, h⟩
  ·replace h := ite2_f h e
   refine AWP.exit ?_
   refine AWP.seq' ?_
   refine AWP.rgn (F121_r6 E0  hp _) ?_ Rn Sn Sn
   refine AWP.ret ?_
   exact h
end
-- 122 (interpreter/frag.Piece).to
section
variable (e : Env) (x0 k1 : List Value) (hp : HP) (K : Env → PV → HP → Prop)
abbrev R122 (p : List Nat) (n : Nat) := RW Try.prog 9 [1, 3, 5] (opsAt Try.f122 p) (List.range n)
theorem F122_r0 : R122 [0] 2 (upd e 0 (sA x0)) V0 hp K =
    (K (upd (upd (upd e 0 (sA x0)) 1 (sR 1 0)) 2 (sI 0)) (upd V0 1 (29, x0)) hp) := by kernel_rfl
theorem F122_r1 : R122 [1, 0] 7 (upd e 1 (sR 1 0)) (upd V0 1 (29, k1)) hp K =
    (ldV (k1)[2]? fun v1 => (intV v1 .i64 fun i2 => (ldV (k1)[4]? fun v3 => (strV v3 fun s4 => (K (upd (upd (upd (upd (upd (upd (upd (upd e 1 (sR 1 0)) 3 (sR 1 2)) 4 (sI i2)) 5 (sR 1 4)) 6 (sV (.string s4))) 7 (sI ((ByteArray.size s4 : Nat)))) 8 (sI ((wr (i2 + (ByteArray.size s4 : Nat)))))) 2 (sI ((wr (i2 + (ByteArray.size s4 : Nat)))))) (upd V0 1 (29, k1)) hp))))) := by kernel_rfl
def F122 (x0 : List Value) (hp : HP) (K : Value → HP → Prop) : Prop :=
  (ldV (x0)[2]? fun v_1 => (intV v_1 .i64 fun i_2 => (ldV (x0)[4]? fun v_3 => (strV v_3 fun s_4 => (K (.int .i64 (IntKind.wrap .i64 (i_2 + (ByteArray.size s_4 : Nat)))) hp)))))
noncomputable def F122_code : Code := (.seq (.region 0 (opsAt Try.f122 [0]) false) (.seq (.region 1 (opsAt Try.f122 [1, 0]) false) .ret))
theorem F122_body : Try.f122.body = some F122_code := by kernel_rfl
theorem F122_ok (x0 : List Value) (hp : HP) (K : Value → HP → Prop) (h : F122 x0 hp K) : CF Try.prog 122 [(.agg ⟨x0⟩)] hp K := by
 refine .inl ⟨by kernel_rfl, AC.intro (N := 9) Try.func122 F122_body rfl (Nat.le_of_ble_eq_true rfl) ?_⟩
 unfold F122 at h
 unfold F122_code
 refine AWP.seq' ?_
 refine AWP.rgn (F122_r0 E0 x0 hp _) ?_ (Ru 0 Rn) (Sc rfl Sn) Sn
 refine AWP.seq' ?_
 refine AWP.rgn (F122_r1 E0 x0 hp _) ?_ (RefOk.p 1 1 0 Rn (fun e => by cases e)) (Sc rfl Sn) (Sc rfl Sn)
 refine mV h fun v_1 h => mI h fun i_2 h => mV h fun v_3 h => ms h fun s_4 h => ?_
 refine AWP.ret ?_
 exact h
end
-- 123 (*interpreter/frag.datagram).fits$1
section
variable (e : Env) (x0 : List Value) (hp : HP) (K : Env → PV → HP → Prop)
abbrev R123 (p : List Nat) (n : Nat) := RW Try.prog 28 [2, 10] (opsAt Try.f123 p) (List.range n)
theorem F123_r0 : R123 [0] 2 (upd e 0 (sA x0)) V0 hp K =
    (K (upd (upd (upd e 0 (sA x0)) 2 (sR 2 0)) 3 (sB false)) (upd V0 2 (29, x0)) hp) := by kernel_rfl
theorem F123_r1 (e : Env) (x1 : Option Addr) (k2 : List Value) (hp : HP) (K : Env → PV → HP → Prop) : RW Try.prog 28 [2, 10] (opsAt Try.f123 [1, 0]) [0, 1, 2, 3, 4, 5, 6, 7, 8, 9, 10, 11, 12, 13, 14, 15, 16, 17, 18, 19, 20, 21, 22, 23, 24] (upd (upd e 2 (sR 2 0)) 1 (sP x1)) (upd V0 2 (29, k2)) hp K =
    (ptrN x1 fun b1 o2 => (ldV (HP.cell hp b1 (o2 + 2)) fun v3 => (intV v3 .i64 fun i4 => (ldL (cellsN k2 0 6) fun l5 => (CF Try.prog 122 [(.agg ⟨l5⟩)] hp fun u6 h7 => (intV u6 .i64 fun i8 => (ite2 (decide (i4 < i8)) (ldV (k2)[2]? fun v9 => (intV v9 .i64 fun i10 => (ptrN x1 fun b11 o12 => (ldL (HP.cellN h7 b11 o12 6) fun l13 => (CF Try.prog 122 [(.agg ⟨l13⟩)] h7 fun u14 h15 => (intV u14 .i64 fun i16 => (ite2 (decide (i10 < i16)) (K (upd (upd (upd (upd (upd (upd (upd (upd (upd (upd (upd (upd (upd (upd (upd (upd (upd (upd (upd (upd (upd (upd (upd (upd (upd (upd (upd e 2 (sR 2 0)) 1 (sP x1)) 4 (sQ b1 (o2 + 2))) 5 (sI i4)) 6 (sA l5)) 7 (sI i8)) 8 (sB (decide (i4 < i8)))) 9 (sB true)) 10 (sR 2 2)) 11 (sI i10)) 12 (sA l13)) 13 (sI i16)) 14 (sB (decide (i10 < i16)))) 15 (sB (decide (i10 < i16)))) 16 (sB true)) 17 sU) 18 sU) 19 sU) 20 sU) 21 sU) 22 sU) 23 sU) 24 sU) 25 sU) 26 sU) 27 (sB true)) 3 (sB true)) (upd V0 2 (29, k2)) h15) (ptrN x1 fun b17 o18 => (ldV (HP.cell h15 b17 (o18 + 3)) fun v19 => (boolV v19 fun q20 => (ite2 (!q20) (ldL (cellsN k2 0 6) fun l21 => (CF Try.prog 122 [(.agg ⟨l21⟩)] h15 fun u22 h23 => (intV u22 .i64 fun i24 => (ptrN x1 fun b25 o26 => (ldL (HP.cellN h23 b25 o26 6) fun l27 => (CF Try.prog 122 [(.agg ⟨l27⟩)] h23 fun u28 h29 => (intV u28 .i64 fun i30 => (K (upd (upd (upd (upd (upd (upd (upd (upd (upd (upd (upd (upd (upd (upd (upd (upd (upd (upd (upd (upd (upd (upd (upd (upd (upd (upd (upd e 2 (sR 2 0)) 1 (sP x1)) 4 (sQ b1 (o2 + 2))) 5 (sI i4)) 6 (sA l5)) 7 (sI i8)) 8 (sB (decide (i4 < i8)))) 9 (sB true)) 10 (sR 2 2)) 11 (sI i10)) 12 (sA l13)) 13 (sI i16)) 14 (sB (decide (i10 < i16)))) 15 (sB (decide (i10 < i16)))) 16 (sB false)) 17 (sQ b17 (o18 + 3))) 18 (sB q20)) 19 (sB ((!q20)))) 20 (sB true)) 21 (sA l21)) 22 (sI i24)) 23 (sA l27)) 24 (sI i30)) 25 (sB (decide (i24 > i30)))) 26 (sB (decide (i24 > i30)))) 27 (sB (decide (i24 > i30)))) 3 (sB (decide (i24 > i30)))) (upd V0 2 (29, k2)) h29)))))))) (K (upd (upd (upd (upd (upd (upd (upd (upd (upd (upd (upd (upd (upd (upd (upd (upd (upd (upd (upd (upd (upd (upd (upd (upd (upd (upd (upd e 2 (sR 2 0)) 1 (sP x1)) 4 (sQ b1 (o2 + 2))) 5 (sI i4)) 6 (sA l5)) 7 (sI i8)) 8 (sB (decide (i4 < i8)))) 9 (sB true)) 10 (sR 2 2)) 11 (sI i10)) 12 (sA l13)) 13 (sI i16)) 14 (sB (decide (i10 < i16)))) 15 (sB (decide (i10 < i16)))) 16 (sB false)) 17 (sQ b17 (o18 + 3))) 18 (sB q20)) 19 (sB ((!q20)))) 20 (sB false)) 21 sU) 22 sU) 23 sU) 24 sU) 25 sU) 26 (sB false)) 27 (sB false)) 3 (sB false)) (upd V0 2 (29, k2)) h15)))))))))))) (ptrN x1 fun b31 o32 => (ldV (HP.cell h7 b31 (o32 + 3)) fun v33 => (boolV v33 fun q34 => (ite2 (!q34) (ldL (cellsN k2 0 6) fun l35 => (CF Try.prog 122 [(.agg ⟨l35⟩)] h7 fun u36 h37 => (intV u36 .i64 fun i38 => (ptrN x1 fun b39 o40 => (ldL (HP.cellN h37 b39 o40 6) fun l41 => (CF Try.prog 122 [(.agg ⟨l41⟩)] h37 fun u42 h43 => (intV u42 .i64 fun i44 => (K (upd (upd (upd (upd (upd (upd (upd (upd (upd (upd (upd (upd (upd (upd (upd (upd (upd (upd (upd (upd (upd (upd (upd (upd (upd (upd (upd e 2 (sR 2 0)) 1 (sP x1)) 4 (sQ b1 (o2 + 2))) 5 (sI i4)) 6 (sA l5)) 7 (sI i8)) 8 (sB (decide (i4 < i8)))) 9 (sB false)) 10 sU) 11 sU) 12 sU) 13 sU) 14 sU) 15 (sB false)) 16 (sB false)) 17 (sQ b31 (o32 + 3))) 18 (sB q34)) 19 (sB ((!q34)))) 20 (sB true)) 21 (sA l35)) 22 (sI i38)) 23 (sA l41)) 24 (sI i44)) 25 (sB (decide (i38 > i44)))) 26 (sB (decide (i38 > i44)))) 27 (sB (decide (i38 > i44)))) 3 (sB (decide (i38 > i44)))) (upd V0 2 (29, k2)) h43)))))))) (K (upd (upd (upd (upd (upd (upd (upd (upd (upd (upd (upd (upd (upd (upd (upd (upd (upd (upd (upd (upd (upd (upd (upd (upd (upd (upd (upd e 2 (sR 2 0)) 1 (sP x1)) 4 (sQ b1 (o2 + 2))) 5 (sI i4)) 6 (sA l5)) 7 (sI i8)) 8 (sB (decide (i4 < i8)))) 9 (sB false)) 10 sU) 11 sU) 12 sU) 13 sU) 14 sU) 15 (sB false)) 16 (sB false)) 17 (sQ b31 (o32 + 3))) 18 (sB q34)) 19 (sB ((!q34)))) 20 (sB false)) 21 sU) 22 sU) 23 sU) 24 sU) 25 sU) 26 (sB false)) 27 (sB false)) 3 (sB false)) (upd V0 2 (29, k2)) h7)))))))))))) := by kernel_rfl
theorem F123_r2 (e : Env) (x1 : Option Addr) (k2 : List Value) (hp : HP) (K : Env → PV → HP → Prop) : RW Try.prog 28 [2, 10] (opsAt Try.f123 [1, 0]) [0, 1, 2, 3, 4, 5, 6, 7, 8, 9, 10, 11, 12, 13, 14, 15, 16, 17, 19, 18, 20, 21, 22, 23, 24] (upd (upd e 2 (sR 2 0)) 1 (sP x1)) (upd V0 2 (29, k2)) hp K =
    (ptrN x1 fun b1 o2 => (ldV (HP.cell hp b1 (o2 + 2)) fun v3 => (intV v3 .i64 fun i4 => (ldL (cellsN k2 0 6) fun l5 => (CF Try.prog 122 [(.agg ⟨l5⟩)] hp fun u6 h7 => (intV u6 .i64 fun i8 => (ite2 (decide (i4 < i8)) (ldV (k2)[2]? fun v9 => (intV v9 .i64 fun i10 => (ptrN x1 fun b11 o12 => (ldL (HP.cellN h7 b11 o12 6) fun l13 => (CF Try.prog 122 [(.agg ⟨l13⟩)] h7 fun u14 h15 => (intV u14 .i64 fun i16 => (ite2 (decide (i10 < i16)) (K (upd (upd (upd (upd (upd (upd (upd (upd (upd (upd (upd (upd (upd (upd (upd (upd (upd (upd (upd (upd (upd (upd (upd (upd (upd (upd (upd e 2 (sR 2 0)) 1 (sP x1)) 4 (sQ b1 (o2 + 2))) 5 (sI i4)) 6 (sA l5)) 7 (sI i8)) 8 (sB (decide (i4 < i8)))) 9 (sB true)) 10 (sR 2 2)) 11 (sI i10)) 12 (sA l13)) 13 (sI i16)) 14 (sB (decide (i10 < i16)))) 15 (sB (decide (i10 < i16)))) 16 (sB true)) 17 sU) 18 sU) 19 sU) 20 sU) 21 sU) 23 sU) 22 sU) 24 sU) 25 sU) 26 sU) 27 (sB true)) 3 (sB true)) (upd V0 2 (29, k2)) h15) (ptrN x1 fun b17 o18 => (ldV (HP.cell h15 b17 (o18 + 3)) fun v19 => (boolV v19 fun q20 => (ite2 (!q20) (ldL (cellsN k2 0 6) fun l21 => (ptrN x1 fun b22 o23 => (ldL (HP.cellN h15 b22 o23 6) fun l24 => (CF Try.prog 122 [(.agg ⟨l21⟩)] h15 fun u25 h26 => (intV u25 .i64 fun i27 => (CF Try.prog 122 [(.agg ⟨l24⟩)] h26 fun u28 h29 => (intV u28 .i64 fun i30 => (K (upd (upd (upd (upd (upd (upd (upd (upd (upd (upd (upd (upd (upd (upd (upd (upd (upd (upd (upd (upd (upd (upd (upd (upd (upd (upd (upd e 2 (sR 2 0)) 1 (sP x1)) 4 (sQ b1 (o2 + 2))) 5 (sI i4)) 6 (sA l5)) 7 (sI i8)) 8 (sB (decide (i4 < i8)))) 9 (sB true)) 10 (sR 2 2)) 11 (sI i10)) 12 (sA l13)) 13 (sI i16)) 14 (sB (decide (i10 < i16)))) 15 (sB (decide (i10 < i16)))) 16 (sB false)) 17 (sQ b17 (o18 + 3))) 18 (sB q20)) 19 (sB ((!q20)))) 20 (sB true)) 21 (sA l21)) 23 (sA l24)) 22 (sI i27)) 24 (sI i30)) 25 (sB (decide (i27 > i30)))) 26 (sB (decide (i27 > i30)))) 27 (sB (decide (i27 > i30)))) 3 (sB (decide (i27 > i30)))) (upd V0 2 (29, k2)) h29)))))))) (K (upd (upd (upd (upd (upd (upd (upd (upd (upd (upd (upd (upd (upd (upd (upd (upd (upd (upd (upd (upd (upd (upd (upd (upd (upd (upd (upd e 2 (sR 2 0)) 1 (sP x1)) 4 (sQ b1 (o2 + 2))) 5 (sI i4)) 6 (sA l5)) 7 (sI i8)) 8 (sB (decide (i4 < i8)))) 9 (sB true)) 10 (sR 2 2)) 11 (sI i10)) 12 (sA l13)) 13 (sI i16)) 14 (sB (decide (i10 < i16)))) 15 (sB (decide (i10 < i16)))) 16 (sB false)) 17 (sQ b17 (o18 + 3))) 18 (sB q20)) 19 (sB ((!q20)))) 20 (sB false)) 21 sU) 23 sU) 22 sU) 24 sU) 25 sU) 26 (sB false)) 27 (sB false)) 3 (sB false)) (upd V0 2 (29, k2)) h15)))))))))))) (ptrN x1 fun b31 o32 => (ldV (HP.cell h7 b31 (o32 + 3)) fun v33 => (boolV v33 fun q34 => (ite2 (!q34) (ldL (cellsN k2 0 6) fun l35 => (ptrN x1 fun b36 o37 => (ldL (HP.cellN h7 b36 o37 6) fun l38 => (CF Try.prog 122 [(.agg ⟨l35⟩)] h7 fun u39 h40 => (intV u39 .i64 fun i41 => (CF Try.prog 122 [(.agg ⟨l38⟩)] h40 fun u42 h43 => (intV u42 .i64 fun i44 => (K (upd (upd (upd (upd (upd (upd (upd (upd (upd (upd (upd (upd (upd (upd (upd (upd (upd (upd (upd (upd (upd (upd (upd (upd (upd (upd (upd e 2 (sR 2 0)) 1 (sP x1)) 4 (sQ b1 (o2 + 2))) 5 (sI i4)) 6 (sA l5)) 7 (sI i8)) 8 (sB (decide (i4 < i8)))) 9 (sB false)) 10 sU) 11 sU) 12 sU) 13 sU) 14 sU) 15 (sB false)) 16 (sB false)) 17 (sQ b31 (o32 + 3))) 18 (sB q34)) 19 (sB ((!q34)))) 20 (sB true)) 21 (sA l35)) 23 (sA l38)) 22 (sI i41)) 24 (sI i44)) 25 (sB (decide (i41 > i44)))) 26 (sB (decide (i41 > i44)))) 27 (sB (decide (i41 > i44)))) 3 (sB (decide (i41 > i44)))) (upd V0 2 (29, k2)) h43)))))))) (K (upd (upd (upd (upd (upd (upd (upd (upd (upd (upd (upd (upd (upd (upd (upd (upd (upd (upd (upd (upd (upd (upd (upd (upd (upd (upd (upd e 2 (sR 2 0)) 1 (sP x1)) 4 (sQ b1 (o2 + 2))) 5 (sI i4)) 6 (sA l5)) 7 (sI i8)) 8 (sB (decide (i4 < i8)))) 9 (sB false)) 10 sU) 11 sU) 12 sU) 13 sU) 14 sU) 15 (sB false)) 16 (sB false)) 17 (sQ b31 (o32 + 3))) 18 (sB q34)) 19 (sB ((!q34)))) 20 (sB false)) 21 sU) 23 sU) 22 sU) 24 sU) 25 sU) 26 (sB false)) 27 (sB false)) 3 (sB false)) (upd V0 2 (29, k2)) h7)))))))))))) := by kernel_rfl
theorem F123_r3 (e : Env) (x1 : Option Addr) (k2 : List Value) (hp : HP) (K : Env → PV → HP → Prop) : RW Try.prog 28 [2, 10] (opsAt Try.f123 [1, 0]) [0, 2, 3, 1, 4, 5, 6, 7, 8, 9, 10, 11, 12, 13, 14, 15, 16, 17, 18, 19, 20, 21, 22, 23, 24] (upd (upd e 2 (sR 2 0)) 1 (sP x1)) (upd V0 2 (29, k2)) hp K =
    (ptrN x1 fun b1 o2 => (ldL (cellsN k2 0 6) fun l3 => (CF Try.prog 122 [(.agg ⟨l3⟩)] hp fun u4 h5 => (intV u4 .i64 fun i6 => (ldV (HP.cell h5 b1 (o2 + 2)) fun v7 => (intV v7 .i64 fun i8 => (ite2 (decide (i8 < i6)) (ldV (k2)[2]? fun v9 => (intV v9 .i64 fun i10 => (ptrN x1 fun b11 o12 => (ldL (HP.cellN h5 b11 o12 6) fun l13 => (CF Try.prog 122 [(.agg ⟨l13⟩)] h5 fun u14 h15 => (intV u14 .i64 fun i16 => (ite2 (decide (i10 < i16)) (K (upd (upd (upd (upd (upd (upd (upd (upd (upd (upd (upd (upd (upd (upd (upd (upd (upd (upd (upd (upd (upd (upd (upd (upd (upd (upd (upd e 2 (sR 2 0)) 1 (sP x1)) 4 (sQ b1 (o2 + 2))) 6 (sA l3)) 7 (sI i6)) 5 (sI i8)) 8 (sB (decide (i8 < i6)))) 9 (sB true)) 10 (sR 2 2)) 11 (sI i10)) 12 (sA l13)) 13 (sI i16)) 14 (sB (decide (i10 < i16)))) 15 (sB (decide (i10 < i16)))) 16 (sB true)) 17 sU) 18 sU) 19 sU) 20 sU) 21 sU) 22 sU) 23 sU) 24 sU) 25 sU) 26 sU) 27 (sB true)) 3 (sB true)) (upd V0 2 (29, k2)) h15) (ptrN x1 fun b17 o18 => (ldV (HP.cell h15 b17 (o18 + 3)) fun v19 => (boolV v19 fun q20 => (ite2 (!q20) (ldL (cellsN k2 0 6) fun l21 => (CF Try.prog 122 [(.agg ⟨l21⟩)] h15 fun u22 h23 => (intV u22 .i64 fun i24 => (ptrN x1 fun b25 o26 => (ldL (HP.cellN h23 b25 o26 6) fun l27 => (CF Try.prog 122 [(.agg ⟨l27⟩)] h23 fun u28 h29 => (intV u28 .i64 fun i30 => (K (upd (upd (upd (upd (upd (upd (upd (upd (upd (upd (upd (upd (upd (upd (upd (upd (upd (upd (upd (upd (upd (upd (upd (upd (upd (upd (upd e 2 (sR 2 0)) 1 (sP x1)) 4 (sQ b1 (o2 + 2))) 6 (sA l3)) 7 (sI i6)) 5 (sI i8)) 8 (sB (decide (i8 < i6)))) 9 (sB true)) 10 (sR 2 2)) 11 (sI i10)) 12 (sA l13)) 13 (sI i16)) 14 (sB (decide (i10 < i16)))) 15 (sB (decide (i10 < i16)))) 16 (sB false)) 17 (sQ b17 (o18 + 3))) 18 (sB q20)) 19 (sB ((!q20)))) 20 (sB true)) 21 (sA l21)) 22 (sI i24)) 23 (sA l27)) 24 (sI i30)) 25 (sB (decide (i24 > i30)))) 26 (sB (decide (i24 > i30)))) 27 (sB (decide (i24 > i30)))) 3 (sB (decide (i24 > i30)))) (upd V0 2 (29, k2)) h29)))))))) (K (upd (upd (upd (upd (upd (upd (upd (upd (upd (upd (upd (upd (upd (upd (upd (upd (upd (upd (upd (upd (upd (upd (upd (upd (upd (upd (upd e 2 (sR 2 0)) 1 (sP x1)) 4 (sQ b1 (o2 + 2))) 6 (sA l3)) 7 (sI i6)) 5 (sI i8)) 8 (sB (decide (i8 < i6)))) 9 (sB true)) 10 (sR 2 2)) 11 (sI i10)) 12 (sA l13)) 13 (sI i16)) 14 (sB (decide (i10 < i16)))) 15 (sB (decide (i10 < i16)))) 16 (sB false)) 17 (sQ b17 (o18 + 3))) 18 (sB q20)) 19 (sB ((!q20)))) 20 (sB false)) 21 sU) 22 sU) 23 sU) 24 sU) 25 sU) 26 (sB false)) 27 (sB false)) 3 (sB false)) (upd V0 2 (29, k2)) h15)))))))))))) (ptrN x1 fun b31 o32 => (ldV (HP.cell h5 b31 (o32 + 3)) fun v33 => (boolV v33 fun q34 => (ite2 (!q34) (ldL (cellsN k2 0 6) fun l35 => (CF Try.prog 122 [(.agg ⟨l35⟩)] h5 fun u36 h37 => (intV u36 .i64 fun i38 => (ptrN x1 fun b39 o40 => (ldL (HP.cellN h37 b39 o40 6) fun l41 => (CF Try.prog 122 [(.agg ⟨l41⟩)] h37 fun u42 h43 => (intV u42 .i64 fun i44 => (K (upd (upd (upd (upd (upd (upd (upd (upd (upd (upd (upd (upd (upd (upd (upd (upd (upd (upd (upd (upd (upd (upd (upd (upd (upd (upd (upd e 2 (sR 2 0)) 1 (sP x1)) 4 (sQ b1 (o2 + 2))) 6 (sA l3)) 7 (sI i6)) 5 (sI i8)) 8 (sB (decide (i8 < i6)))) 9 (sB false)) 10 sU) 11 sU) 12 sU) 13 sU) 14 sU) 15 (sB false)) 16 (sB false)) 17 (sQ b31 (o32 + 3))) 18 (sB q34)) 19 (sB ((!q34)))) 20 (sB true)) 21 (sA l35)) 22 (sI i38)) 23 (sA l41)) 24 (sI i44)) 25 (sB (decide (i38 > i44)))) 26 (sB (decide (i38 > i44)))) 27 (sB (decide (i38 > i44)))) 3 (sB (decide (i38 > i44)))) (upd V0 2 (29, k2)) h43)))))))) (K (upd (upd (upd (upd (upd (upd (upd (upd (upd (upd (upd (upd (upd (upd (upd (upd (upd (upd (upd (upd (upd (upd (upd (upd (upd (upd (upd e 2 (sR 2 0)) 1 (sP x1)) 4 (sQ b1 (o2 + 2))) 6 (sA l3)) 7 (sI i6)) 5 (sI i8)) 8 (sB (decide (i8 < i6)))) 9 (sB false)) 10 sU) 11 sU) 12 sU) 13 sU) 14 sU) 15 (sB false)) 16 (sB false)) 17 (sQ b31 (o32 + 3))) 18 (sB q34)) 19 (sB ((!q34)))) 20 (sB false)) 21 sU) 22 sU) 23 sU) 24 sU) 25 sU) 26 (sB false)) 27 (sB false)) 3 (sB false)) (upd V0 2 (29, k2)) h5)))))))))))) := by kernel_rfl
theorem F123_r4 (e : Env) (x1 : Option Addr) (k2 : List Value) (hp : HP) (K : Env → PV → HP → Prop) : RW Try.prog 28 [2, 10] (opsAt Try.f123 [1, 0]) [0, 2, 3, 1, 4, 5, 6, 7, 8, 9, 10, 11, 12, 13, 14, 15, 16, 17, 19, 18, 20, 21, 22, 23, 24] (upd (upd e 2 (sR 2 0)) 1 (sP x1)) (upd V0 2 (29, k2)) hp K =
    (ptrN x1 fun b1 o2 => (ldL (cellsN k2 0 6) fun l3 => (CF Try.prog 122 [(.agg ⟨l3⟩)] hp fun u4 h5 => (intV u4 .i64 fun i6 => (ldV (HP.cell h5 b1 (o2 + 2)) fun v7 => (intV v7 .i64 fun i8 => (ite2 (decide (i8 < i6)) (ldV (k2)[2]? fun v9 => (intV v9 .i64 fun i10 => (ptrN x1 fun b11 o12 => (ldL (HP.cellN h5 b11 o12 6) fun l13 => (CF Try.prog 122 [(.agg ⟨l13⟩)] h5 fun u14 h15 => (intV u14 .i64 fun i16 => (ite2 (decide (i10 < i16)) (K (upd (upd (upd (upd (upd (upd (upd (upd (upd (upd (upd (upd (upd (upd (upd (upd (upd (upd (upd (upd (upd (upd (upd (upd (upd (upd (upd e 2 (sR 2 0)) 1 (sP x1)) 4 (sQ b1 (o2 + 2))) 6 (sA l3)) 7 (sI i6)) 5 (sI i8)) 8 (sB (decide (i8 < i6)))) 9 (sB true)) 10 (sR 2 2)) 11 (sI i10)) 12 (sA l13)) 13 (sI i16)) 14 (sB (decide (i10 < i16)))) 15 (sB (decide (i10 < i16)))) 16 (sB true)) 17 sU) 18 sU) 19 sU) 20 sU) 21 sU) 23 sU) 22 sU) 24 sU) 25 sU) 26 sU) 27 (sB true)) 3 (sB true)) (upd V0 2 (29, k2)) h15) (ptrN x1 fun b17 o18 => (ldV (HP.cell h15 b17 (o18 + 3)) fun v19 => (boolV v19 fun q20 => (ite2 (!q20) (ldL (cellsN k2 0 6) fun l21 => (ptrN x1 fun b22 o23 => (ldL (HP.cellN h15 b22 o23 6) fun l24 => (CF Try.prog 122 [(.agg ⟨l21⟩)] h15 fun u25 h26 => (intV u25 .i64 fun i27 => (CF Try.prog 122 [(.agg ⟨l24⟩)] h26 fun u28 h29 => (intV u28 .i64 fun i30 => (K (upd (upd (upd (upd (upd (upd (upd (upd (upd (upd (upd (upd (upd (upd (upd (upd (upd (upd (upd (upd (upd (upd (upd (upd (upd (upd (upd e 2 (sR 2 0)) 1 (sP x1)) 4 (sQ b1 (o2 + 2))) 6 (sA l3)) 7 (sI i6)) 5 (sI i8)) 8 (sB (decide (i8 < i6)))) 9 (sB true)) 10 (sR 2 2)) 11 (sI i10)) 12 (sA l13)) 13 (sI i16)) 14 (sB (decide (i10 < i16)))) 15 (sB (decide (i10 < i16)))) 16 (sB false)) 17 (sQ b17 (o18 + 3))) 18 (sB q20)) 19 (sB ((!q20)))) 20 (sB true)) 21 (sA l21)) 23 (sA l24)) 22 (sI i27)) 24 (sI i30)) 25 (sB (decide (i27 > i30)))) 26 (sB (decide (i27 > i30)))) 27 (sB (decide (i27 > i30)))) 3 (sB (decide (i27 > i30)))) (upd V0 2 (29, k2)) h29)))))))) (K (upd (upd (upd (upd (upd (upd (upd (upd (upd (upd (upd (upd (upd (upd (upd (upd (upd (upd (upd (upd (upd (upd (upd (upd (upd (upd (upd e 2 (sR 2 0)) 1 (sP x1)) 4 (sQ b1 (o2 + 2))) 6 (sA l3)) 7 (sI i6)) 5 (sI i8)) 8 (sB (decide (i8 < i6)))) 9 (sB true)) 10 (sR 2 2)) 11 (sI i10)) 12 (sA l13)) 13 (sI i16)) 14 (sB (decide (i10 < i16)))) 15 (sB (decide (i10 < i16)))) 16 (sB false)) 17 (sQ b17 (o18 + 3))) 18 (sB q20)) 19 (sB ((!q20)))) 20 (sB false)) 21 sU) 23 sU) 22 sU) 24 sU) 25 sU) 26 (sB false)) 27 (sB false)) 3 (sB false)) (upd V0 2 (29, k2)) h15)))))))))))) (ptrN x1 fun b31 o32 => (ldV (HP.cell h5 b31 (o32 + 3)) fun v33 => (boolV v33 fun q34 => (ite2 (!q34) (ldL (cellsN k2 0 6) fun l35 => (ptrN x1 fun b36 o37 => (ldL (HP.cellN h5 b36 o37 6) fun l38 => (CF Try.prog 122 [(.agg ⟨l35⟩)] h5 fun u39 h40 => (intV u39 .i64 fun i41 => (CF Try.prog 122 [(.agg ⟨l38⟩)] h40 fun u42 h43 => (intV u42 .i64 fun i44 => (K (upd (upd (upd (upd (upd (upd (upd (upd (upd (upd (upd (upd (upd (upd (upd (upd (upd (upd (upd (upd (upd (upd (upd (upd (upd (upd (upd e 2 (sR 2 0)) 1 (sP x1)) 4 (sQ b1 (o2 + 2))) 6 (sA l3)) 7 (sI i6)) 5 (sI i8)) 8 (sB (decide (i8 < i6)))) 9 (sB false)) 10 sU) 11 sU) 12 sU) 13 sU) 14 sU) 15 (sB false)) 16 (sB false)) 17 (sQ b31 (o32 + 3))) 18 (sB q34)) 19 (sB ((!q34)))) 20 (sB true)) 21 (sA l35)) 23 (sA l38)) 22 (sI i41)) 24 (sI i44)) 25 (sB (decide (i41 > i44)))) 26 (sB (decide (i41 > i44)))) 27 (sB (decide (i41 > i44)))) 3 (sB (decide (i41 > i44)))) (upd V0 2 (29, k2)) h43)))))))) (K (upd (upd (upd (upd (upd (upd (upd (upd (upd (upd (upd (upd (upd (upd (upd (upd (upd (upd (upd (upd (upd (upd (upd (upd (upd (upd (upd e 2 (sR 2 0)) 1 (sP x1)) 4 (sQ b1 (o2 + 2))) 6 (sA l3)) 7 (sI i6)) 5 (sI i8)) 8 (sB (decide (i8 < i6)))) 9 (sB false)) 10 sU) 11 sU) 12 sU) 13 sU) 14 sU) 15 (sB false)) 16 (sB false)) 17 (sQ b31 (o32 + 3))) 18 (sB q34)) 19 (sB ((!q34)))) 20 (sB false)) 21 sU) 23 sU) 22 sU) 24 sU) 25 sU) 26 (sB false)) 27 (sB false)) 3 (sB false)) (upd V0 2 (29, k2)) h5)))))))))))) := by kernel_rfl
def F123 (x0 : List Value) (x1 : Option Addr) (hp : HP) (K : Value → HP → Prop) : Prop :=
  ((ptrN x1 fun b_1 o_2 => (ldV (HP.cell hp b_1 (o_2 + 2)) fun v_3 => (intV v_3 .i64 fun i_4 => (ldL (cellsN x0 0 6) fun l_5 => (CF Try.prog 122 [(.agg ⟨l_5⟩)] hp fun u_6 h_7 => (intV u_6 .i64 fun i_8 => (ite2 (decide (i_4 < i_8)) (ldV (x0)[2]? fun v_9 => (intV v_9 .i64 fun i_10 => (ptrN x1 fun b_11 o_12 => (ldL (HP.cellN h_7 b_11 o_12 6) fun l_13 => (CF Try.prog 122 [(.agg ⟨l_13⟩)] h_7 fun u_14 h_15 => (intV u_14 .i64 fun i_16 => (ite2 (decide (i_10 < i_16)) (K (.bool true) h_15) (ptrN x1 fun b_17 o_18 => (ldV (HP.cell h_15 b_17 (o_18 + 3)) fun v_19 => (boolV v_19 fun q_20 => (ite2 (!q_20) (ldL (cellsN x0 0 6) fun l_21 => (CF Try.prog 122 [(.agg ⟨l_21⟩)] h_15 fun u_22 h_23 => (intV u_22 .i64 fun i_24 => (ptrN x1 fun b_25 o_26 => (ldL (HP.cellN h_23 b_25 o_26 6) fun l_27 => (CF Try.prog 122 [(.agg ⟨l_27⟩)] h_23 fun u_28 h_29 => (intV u_28 .i64 fun i_30 => (K (.bool (decide (i_24 > i_30))) h_29)))))))) (K (.bool false) h_15)))))))))))) (ptrN x1 fun b_31 o_32 => (ldV (HP.cell h_7 b_31 (o_32 + 3)) fun v_33 => (boolV v_33 fun q_34 => (ite2 (!q_34) (ldL (cellsN x0 0 6) fun l_35 => (CF Try.prog 122 [(.agg ⟨l_35⟩)] h_7 fun u_36 h_37 => (intV u_36 .i64 fun i_38 => (ptrN x1 fun b_39 o_40 => (ldL (HP.cellN h_37 b_39 o_40 6) fun l_41 => (CF Try.prog 122 [(.agg ⟨l_41⟩)] h_37 fun u_42 h_43 => (intV u_42 .i64 fun i_44 => (K (.bool (decide (i_38 > i_44))) h_43)))))))) (K (.bool false) h_7)))))))))))) ∧ (ptrN x1 fun b_45 o_46 => (ldV (HP.cell hp b_45 (o_46 + 2)) fun v_47 => (intV v_47 .i64 fun i_48 => (ldL (cellsN x0 0 6) fun l_49 => (CF Try.prog 122 [(.agg ⟨l_49⟩)] hp fun u_50 h_51 => (intV u_50 .i64 fun i_52 => (ite2 (decide (i_48 < i_52)) (ldV (x0)[2]? fun v_53 => (intV v_53 .i64 fun i_54 => (ptrN x1 fun b_55 o_56 => (ldL (HP.cellN h_51 b_55 o_56 6) fun l_57 => (CF Try.prog 122 [(.agg ⟨l_57⟩)] h_51 fun u_58 h_59 => (intV u_58 .i64 fun i_60 => (ite2 (decide (i_54 < i_60)) (K (.bool true) h_59) (ptrN x1 fun b_61 o_62 => (ldV (HP.cell h_59 b_61 (o_62 + 3)) fun v_63 => (boolV v_63 fun q_64 => (ite2 (!q_64) (ldL (cellsN x0 0 6) fun l_65 => (ptrN x1 fun b_66 o_67 => (ldL (HP.cellN h_59 b_66 o_67 6) fun l_68 => (CF Try.prog 122 [(.agg ⟨l_65⟩)] h_59 fun u_69 h_70 => (intV u_69 .i64 fun i_71 => (CF Try.prog 122 [(.agg ⟨l_68⟩)] h_70 fun u_72 h_73 => (intV u_72 .i64 fun i_74 => (K (.bool (decide (i_71 > i_74))) h_73)))))))) (K (.bool false) h_59)))))))))))) (ptrN x1 fun b_75 o_76 => (ldV (HP.cell h_51 b_75 (o_76 + 3)) fun v_77 => (boolV v_77 fun q_78 => (ite2 (!q_78) (ldL (cellsN x0 0 6) fun l_79 => (ptrN x1 fun b_80 o_81 => (ldL (HP.cellN h_51 b_80 o_81 6) fun l_82 => (CF Try.prog 122 [(.agg ⟨l_79⟩)] h_51 fun u_83 h_84 => (intV u_83 .i64 fun i_85 => (CF Try.prog 122 [(.agg ⟨l_82⟩)] h_84 fun u_86 h_87 => (intV u_86 .i64 fun i_88 => (K (.bool (decide (i_85 > i_88))) h_87)))))))) (K (.bool false) h_51)))))))))))) ∧ (ptrN x1 fun b_89 o_90 => (ldL (cellsN x0 0 6) fun l_91 => (CF Try.prog 122 [(.agg ⟨l_91⟩)] hp fun u_92 h_93 => (intV u_92 .i64 fun i_94 => (ldV (HP.cell h_93 b_89 (o_90 + 2)) fun v_95 => (intV v_95 .i64 fun i_96 => (ite2 (decide (i_96 < i_94)) (ldV (x0)[2]? fun v_97 => (intV v_97 .i64 fun i_98 => (ptrN x1 fun b_99 o_100 => (ldL (HP.cellN h_93 b_99 o_100 6) fun l_101 => (CF Try.prog 122 [(.agg ⟨l_101⟩)] h_93 fun u_102 h_103 => (intV u_102 .i64 fun i_104 => (ite2 (decide (i_98 < i_104)) (K (.bool true) h_103) (ptrN x1 fun b_105 o_106 => (ldV (HP.cell h_103 b_105 (o_106 + 3)) fun v_107 => (boolV v_107 fun q_108 => (ite2 (!q_108) (ldL (cellsN x0 0 6) fun l_109 => (CF Try.prog 122 [(.agg ⟨l_109⟩)] h_103 fun u_110 h_111 => (intV u_110 .i64 fun i_112 => (ptrN x1 fun b_113 o_114 => (ldL (HP.cellN h_111 b_113 o_114 6) fun l_115 => (CF Try.prog 122 [(.agg ⟨l_115⟩)] h_111 fun u_116 h_117 => (intV u_116 .i64 fun i_118 => (K (.bool (decide (i_112 > i_118))) h_117)))))))) (K (.bool false) h_103)))))))))))) (ptrN x1 fun b_119 o_120 => (ldV (HP.cell h_93 b_119 (o_120 + 3)) fun v_121 => (boolV v_121 fun q_122 => (ite2 (!q_122) (ldL (cellsN x0 0 6) fun l_123 => (CF Try.prog 122 [(.agg ⟨l_123⟩)] h_93 fun u_124 h_125 => (intV u_124 .i64 fun i_126 => (ptrN x1 fun b_127 o_128 => (ldL (HP.cellN h_125 b_127 o_128 6) fun l_129 => (CF Try.prog 122 [(.agg ⟨l_129⟩)] h_125 fun u_130 h_131 => (intV u_130 .i64 fun i_132 => (K (.bool (decide (i_126 > i_132))) h_131)))))))) (K (.bool false) h_93)))))))))))) ∧ (ptrN x1 fun b_133 o_134 => (ldL (cellsN x0 0 6) fun l_135 => (CF Try.prog 122 [(.agg ⟨l_135⟩)] hp fun u_136 h_137 => (intV u_136 .i64 fun i_138 => (ldV (HP.cell h_137 b_133 (o_134 + 2)) fun v_139 => (intV v_139 .i64 fun i_140 => (ite2 (decide (i_140 < i_138)) (ldV (x0)[2]? fun v_141 => (intV v_141 .i64 fun i_142 => (ptrN x1 fun b_143 o_144 => (ldL (HP.cellN h_137 b_143 o_144 6) fun l_145 => (CF Try.prog 122 [(.agg ⟨l_145⟩)] h_137 fun u_146 h_147 => (intV u_146 .i64 fun i_148 => (ite2 (decide (i_142 < i_148)) (K (.bool true) h_147) (ptrN x1 fun b_149 o_150 => (ldV (HP.cell h_147 b_149 (o_150 + 3)) fun v_151 => (boolV v_151 fun q_152 => (ite2 (!q_152) (ldL (cellsN x0 0 6) fun l_153 => (ptrN x1 fun b_154 o_155 => (ldL (HP.cellN h_147 b_154 o_155 6) fun l_156 => (CF Try.prog 122 [(.agg ⟨l_153⟩)] h_147 fun u_157 h_158 => (intV u_157 .i64 fun i_159 => (CF Try.prog 122 [(.agg ⟨l_156⟩)] h_158 fun u_160 h_161 => (intV u_160 .i64 fun i_162 => (K (.bool (decide (i_159 > i_162))) h_161)))))))) (K (.bool false) h_147)))))))))))) (ptrN x1 fun b_163 o_164 => (ldV (HP.cell h_137 b_163 (o_164 + 3)) fun v_165 => (boolV v_165 fun q_166 => (ite2 (!q_166) (ldL (cellsN x0 0 6) fun l_167 => (ptrN x1 fun b_168 o_169 => (ldL (HP.cellN h_137 b_168 o_169 6) fun l_170 => (CF Try.prog 122 [(.agg ⟨l_167⟩)] h_137 fun u_171 h_172 => (intV u_171 .i64 fun i_173 => (CF Try.prog 122 [(.agg ⟨l_170⟩)] h_172 fun u_174 h_175 => (intV u_174 .i64 fun i_176 => (K (.bool (decide (i_173 > i_176))) h_175)))))))) (K (.bool false) h_137)))))))))))))
noncomputable def F123_code : Code := (.seq (.region 0 (opsAt Try.f123 [0]) false) (.seq (.region 1 (opsAt Try.f123 [1, 0]) true) .ret))
theorem F123_body : Try.f123.body = some F123_code := by kernel_rfl
theorem F123_ok (x0 : List Value) (x1 : Option Addr) (hp : HP) (K : Value → HP → Prop) (h : F123 x0 x1 hp K) : CF Try.prog 123 [(.agg ⟨x0⟩), (.pointer x1)] hp K := by
 refine .inl ⟨by kernel_rfl, AC.intro (N := 28) Try.func123 F123_body rfl (Nat.le_of_ble_eq_true rfl) ?_⟩
 unfold F123 at h
 unfold F123_code
 refine AWP.seq' ?_
 refine AWP.rgn (F123_r0 (upd E0 1 (sP x1)) x0 hp _) ?_ (Ru 0 (Ru 1 Rn)) (Sc rfl (Sc rfl Sn)) Sn
 refine AWP.seq' ?_
 refine AWP.rgnC (cf := [(1, 3), (18, 19)]) (c := [([true, true], true, [0, 1, 2, 3, 4, 5, 6, 7, 8, 9, 10, 11, 12, 13, 14, 15, 16, 17, 18, 19, 20, 21, 22, 23, 24]), ([true, false], true, [0, 1, 2, 3, 4, 5, 6, 7, 8, 9, 10, 11, 12, 13, 14, 15, 16, 17, 19, 18, 20, 21, 22, 23, 24]), ([false, true], true, [0, 2, 3, 1, 4, 5, 6, 7, 8, 9, 10, 11, 12, 13, 14, 15, 16, 17, 18, 19, 20, 21, 22, 23, 24]), ([false, false], true, [0, 2, 3, 1, 4, 5, 6, 7, 8, 9, 10, 11, 12, 13, 14, 15, 16, 17, 19, 18, 20, 21, 22, 23, 24])]) (by kernel_rfl) (by kernel_rfl) (by kernel_rfl) (by kernel_rfl) (allO_t (Eq.mpr (F123_r1 E0 x1 x0 hp _) ?_) (allO_t (Eq.mpr (F123_r2 E0 x1 x0 hp _) ?_) (allO_t (Eq.mpr (F123_r3 E0 x1 x0 hp _) ?_) (allO_t (Eq.mpr (F123_r4 E0 x1 x0 hp _) ?_) trivial)))) (Ru 1 (RefOk.p 2 2 0 Rn (fun e => by cases e))) (Sc rfl (Sc rfl Sn)) (Sc rfl Sn)
 ·replace h := h.1
  refine mN h fun b_1 o_2 h => mV h fun v_3 h => mI h fun i_4 h => mL h fun l_5 h => mC h fun u_6 h_7 h => mI h fun i_8 h => ?_
  refine mt h (fun h => ?_) (fun h => ?_)
  ·refine mV h fun v_9 h => mI h fun i_10 h => mN h fun b_11 o_12 h => mL h fun l_13 h => mC h fun u_14 h_15 h => mI h fun i_16 h => ?_
   refine mt h (fun h => ?_) (fun h => ?_)
   ·refine AWP.ret ?_
    exact h
   ·refine mN h fun b_17 o_18 h => mV h fun v_19 h => mB h fun q_20 h => ?_
    refine mt h (fun h => ?_) (fun h => ?_)
    ·refine mL h fun l_21 h => mC h fun u_22 h_23 h => mI h fun i_24 h => mN h fun b_25 o_26 h => mL h fun l_27 h => mC h fun u_28 h_29 h => mI h fun i_30 h => ?_
     refine AWP.ret ?_
     exact h
    ·refine AWP.ret ?_
     exact h
  ·refine mN h fun b_31 o_32 h => mV h fun v_33 h => mB h fun q_34 h => ?_
   refine mt h (fun h => ?_) (fun h => ?_)
   ·refine mL h fun l_35 h => mC h fun u_36 h_37 h => mI h fun i_38 h => mN h fun b_39 o_40 h => mL h fun l_41 h => mC h fun u_42 h_43 h => mI h fun i_44 h => ?_
    refine AWP.ret ?_
    exact h
   ·refine AWP.ret ?_
    exact h
 ·replace h := h.2.1
  refine mN h fun b_45 o_46 h => mV h fun v_47 h => mI h fun i_48 h => mL h fun l_49 h => mC h fun u_50 h_51 h => mI h fun i_52 h => ?_
  refine mt h (fun h => ?_) (fun h => ?_)
  ·refine mV h fun v_53 h => mI h fun i_54 h => mN h fun b_55 o_56 h => mL h fun l_57 h => mC h fun u_58 h_59 h => mI h fun i_60 h => ?_
   refine mt h (fun h => ?_) (fun h => ?_)
   ·refine AWP.ret ?_
    exact h
   ·refine mN h fun b_61 o_62 h => mV h fun v_63 h => mB h fun q_64 h => ?_
    refine mt h (fun h => ?_) (fun h => ?_)
    ·refine mL h fun l_65 h => mN h fun b_66 o_67 h => mL h fun l_68 h => mC h fun u_69 h_70 h => mI h fun i_71 h => mC h fun u_72 h_73 h => mI h fun i_74 h => ?_
     refine AWP.ret ?_
     exact h
    ·refine AWP.ret ?_
     exact h
  ·refine mN h fun b_75 o_76 h => mV h fun v_77 h => mB h fun q_78 h => ?_
   refine mt h (fun h => ?_) (fun h => ?_)
   ·refine mL h fun l_79 h => mN h fun b_80 o_81 h => mL h fun l_82 h => mC h fun u_83 h_84 h => mI h fun i_85 h => mC h fun u_86 h_87 h => mI h fun i_88 h => ?_
    refine AWP.ret ?_
    exact h
   ·refine AWP.ret ?_
    exact h
 ·replace h := h.2.2.1
  refine mN h fun b_89 o_90 h => mL h fun l_91 h => mC h fun u_92 h_93 h => mI h fun i_94 h => mV h fun v_95 h => mI h fun i_96 h => ?_
  refine mt h (fun h => ?_) (fun h => ?_)
  ·refine mV h fun v_97 h => mI h fun i_98 h => mN h fun b_99 o_100 h => mL h fun l_101 h => mC h fun u_102 h_103 h => mI h fun i_104 h => ?_
   refine mt h (fun h => ?_) (fun h => ?_)
   ·refine AWP.ret ?_
    exact h
   ·refine mN h fun b_105 o_106 h => mV h fun v_107 h => mB h fun q_108 h => ?_
    refine mt h (fun h => ?_) (fun h => ?_)
    ·refine mL h fun l_109 h => mC h fun u_110 h_111 h => mI h fun i_112 h => mN h fun b_113 o_114 h => mL h fun l_115 h => mC h fun u_116 h_117 h => mI h fun i_118 h => ?_
     refine AWP.ret ?_
     exact h
    ·refine AWP.ret ?_
     exact h
  ·refine mN h fun b_119 o_120 h => mV h fun v_121 h => mB h fun q_122 h => ?_
   refine mt h (fun h => ?_) (fun h => ?_)
   ·refine mL h fun l_123 h => mC h fun u_124 h_125 h => mI h fun i_126 h => mN h fun b_127 o_128 h => mL h fun l_129 h => mC h fun u_130 h_131 h => mI h fun i_132 h => ?_
    refine AWP.ret ?_
    exact h
   ·refine AWP.ret ?_
    exact h
 ·replace h := h.2.2.2
  refine mN h fun b_133 o_134 h => mL h fun l_135 h => mC h fun u_136 h_137 h => mI h fun i_138 h => mV h fun v_139 h => mI h fun i_140 h => ?_
  refine mt h (fun h => ?_) (fun h => ?_)
  ·refine mV h fun v_141 h => mI h fun i_142 h => mN h fun b_143 o_144 h => mL h fun l_145 h => mC h fun u_146 h_147 h => mI h fun i_148 h => ?_
   refine mt h (fun h => ?_) (fun h => ?_)
   ·refine AWP.ret ?_
    exact h
   ·refine mN h fun b_149 o_150 h => mV h fun v_151 h => mB h fun q_152 h => ?_
    refine mt h (fun h => ?_) (fun h => ?_)
    ·refine mL h fun l_153 h => mN h fun b_154 o_155 h => mL h fun l_156 h => mC h fun u_157 h_158 h => mI h fun i_159 h => mC h fun u_160 h_161 h => mI h fun i_162 h => ?_
     refine AWP.ret ?_
     exact h
    ·refine AWP.ret ?_
     exact h
  ·refine mN h fun b_163 o_164 h => mV h fun v_165 h => mB h fun q_166 h => ?_
   refine mt h (fun h => ?_) (fun h => ?_)
   ·refine mL h fun l_167 h => mN h fun b_168 o_169 h => mL h fun l_170 h => mC h fun u_171 h_172 h => mI h fun i_173 h => mC h fun u_174 h_175 h => mI h fun i_176 h => ?_
    refine AWP.ret ?_
    exact h
   ·refine AWP.ret ?_
    exact h
end
-- 124 slices.SortStableFunc[[]interpreter/frag.Piece,interpreter/frag.Piece]
section
variable (e : Env) (x0a : Option Addr) (x0n x0c : Nat) (x1 : Value) (hp : HP) (K : Env → PV → HP → Prop)
abbrev R124 (p : List Nat) (n : Nat) := RW Try.prog 9 [] (opsAt Try.f124 p) (List.range n)
theorem F124_r0 : R124 [] 5 (upd (upd e 1 (sV x1)) 0 (sS x0a x0n x0c)) V0 hp K =
    (CF Try.prog 145 [(.slice x0a x0n x0c), (.int .i64 (x0n : Nat)), x1] hp fun u1 h2 => (K (upd (upd (upd (upd (upd (upd (upd e 1 (sV x1)) 0 (sS x0a x0n x0c)) 4 (sS x0a x0n x0c)) 5 (sS x0a x0n x0c)) 6 (sI ((x0n : Nat)))) 7 (sV x1)) 8 (sV u1)) V0 h2)) := by kernel_rfl
def F124 (x0a : Option Addr) (x0n : Nat) (x0c : Nat) (x1 : Value) (hp : HP) (K : Value → HP → Prop) : Prop :=
  (CF Try.prog 145 [(.slice x0a x0n x0c), (.int .i64 (x0n : Nat)), x1] hp fun u_1 h_2 => (K (.tuple ⟨[]⟩) h_2))
noncomputable def F124_code : Code := (.region 0 (opsAt Try.f124 []) false)
theorem F124_body : Try.f124.body = some F124_code := by kernel_rfl
theorem F124_ok (x0a : Option Addr) (x0n : Nat) (x0c : Nat) (x1 : Value) (hp : HP) (K : Value → HP → Prop) (h : F124 x0a x0n x0c x1 hp K) : CF Try.prog 124 [(.slice x0a x0n x0c), x1] hp K := by
 refine .inl ⟨by kernel_rfl, AC.intro (N := 9) Try.func124 F124_body rfl (Nat.le_of_ble_eq_true rfl) ?_⟩
 unfold F124 at h
 unfold F124_code
 refine AWP.rgn (F124_r0 E0 x0a x0n x0c x1 hp _) ?_ (Ru 0 (Ru 1 Rn)) (Sc rfl (Sc rfl Sn)) Sn
 refine mC h fun u_1 h_2 h => ?_
 exact h
end
-- 125 (*interpreter/frag.datagram).whole$1
section
variable (e : Env) (x0 x1 k2 k3 : List Value) (hp : HP) (K : Env → PV → HP → Prop)
abbrev R125 (p : List Nat) (n : Nat) := RW Try.prog 17 [2, 3, 5, 7] (opsAt Try.f125 p) (List.range n)
theorem F125_r0 : R125 [0] 3 (upd (upd e 1 (sA x1)) 0 (sA x0)) V0 hp K =
    (K (upd (upd (upd (upd (upd e 1 (sA x1)) 0 (sA x0)) 2 (sR 2 0)) 3 (sR 3 0)) 4 (sI 0)) (upd (upd V0 2 (29, x0)) 3 (29, x1)) hp) := by kernel_rfl
theorem F125_r1 : R125 [1, 0] 13 (upd (upd e 3 (sR 3 0)) 2 (sR 2 0)) (upd (upd V0 3 (29, k3)) 2 (29, k2)) hp K =
    (ldV (k2)[2]? fun v1 => (intV v1 .i64 fun i2 => (ldV (k3)[2]? fun v3 => (intV v3 .i64 fun i4 => (CF Try.prog 97 [(.int .i64 i2), (.int .i64 i4)] hp fun u5 h6 => (intV u5 .i64 fun i7 => (ldL (cellsN k2 0 6) fun l8 => (CF Try.prog 122 [(.agg ⟨l8⟩)] h6 fun u9 h10 => (intV u9 .i64 fun i11 => (ldL (cellsN k3 0 6) fun l12 => (CF Try.prog 122 [(.agg ⟨l12⟩)] h10 fun u13 h14 => (intV u13 .i64 fun i15 => (CF Try.prog 97 [(.int .i64 i11), (.int .i64 i15)] h14 fun u16 h17 => (intV u16 .i64 fun i18 => (∀ b19 : Nat, h17 b19 = .none → (CF Try.prog 96 [(.slice (some ⟨b19, 0, none⟩) 2 2)] (HP.set h17 b19 (.cells 3 [(.int .i64 i7), (.int .i64 i18)] 0)) fun u20 h21 => (intV u20 .i64 fun i22 => (K (upd (upd (upd (upd (upd (upd (upd (upd (upd (upd (upd (upd (upd (upd (upd e 3 (sR 3 0)) 2 (sR 2 0)) 5 (sR 2 2)) 6 (sI i2)) 7 (sR 3 2)) 8 (sI i4)) 9 (sI i7)) 10 (sA l8)) 11 (sI i11)) 12 (sA l12)) 13 (sI i15)) 14 (sI i18)) 15 (sV (.slice (some ⟨b19, 0, none⟩) 2 2))) 16 (sI i22)) 4 (sI i22)) (upd (upd V0 3 (29, k3)) 2 (29, k2)) h21)))))))))))))))))) := by kernel_rfl
def F125 (x0 : List Value) (x1 : List Value) (hp : HP) (K : Value → HP → Prop) : Prop :=
  (ldV (x0)[2]? fun v_1 => (intV v_1 .i64 fun i_2 => (ldV (x1)[2]? fun v_3 => (intV v_3 .i64 fun i_4 => (CF Try.prog 97 [(.int .i64 i_2), (.int .i64 i_4)] hp fun u_5 h_6 => (intV u_5 .i64 fun i_7 => (ldL (cellsN x0 0 6) fun l_8 => (CF Try.prog 122 [(.agg ⟨l_8⟩)] h_6 fun u_9 h_10 => (intV u_9 .i64 fun i_11 => (ldL (cellsN x1 0 6) fun l_12 => (CF Try.prog 122 [(.agg ⟨l_12⟩)] h_10 fun u_13 h_14 => (intV u_13 .i64 fun i_15 => (CF Try.prog 97 [(.int .i64 i_11), (.int .i64 i_15)] h_14 fun u_16 h_17 => (intV u_16 .i64 fun i_18 => (∀ b_19 : Nat, h_17 b_19 = .none → (CF Try.prog 96 [(.slice (some ⟨b_19, 0, none⟩) 2 2)] (HP.set h_17 b_19 (.cells 3 [(.int .i64 i_7), (.int .i64 i_18)] 0)) fun u_20 h_21 => (intV u_20 .i64 fun i_22 => (K (.int .i64 i_22) h_21))))))))))))))))))
noncomputable def F125_code : Code := (.seq (.region 0 (opsAt Try.f125 [0]) false) (.seq (.region 1 (opsAt Try.f125 [1, 0]) true) .ret))
theorem F125_body : Try.f125.body = some F125_code := by kernel_rfl
theorem F125_ok (x0 : List Value) (x1 : List Value) (hp : HP) (K : Value → HP → Prop) (h : F125 x0 x1 hp K) : CF Try.prog 125 [(.agg ⟨x0⟩), (.agg ⟨x1⟩)] hp K := by
 refine .inl ⟨by kernel_rfl, AC.intro (N := 17) Try.func125 F125_body rfl (Nat.le_of_ble_eq_true rfl) ?_⟩
 unfold F125 at h
 unfold F125_code
 refine AWP.seq' ?_
 refine AWP.rgn (F125_r0 E0 x0 x1 hp _) ?_ (Ru 0 (Ru 1 Rn)) (Sc rfl (Sc rfl Sn)) Sn
 refine AWP.seq' ?_
 refine AWP.rgnD (by kernel_rfl) (by kernel_rfl) (F125_r1 E0 x0 x1 hp _) ?_ (RefOk.p 2 2 0 (RefOk.p 3 3 0 Rn (fun e => by cases e)) (fun e => by cases e)) (Sc rfl (Sc rfl Sn)) (Sc rfl (Sc rfl Sn))
 refine mV h fun v_1 h => mI h fun i_2 h => mV h fun v_3 h => mI h fun i_4 h => mC h fun u_5 h_6 h => mI h fun i_7 h => mL h fun l_8 h => mC h fun u_9 h_10 h => mI h fun i_11 h => mL h fun l_12 h => mC h fun u_13 h_14 h => mI h fun i_15 h => mC h fun u_16 h_17 h => mI h fun i_18 h => ?_
 refine fun b_19 hb_b_19 => ?_
 replace h := h b_19 hb_b_19
 refine mC h fun u_20 h_21 h => mI h fun i_22 h => ?_
 refine AWP.ret ?_
 exact h
end
-- 145 slices.stableCmpFunc[interpreter/frag.Piece]
section
variable (e : Env) (x0a : Option Addr) (x0n x0c : Nat) (x1 : Int) (x2 : Value) (x6 x7 x8 x9 : Int) (hp : HP) (K : Env → PV → HP → Prop)
abbrev R145 (p : List Nat) (n : Nat) := RW Try.prog 63 [] (opsAt Try.f145 p) (List.range n)
theorem F145_r0 : R145 [0] 1 e V0 hp K =
    (K (upd e 6 (sI 20)) V0 hp) := by kernel_rfl
theorem F145_r1 : R145 [1, 1, 1, 1, 0, 0, 0, 0] 3 (upd (upd e 6 (sI x6)) 1 (sI x1)) V0 hp K =
    (K (upd (upd (upd (upd (upd e 6 (sI x6)) 1 (sI x1)) 28 (sI x6)) 29 (sI x1)) 30 (sB (decide (x6 < x1)))) V0 hp) := by kernel_rfl
theorem F145_r2 : R145 [1, 1, 1, 1, 0, 0, 1, 0, 1, 1, 1] 3 (upd e 6 (sI x6)) V0 hp K =
    (K (upd (upd (upd (upd e 6 (sI x6)) 61 (sI x6)) 62 (sI ((wr (x6 * 2))))) 6 (sI ((wr (x6 * 2))))) V0 hp) := by kernel_rfl
def F145_j7 (x0a : Option Addr) (x0n : Nat) (x0c : Nat) (x1 : Int) (x2 : Value) (x6 : Int) (hp : HP) (I4 : (Int) → HP → Prop) (K : Value → HP → Prop) : Prop :=
  (I4 (IntKind.wrap .i64 (x6 * 2)) hp)
theorem F145_r3 : R145 [1, 1, 1, 1, 0, 0, 1, 0, 1, 1, 0, 0] 4 (upd (upd e 7 (sI x7)) 6 (sI x6)) V0 hp K =
    (K (upd (upd (upd (upd (upd (upd e 7 (sI x7)) 6 (sI x6)) 49 (sI x7)) 50 (sI x6)) 51 (sI ((wr (x7 + x6))))) 9 (sI ((wr (x7 + x6))))) V0 hp) := by kernel_rfl
theorem F145_r4 : R145 [1, 1, 1, 1, 0, 0, 1, 0, 1, 1, 0, 1, 0] 3 (upd (upd e 9 (sI x9)) 1 (sI x1)) V0 hp K =
    (K (upd (upd (upd (upd (upd e 9 (sI x9)) 1 (sI x1)) 52 (sI x9)) 53 (sI x1)) 54 (sB (decide (x9 < x1)))) V0 hp) := by kernel_rfl
theorem F145_r5 : R145 [1, 1, 1, 1, 0, 0, 1, 0, 1, 1, 0, 1, 1, 0] 6 (upd (upd (upd (upd (upd e 9 (sI x9)) 7 (sI x7)) 2 (sV x2)) 1 (sI x1)) 0 (sS x0a x0n x0c)) V0 hp K =
    (CF Try.prog 170 [(.slice x0a x0n x0c), (.int .i64 x7), (.int .i64 x9), (.int .i64 x1), x2] hp fun u1 h2 => (K (upd (upd (upd (upd (upd (upd (upd (upd (upd (upd (upd e 9 (sI x9)) 7 (sI x7)) 2 (sV x2)) 1 (sI x1)) 0 (sS x0a x0n x0c)) 55 (sS x0a x0n x0c)) 56 (sI x7)) 57 (sI x9)) 58 (sI x1)) 59 (sV x2)) 60 (sV u1)) V0 h2)) := by kernel_rfl
def F145_j6 (x0a : Option Addr) (x0n : Nat) (x0c : Nat) (x1 : Int) (x2 : Value) (x6 : Int) (x7 : Int) (hp : HP) (I4 : (Int) → HP → Prop) (K : Value → HP → Prop) : Prop :=
  (ite2 (decide (((IntKind.wrap .i64 (x7 + x6)) : Int) < x1)) (CF Try.prog 170 [(.slice x0a x0n x0c), (.int .i64 x7), (.int .i64 (IntKind.wrap .i64 (x7 + x6))), (.int .i64 x1), x2] hp fun u_1 h_2 => (F145_j7 x0a x0n x0c x1 x2 x6 h_2 I4 K)) (F145_j7 x0a x0n x0c x1 x2 x6 hp I4 K))
theorem F145_r6 : R145 [1, 1, 1, 1, 0, 0, 1, 0, 1, 0, 0, 0, 0, 0] 3 (upd (upd e 8 (sI x8)) 1 (sI x1)) V0 hp K =
    (K (upd (upd (upd (upd (upd e 8 (sI x8)) 1 (sI x1)) 33 (sI x8)) 34 (sI x1)) 35 (sB (decide (x8 ≤ x1)))) V0 hp) := by kernel_rfl
theorem F145_r7 : R145 [1, 1, 1, 1, 0, 0, 1, 0, 1, 0, 0, 0, 1, 0, 0] 8 (upd (upd (upd (upd (upd e 8 (sI x8)) 7 (sI x7)) 6 (sI x6)) 2 (sV x2)) 0 (sS x0a x0n x0c)) V0 hp K =
    (CF Try.prog 170 [(.slice x0a x0n x0c), (.int .i64 x7), (.int .i64 (wr (x7 + x6))), (.int .i64 x8), x2] hp fun u1 h2 => (K (upd (upd (upd (upd (upd (upd (upd (upd (upd (upd (upd (upd (upd e 8 (sI x8)) 7 (sI x7)) 6 (sI x6)) 2 (sV x2)) 0 (sS x0a x0n x0c)) 36 (sS x0a x0n x0c)) 37 (sI x7)) 38 (sI x7)) 39 (sI x6)) 40 (sI ((wr (x7 + x6))))) 41 (sI x8)) 42 (sV x2)) 43 (sV u1)) V0 h2)) := by kernel_rfl
theorem F145_r8 : R145 [1, 1, 1, 1, 0, 0, 1, 0, 1, 0, 0, 0, 1, 0, 1, 0] 2 (upd e 8 (sI x8)) V0 hp K =
    (K (upd (upd (upd e 8 (sI x8)) 44 (sI x8)) 7 (sI x8)) V0 hp) := by kernel_rfl
theorem F145_r9 : R145 [1, 1, 1, 1, 0, 0, 1, 0, 1, 0, 0, 0, 1, 0, 1, 1] 5 (upd (upd e 8 (sI x8)) 6 (sI x6)) V0 hp K =
    (K (upd (upd (upd (upd (upd (upd (upd e 8 (sI x8)) 6 (sI x6)) 45 (sI x8)) 46 (sI x6)) 47 (sI ((wr (2 * x6))))) 48 (sI ((wr (x8 + (wr (2 * x6))))))) 8 (sI ((wr (x8 + (wr (2 * x6))))))) V0 hp) := by kernel_rfl
def F145_l8 (x0a : Option Addr) (x0n : Nat) (x0c : Nat) (x1 : Int) (x2 : Value) (x6 : Int) (I4 : (Int) → HP → Prop) (K : Value → HP → Prop) (I8 : (Int × Int) → HP → Prop) (x7 : Int) (x8 : Int) (hp : HP) : Prop :=
  (ite2 (decide (x8 ≤ x1)) (CF Try.prog 170 [(.slice x0a x0n x0c), (.int .i64 x7), (.int .i64 (IntKind.wrap .i64 (x7 + x6))), (.int .i64 x8), x2] hp fun u_3 h_4 => (I8 (x8, (IntKind.wrap .i64 (x8 + (IntKind.wrap .i64 (2 * x6))))) h_4)) (F145_j6 x0a x0n x0c x1 x2 x6 x7 hp I4 K))
def F145_j5 (x0a : Option Addr) (x0n : Nat) (x0c : Nat) (x1 : Int) (x2 : Value) (x6 : Int) (x7 : Int) (x8 : Int) (hp : HP) (I4 : (Int) → HP → Prop) (K : Value → HP → Prop) : Prop :=
  (LoopP (σ := Int × Int) (fun I s hp => F145_l8 x0a x0n x0c x1 x2 x6 I4 K I s.1 s.2 hp) (x7, x8) hp)
theorem F145_r10 : R145 [1, 1, 1, 1, 0, 0, 1, 0, 0] 4 (upd e 6 (sI x6)) V0 hp K =
    (K (upd (upd (upd (upd (upd e 6 (sI x6)) 31 (sI x6)) 32 (sI ((wr (2 * x6))))) 7 (sI 0)) 8 (sI ((wr (2 * x6))))) V0 hp) := by kernel_rfl
def F145_l4 (x0a : Option Addr) (x0n : Nat) (x0c : Nat) (x1 : Int) (x2 : Value) (K : Value → HP → Prop) (I4 : (Int) → HP → Prop) (x6 : Int) (hp : HP) : Prop :=
  (ite2 (decide (x6 < x1)) (F145_j5 x0a x0n x0c x1 x2 x6 0 (IntKind.wrap .i64 (2 * x6)) hp I4 K) (K (.tuple ⟨[]⟩) hp))
def F145_j3 (x0a : Option Addr) (x0n : Nat) (x0c : Nat) (x1 : Int) (x2 : Value) (x6 : Int) (hp : HP) (K : Value → HP → Prop) : Prop :=
  (LoopP (σ := Int) (fun I s hp => F145_l4 x0a x0n x0c x1 x2  K I s hp) x6 hp)
theorem F145_r11 : R145 [1, 1, 1, 0] 5 (upd (upd (upd (upd e 7 (sI x7)) 2 (sV x2)) 1 (sI x1)) 0 (sS x0a x0n x0c)) V0 hp K =
    (CF Try.prog 169 [(.slice x0a x0n x0c), (.int .i64 x7), (.int .i64 x1), x2] hp fun u1 h2 => (K (upd (upd (upd (upd (upd (upd (upd (upd (upd e 7 (sI x7)) 2 (sV x2)) 1 (sI x1)) 0 (sS x0a x0n x0c)) 23 (sS x0a x0n x0c)) 24 (sI x7)) 25 (sI x1)) 26 (sV x2)) 27 (sV u1)) V0 h2)) := by kernel_rfl
def F145_j2 (x0a : Option Addr) (x0n : Nat) (x0c : Nat) (x1 : Int) (x2 : Value) (x6 : Int) (x7 : Int) (hp : HP) (K : Value → HP → Prop) : Prop :=
  (CF Try.prog 169 [(.slice x0a x0n x0c), (.int .i64 x7), (.int .i64 x1), x2] hp fun u_5 h_6 => (F145_j3 x0a x0n x0c x1 x2 x6 h_6  K))
theorem F145_r12 : R145 [1, 1, 0, 0, 0, 0, 0] 3 (upd (upd e 8 (sI x8)) 1 (sI x1)) V0 hp K =
    (K (upd (upd (upd (upd (upd e 8 (sI x8)) 1 (sI x1)) 11 (sI x8)) 12 (sI x1)) 13 (sB (decide (x8 ≤ x1)))) V0 hp) := by kernel_rfl
theorem F145_r13 : R145 [1, 1, 0, 0, 0, 1, 0, 0] 5 (upd (upd (upd (upd e 8 (sI x8)) 7 (sI x7)) 2 (sV x2)) 0 (sS x0a x0n x0c)) V0 hp K =
    (CF Try.prog 169 [(.slice x0a x0n x0c), (.int .i64 x7), (.int .i64 x8), x2] hp fun u1 h2 => (K (upd (upd (upd (upd (upd (upd (upd (upd (upd e 8 (sI x8)) 7 (sI x7)) 2 (sV x2)) 0 (sS x0a x0n x0c)) 14 (sS x0a x0n x0c)) 15 (sI x7)) 16 (sI x8)) 17 (sV x2)) 18 (sV u1)) V0 h2)) := by kernel_rfl
theorem F145_r14 : R145 [1, 1, 0, 0, 0, 1, 0, 1, 0] 2 (upd e 8 (sI x8)) V0 hp K =
    (K (upd (upd (upd e 8 (sI x8)) 19 (sI x8)) 7 (sI x8)) V0 hp) := by kernel_rfl
theorem F145_r15 : R145 [1, 1, 0, 0, 0, 1, 0, 1, 1] 4 (upd (upd e 8 (sI x8)) 6 (sI x6)) V0 hp K =
    (K (upd (upd (upd (upd (upd (upd e 8 (sI x8)) 6 (sI x6)) 20 (sI x8)) 21 (sI x6)) 22 (sI ((wr (x8 + x6))))) 8 (sI ((wr (x8 + x6))))) V0 hp) := by kernel_rfl
def F145_l9 (x0a : Option Addr) (x0n : Nat) (x0c : Nat) (x1 : Int) (x2 : Value) (x6 : Int) (K : Value → HP → Prop) (I9 : (Int × Int) → HP → Prop) (x7 : Int) (x8 : Int) (hp : HP) : Prop :=
  (ite2 (decide (x8 ≤ x1)) (CF Try.prog 169 [(.slice x0a x0n x0c), (.int .i64 x7), (.int .i64 x8), x2] hp fun u_7 h_8 => (I9 (x8, (IntKind.wrap .i64 (x8 + x6))) h_8)) (F145_j2 x0a x0n x0c x1 x2 x6 x7 hp  K))
def F145_j1 (x0a : Option Addr) (x0n : Nat) (x0c : Nat) (x1 : Int) (x2 : Value) (x6 : Int) (x7 : Int) (x8 : Int) (hp : HP) (K : Value → HP → Prop) : Prop :=
  (LoopP (σ := Int × Int) (fun I s hp => F145_l9 x0a x0n x0c x1 x2 x6  K I s.1 s.2 hp) (x7, x8) hp)
theorem F145_r16 : R145 [1, 0] 3 (upd e 6 (sI x6)) V0 hp K =
    (K (upd (upd (upd (upd e 6 (sI x6)) 10 (sI x6)) 7 (sI 0)) 8 (sI x6)) V0 hp) := by kernel_rfl
def F145 (x0a : Option Addr) (x0n : Nat) (x0c : Nat) (x1 : Int) (x2 : Value) (hp : HP) (K : Value → HP → Prop) : Prop :=
  (F145_j1 x0a x0n x0c x1 x2 20 0 20 hp  K)
noncomputable def F145_code : Code := (.seq (.region 0 (opsAt Try.f145 [0]) false) (.seq (.region 1 (opsAt Try.f145 [1, 0]) false) (.seq (.block 0 (.loop (.seq (.seq (.region 2 (opsAt Try.f145 [1, 1, 0, 0, 0, 0, 0]) false) (.cond (.tmp 13) .skip (.exit 0))) (.block 1 (.seq (.region 3 (opsAt Try.f145 [1, 1, 0, 0, 0, 1, 0, 0]) false) (.seq (.region 4 (opsAt Try.f145 [1, 1, 0, 0, 0, 1, 0, 1, 0]) false) (.region 5 (opsAt Try.f145 [1, 1, 0, 0, 0, 1, 0, 1, 1]) false))))))) (.seq (.region 6 (opsAt Try.f145 [1, 1, 1, 0]) false) (.block 2 (.loop (.seq (.seq (.region 7 (opsAt Try.f145 [1, 1, 1, 1, 0, 0, 0, 0]) false) (.cond (.tmp 30) .skip (.exit 2))) (.block 3 (.seq (.region 8 (opsAt Try.f145 [1, 1, 1, 1, 0, 0, 1, 0, 0]) false) (.seq (.block 4 (.loop (.seq (.seq (.region 9 (opsAt Try.f145 [1, 1, 1, 1, 0, 0, 1, 0, 1, 0, 0, 0, 0, 0]) false) (.cond (.tmp 35) .skip (.exit 4))) (.block 5 (.seq (.region 10 (opsAt Try.f145 [1, 1, 1, 1, 0, 0, 1, 0, 1, 0, 0, 0, 1, 0, 0]) false) (.seq (.region 11 (opsAt Try.f145 [1, 1, 1, 1, 0, 0, 1, 0, 1, 0, 0, 0, 1, 0, 1, 0]) false) (.region 12 (opsAt Try.f145 [1, 1, 1, 1, 0, 0, 1, 0, 1, 0, 0, 0, 1, 0, 1, 1]) false))))))) (.seq (.seq (.region 13 (opsAt Try.f145 [1, 1, 1, 1, 0, 0, 1, 0, 1, 1, 0, 0]) false) (.seq (.region 14 (opsAt Try.f145 [1, 1, 1, 1, 0, 0, 1, 0, 1, 1, 0, 1, 0]) false) (.cond (.tmp 54) (.region 15 (opsAt Try.f145 [1, 1, 1, 1, 0, 0, 1, 0, 1, 1, 0, 1, 1, 0]) false) .skip))) (.region 16 (opsAt Try.f145 [1, 1, 1, 1, 0, 0, 1, 0, 1, 1, 1]) false))))))))))))
theorem F145_body : Try.f145.body = some F145_code := by kernel_rfl
theorem F145_ok (x0a : Option Addr) (x0n : Nat) (x0c : Nat) (x1 : Int) (x2 : Value) (hp : HP) (K : Value → HP → Prop) (h : F145 x0a x0n x0c x1 x2 hp K) : CF Try.prog 145 [(.slice x0a x0n x0c), (.int .i64 x1), x2] hp K := by
 refine .inl ⟨by kernel_rfl, AC.intro (N := 63) Try.func145 F145_body rfl (Nat.le_of_ble_eq_true rfl) ?_⟩
 unfold F145 at h
 unfold F145_code
 refine AWP.seq' ?_
 refine AWP.rgn (F145_r0 (upd (upd (upd E0 2 (sV x2)) 1 (sI x1)) 0 (sS x0a x0n x0c))  hp _) ?_ (Ru 0 (Ru 1 (Ru 2 Rn))) (Sc rfl (Sc rfl (Sc rfl Sn))) Sn
 refine AWP.seq (fun env pv hp => ∃ (x0a : Option Addr) (x0n : Nat) (x0c : Nat) (x1 : Int) (x2 : Value) (x6 : Int) (x7 : Int) (x8 : Int), Sub (upd (upd (upd (upd (upd (upd E0 8 (sI x8)) 7 (sI x7)) 6 (sI x6)) 2 (sV x2)) 1 (sI x1)) 0 (sS x0a x0n x0c)) env ∧ Sub V0 pv ∧ (F145_j1 x0a x0n x0c x1 x2 x6 x7 x8 hp  K)) ?_ ?_
 ·refine AWP.rgn (F145_r16 (upd (upd (upd E0 2 (sV x2)) 1 (sI x1)) 0 (sS x0a x0n x0c)) 20 hp _) ?_ (Ru 6 (Ru 0 (Ru 1 (Ru 2 Rn)))) (Sc rfl (Sc rfl (Sc rfl (Sc rfl Sn)))) Sn
  exact ⟨x0a, x0n, x0c, x1, x2, 20, 0, 20, (Sc rfl (Sc rfl (Sc rfl (Sc rfl (Sc rfl (Sc rfl Sn)))))), Sn, h⟩
 ·rintro env pv hp ⟨x0a, x0n, x0c, x1, x2, x6, x7, x8, he, hv, h⟩
  refine AWP.sub (env' := (upd (upd (upd (upd (upd (upd E0 8 (sI x8)) 7 (sI x7)) 6 (sI x6)) 2 (sV x2)) 1 (sI x1)) 0 (sS x0a x0n x0c))) (pv' := V0) ?_ (Ru 0 (Ru 1 (Ru 2 (Ru 6 (Ru 7 (Ru 8 Rn)))))) he hv (HSub.refl _)
  clear he hv
  unfold F145_j1 at h
  refine AWP.seq (fun env pv hp => ∃ (x0a : Option Addr) (x0n : Nat) (x0c : Nat) (x1 : Int) (x2 : Value) (x6 : Int) (x7 : Int), Sub (upd (upd (upd (upd (upd E0 7 (sI x7)) 6 (sI x6)) 2 (sV x2)) 1 (sI x1)) 0 (sS x0a x0n x0c)) env ∧ Sub V0 pv ∧ (F145_j2 x0a x0n x0c x1 x2 x6 x7 hp  K)) ?_ ?_
  ·refine AWP.block ?_
   refine AWP.loop (σ := Int × Int) (fun I s hp => F145_l9 x0a x0n x0c x1 x2 x6  K I s.1 s.2 hp) (fun s => (upd (upd (upd (upd (upd (upd E0 8 (sI (s.2))) 7 (sI (s.1))) 6 (sI x6)) 2 (sV x2)) 1 (sI x1)) 0 (sS x0a x0n x0c))) (fun s => V0) (x7, x8) h (fun s => (Ru 0 (Ru 1 (Ru 2 (Ru 6 (Ru 7 (Ru 8 Rn))))))) (Sc rfl (Sc rfl (Sc rfl (Sc rfl (Sc rfl (Sc rfl Sn)))))) Sn ?_
   intro I9 s hp h
   obtain ⟨x7, x8⟩ := s
   replace h : F145_l9 x0a x0n x0c x1 x2 x6  K I9 x7 x8 hp := h
   unfold F145_l9 at h
   refine AWP.seq' ?_
   refine AWP.seq' ?_
   refine AWP.rgn (F145_r12 (upd (upd (upd (upd E0 7 (sI x7)) 6 (sI x6)) 2 (sV x2)) 0 (sS x0a x0n x0c)) x1 x8 hp _) ?_ (Ru 1 (Ru 8 (Ru 0 (Ru 2 (Ru 6 (Ru 7 Rn)))))) (Sc rfl (Sc rfl (Sc rfl (Sc rfl (Sc rfl (Sc rfl Sn)))))) Sn
   refine AWP.cond (t := (decide (x8 ≤ x1))) rfl (fun e => ?_) (fun e => ?_)
   ·replace h := ite2_t h e
    refine AWP.skip ?_
    refine AWP.block ?_
    refine AWP.seq' ?_
    refine AWP.rgn (F145_r13 (upd (upd E0 6 (sI x6)) 1 (sI x1)) x0a x0n x0c x2 x7 x8 hp _) ?_ (Ru 0 (Ru 2 (Ru 7 (Ru 8 (Ru 1 (Ru 6 Rn)))))) (Sc rfl (Sc rfl (Sc rfl (Sc rfl (Sc rfl (Sc rfl Sn)))))) Sn
    refine mC h fun u_7 h_8 h => ?_
    refine AWP.seq' ?_
    refine AWP.rgn (F145_r14 (upd (upd (upd (upd E0 6 (sI x6)) 2 (sV x2)) 1 (sI x1)) 0 (sS x0a x0n x0c)) x8 h_8 _) ?_ (Ru 8 (Ru 0 (Ru 1 (Ru 2 (Ru 6 Rn))))) (Sc rfl (Sc rfl (Sc rfl (Sc rfl (Sc rfl Sn))))) Sn
    refine AWP.rgn (F145_r15 (upd (upd (upd (upd E0 7 (sI x8)) 2 (sV x2)) 1 (sI x1)) 0 (sS x0a x0n x0c)) x6 x8 h_8 _) ?_ (Ru 6 (Ru 8 (Ru 0 (Ru 1 (Ru 2 (Ru 7 Rn)))))) (Sc rfl (Sc rfl (Sc rfl (Sc rfl (Sc rfl (Sc rfl Sn)))))) Sn
    exact ⟨(x8, (wr (x8 + x6))), (Sc rfl (Sc rfl (Sc rfl (Sc rfl (Sc rfl (Sc rfl Sn)))))), Sn, h⟩
   ·replace h := ite2_f h e
    refine AWP.exit ?_
    exact ⟨x0a, x0n, x0c, x1, x2, x6, x7, (Sc rfl (Sc rfl (Sc rfl (Sc rfl (Sc rfl Sn))))), Sn, h⟩
  ·rintro env pv hp ⟨x0a, x0n, x0c, x1, x2, x6, x7, he, hv, h⟩
   refine AWP.sub (env' := (upd (upd (upd (upd (upd E0 7 (sI x7)) 6 (sI x6)) 2 (sV x2)) 1 (sI x1)) 0 (sS x0a x0n x0c))) (pv' := V0) ?_ (Ru 0 (Ru 1 (Ru 2 (Ru 6 (Ru 7 Rn))))) he hv (HSub.refl _)
   clear he hv
   unfold F145_j2 at h
   refine AWP.seq (fun env pv hp => ∃ (x0a : Option Addr) (x0n : Nat) (x0c : Nat) (x1 : Int) (x2 : Value) (x6 : Int), Sub (upd (upd (upd (upd E0 6 (sI x6)) 2 (sV x2)) 1 (sI x1)) 0 (sS x0a x0n x0c)) env ∧ Sub V0 pv ∧ (F145_j3 x0a x0n x0c x1 x2 x6 hp  K)) ?_ ?_
   ·refine AWP.rgn (F145_r11 (upd E0 6 (sI x6)) x0a x0n x0c x1 x2 x7 hp _) ?_ (Ru 0 (Ru 1 (Ru 2 (Ru 7 (Ru 6 Rn))))) (Sc rfl (Sc rfl (Sc rfl (Sc rfl (Sc rfl Sn))))) Sn
    refine mC h fun u_5 h_6 h => ?_
    exact ⟨x0a, x0n, x0c, x1, x2, x6, (Sc rfl (Sc rfl (Sc rfl (Sc rfl Sn)))), Sn, h⟩
   ·rintro env pv hp ⟨x0a, x0n, x0c, x1, x2, x6, he, hv, h⟩
    refine AWP.sub (env' := (upd (upd (upd (upd E0 6 (sI x6)) 2 (sV x2)) 1 (sI x1)) 0 (sS x0a x0n x0c))) (pv' := V0) ?_ (Ru 0 (Ru 1 (Ru 2 (Ru 6 Rn)))) he hv (HSub.refl _)
    clear he hv
    unfold F145_j3 at h
    refine AWP.block ?_
    refine AWP.loop (σ := Int) (fun I s hp => F145_l4 x0a x0n x0c x1 x2  K I s hp) (fun s => (upd (upd (upd (upd E0 6 (sI s)) 2 (sV x2)) 1 (sI x1)) 0 (sS x0a x0n x0c))) (fun s => V0) x6 h (fun s => (Ru 0 (Ru 1 (Ru 2 (Ru 6 Rn))))) (Sc rfl (Sc rfl (Sc rfl (Sc rfl Sn)))) Sn ?_
    intro I4 s hp h
    obtain ⟨x6, hs⟩ : ∃ x, x = s := ⟨s, rfl⟩
    subst hs
    replace h : F145_l4 x0a x0n x0c x1 x2  K I4 x6 hp := h
    unfold F145_l4 at h
    refine AWP.seq' ?_
    refine AWP.seq' ?_
    refine AWP.rgn (F145_r1 (upd (upd E0 2 (sV x2)) 0 (sS x0a x0n x0c)) x1 x6 hp _) ?_ (Ru 1 (Ru 6 (Ru 0 (Ru 2 Rn)))) (Sc rfl (Sc rfl (Sc rfl (Sc rfl Sn)))) Sn
    refine AWP.cond (t := (decide (x6 < x1))) rfl (fun e => ?_) (fun e => ?_)
    ·replace h := ite2_t h e
     refine AWP.skip ?_
     refine AWP.block ?_
     refine AWP.seq (fun env pv hp => ∃ (x6 : Int) (x7 : Int) (x8 : Int), Sub (upd (upd (upd (upd (upd (upd E0 8 (sI x8)) 7 (sI x7)) 6 (sI x6)) 2 (sV x2)) 1 (sI x1)) 0 (sS x0a x0n x0c)) env ∧ Sub V0 pv ∧ (F145_j5 x0a x0n x0c x1 x2 x6 x7 x8 hp I4 K)) ?_ ?_
     ·refine AWP.rgn (F145_r10 (upd (upd (upd E0 2 (sV x2)) 1 (sI x1)) 0 (sS x0a x0n x0c)) x6 hp _) ?_ (Ru 6 (Ru 0 (Ru 1 (Ru 2 Rn)))) (Sc rfl (Sc rfl (Sc rfl (Sc rfl Sn)))) Sn
      exact ⟨x6, 0, (wr (2 * x6)), (Sc rfl (Sc rfl (Sc rfl (Sc rfl (Sc rfl (Sc rfl Sn)))))), Sn, h⟩
     ·rintro env pv hp ⟨x6, x7, x8, he, hv, h⟩
      refine AWP.sub (env' := (upd (upd (upd (upd (upd (upd E0 8 (sI x8)) 7 (sI x7)) 6 (sI x6)) 2 (sV x2)) 1 (sI x1)) 0 (sS x0a x0n x0c))) (pv' := V0) ?_ (Ru 0 (Ru 1 (Ru 2 (Ru 6 (Ru 7 (Ru 8 Rn)))))) he hv (HSub.refl _)
      clear he hv
      unfold F145_j5 at h
      refine AWP.seq (fun env pv hp => ∃ (x6 : Int) (x7 : Int), Sub (upd (upd (upd (upd (upd E0 7 (sI x7)) 6 (sI x6)) 2 (sV x2)) 1 (sI x1)) 0 (sS x0a x0n x0c)) env ∧ Sub V0 pv ∧ (F145_j6 x0a x0n x0c x1 x2 x6 x7 hp I4 K)) ?_ ?_
      ·refine AWP.block ?_
       refine AWP.loop (σ := Int × Int) (fun I s hp => F145_l8 x0a x0n x0c x1 x2 x6 I4 K I s.1 s.2 hp) (fun s => (upd (upd (upd (upd (upd (upd E0 8 (sI (s.2))) 7 (sI (s.1))) 6 (sI x6)) 2 (sV x2)) 1 (sI x1)) 0 (sS x0a x0n x0c))) (fun s => V0) (x7, x8) h (fun s => (Ru 0 (Ru 1 (Ru 2 (Ru 6 (Ru 7 (Ru 8 Rn))))))) (Sc rfl (Sc rfl (Sc rfl (Sc rfl (Sc rfl (Sc rfl Sn)))))) Sn ?_
       intro I8 s hp h
       obtain ⟨x7, x8⟩ := s
       replace h : F145_l8 x0a x0n x0c x1 x2 x6 I4 K I8 x7 x8 hp := h
       unfold F145_l8 at h
       refine AWP.seq' ?_
       refine AWP.seq' ?_
       refine AWP.rgn (F145_r6 (upd (upd (upd (upd E0 7 (sI x7)) 6 (sI x6)) 2 (sV x2)) 0 (sS x0a x0n x0c)) x1 x8 hp _) ?_ (Ru 1 (Ru 8 (Ru 0 (Ru 2 (Ru 6 (Ru 7 Rn)))))) (Sc rfl (Sc rfl (Sc rfl (Sc rfl (Sc rfl (Sc rfl Sn)))))) Sn
       refine AWP.cond (t := (decide (x8 ≤ x1))) rfl (fun e => ?_) (fun e => ?_)
       ·replace h := ite2_t h e
        refine AWP.skip ?_
        refine AWP.block ?_
        refine AWP.seq' ?_
        refine AWP.rgn (F145_r7 (upd E0 1 (sI x1)) x0a x0n x0c x2 x6 x7 x8 hp _) ?_ (Ru 0 (Ru 2 (Ru 6 (Ru 7 (Ru 8 (Ru 1 Rn)))))) (Sc rfl (Sc rfl (Sc rfl (Sc rfl (Sc rfl (Sc rfl Sn)))))) Sn
        refine mC h fun u_3 h_4 h => ?_
        refine AWP.seq' ?_
        refine AWP.rgn (F145_r8 (upd (upd (upd (upd E0 6 (sI x6)) 2 (sV x2)) 1 (sI x1)) 0 (sS x0a x0n x0c)) x8 h_4 _) ?_ (Ru 8 (Ru 0 (Ru 1 (Ru 2 (Ru 6 Rn))))) (Sc rfl (Sc rfl (Sc rfl (Sc rfl (Sc rfl Sn))))) Sn
        refine AWP.rgn (F145_r9 (upd (upd (upd (upd E0 7 (sI x8)) 2 (sV x2)) 1 (sI x1)) 0 (sS x0a x0n x0c)) x6 x8 h_4 _) ?_ (Ru 6 (Ru 8 (Ru 0 (Ru 1 (Ru 2 (Ru 7 Rn)))))) (Sc rfl (Sc rfl (Sc rfl (Sc rfl (Sc rfl (Sc rfl Sn)))))) Sn
        exact ⟨(x8, (wr (x8 + (wr (2 * x6))))), (Sc rfl (Sc rfl (Sc rfl (Sc rfl (Sc rfl (Sc rfl Sn)))))), Sn, h⟩
       ·replace h := ite2_f h e
        refine AWP.exit ?_
        exact ⟨x6, x7, (Sc rfl (Sc rfl (Sc rfl (Sc rfl (Sc rfl Sn))))), Sn, h⟩
      ·rintro env pv hp ⟨x6, x7, he, hv, h⟩
       refine AWP.sub (env' := (upd (upd (upd (upd (upd E0 7 (sI x7)) 6 (sI x6)) 2 (sV x2)) 1 (sI x1)) 0 (sS x0a x0n x0c))) (pv' := V0) ?_ (Ru 0 (Ru 1 (Ru 2 (Ru 6 (Ru 7 Rn))))) he hv (HSub.refl _)
       clear he hv
       unfold F145_j6 at h
       refine AWP.seq (fun env pv hp => ∃ (x6 : Int), Sub (upd (upd (upd (upd E0 6 (sI x6)) 2 (sV x2)) 1 (sI x1)) 0 (sS x0a x0n x0c)) env ∧ Sub V0 pv ∧ (F145_j7 x0a x0n x0c x1 x2 x6 hp I4 K)) ?_ ?_
       ·refine AWP.seq' ?_
        refine AWP.rgn (F145_r3 (upd (upd (upd E0 2 (sV x2)) 1 (sI x1)) 0 (sS x0a x0n x0c)) x6 x7 hp _) ?_ (Ru 6 (Ru 7 (Ru 0 (Ru 1 (Ru 2 Rn))))) (Sc rfl (Sc rfl (Sc rfl (Sc rfl (Sc rfl Sn))))) Sn
        refine AWP.seq' ?_
        refine AWP.rgn (F145_r4 (upd (upd (upd (upd E0 7 (sI x7)) 6 (sI x6)) 2 (sV x2)) 0 (sS x0a x0n x0c)) x1 (wr (x7 + x6)) hp _) ?_ (Ru 1 (Ru 9 (Ru 0 (Ru 2 (Ru 6 (Ru 7 Rn)))))) (Sc rfl (Sc rfl (Sc rfl (Sc rfl (Sc rfl (Sc rfl Sn)))))) Sn
        refine AWP.cond (t := (decide (((wr (x7 + x6)) : Int) < x1))) rfl (fun e => ?_) (fun e => ?_)
        ·replace h := ite2_t h e
         refine AWP.rgn (F145_r5 (upd E0 6 (sI x6)) x0a x0n x0c x1 x2 x7 (wr (x7 + x6)) hp _) ?_ (Ru 0 (Ru 1 (Ru 2 (Ru 7 (Ru 9 (Ru 6 Rn)))))) (Sc rfl (Sc rfl (Sc rfl (Sc rfl (Sc rfl (Sc rfl Sn)))))) Sn
         refine mC h fun u_1 h_2 h => ?_
         exact ⟨x6, (Sc rfl (Sc rfl (Sc rfl (Sc rfl Sn)))), Sn, h⟩
        ·replace h := ite2_f h e
         refine AWP.skip ?_
         exact ⟨x6, (Sc rfl (Sc rfl (Sc rfl (Sc rfl Sn)))), Sn, h⟩
       ·rintro env pv hp ⟨x6, he, hv, h⟩
        refine AWP.sub (env' := (upd (upd (upd (upd E0 6 (sI x6)) 2 (sV x2)) 1 (sI x1)) 0 (sS x0a x0n x0c))) (pv' := V0) ?_ (Ru 0 (Ru 1 (Ru 2 (Ru 6 Rn)))) he hv (HSub.refl _)
        clear he hv
        unfold F145_j7 at h
        refine AWP.rgn (F145_r2 (upd (upd (upd E0 2 (sV x2)) 1 (sI x1)) 0 (sS x0a x0n x0c)) x6 hp _) ?_ (Ru 6 (Ru 0 (Ru 1 (Ru 2 Rn)))) (Sc rfl (Sc rfl (Sc rfl (Sc rfl Sn)))) Sn
        exact ⟨(wr (x6 * 2)), (Sc rfl (Sc rfl (Sc rfl (Sc rfl Sn)))), Sn, h⟩
    ·replace h := ite2_f h e
     refine AWP.exit ?_
     exact h
end
-- 169 slices.insertionSortCmpFunc[interpreter/frag.Piece]
section
variable (e : Env) (x0a : Option Addr) (x0n x0c : Nat) (x1 x2 : Int) (x3 : Value) (x8 x9 : Int) (hp : HP) (K : Env → PV → HP → Prop)
abbrev R169 (p : List Nat) (n : Nat) := RW Try.prog 53 [] (opsAt Try.f169 p) (List.range n)
theorem F169_r0 : R169 [1, 0, 0, 0, 0] 3 (upd (upd e 8 (sI x8)) 2 (sI x2)) V0 hp K =
    (K (upd (upd (upd (upd (upd e 8 (sI x8)) 2 (sI x2)) 12 (sI x8)) 13 (sI x2)) 14 (sB (decide (x8 < x2)))) V0 hp) := by kernel_rfl
theorem F169_r1 : R169 [1, 0, 0, 1, 1] 3 (upd e 8 (sI x8)) V0 hp K =
    (K (upd (upd (upd (upd e 8 (sI x8)) 15 (sI x8)) 16 (sI ((wr (x8 + 1))))) 8 (sI ((wr (x8 + 1))))) V0 hp) := by kernel_rfl
def F169_j3 (x0a : Option Addr) (x0n : Nat) (x0c : Nat) (x1 : Int) (x2 : Int) (x3 : Value) (x8 : Int) (hp : HP) (I2 : (Int) → HP → Prop) (K : Value → HP → Prop) : Prop :=
  (I2 (IntKind.wrap .i64 (x8 + 1)) hp)
theorem F169_r2 : R169 [1, 0, 0, 1, 0, 0, 1, 0, 0, 1, 0, 0] 18 (upd (upd e 9 (sI x9)) 0 (sS x0a x0n x0c)) V0 hp K =
    ((0 ≤ ((wr (x9 - 1)) : Int)) ∧ (((wr (x9 - 1)) : Int) < x0n) ∧ (ptrN x0a fun b1 o2 => (ldL (HP.cellN hp b1 (o2 + Int.toNat (wr (x9 - 1)) * 6) 6) fun l3 => ((0 ≤ x9) ∧ (x9 < x0n) ∧ (ptrN x0a fun b4 o5 => (ldL (HP.cellN hp b4 (o5 + Int.toNat x9 * 6) 6) fun l6 => ((0 ≤ x9) ∧ (x9 < x0n) ∧ (ptrN x0a fun b7 o8 => ((List.length l3 = 6) ∧ (HP.stN hp b7 (o8 + Int.toNat x9 * 6) l3 fun h9 => ((0 ≤ ((wr (x9 - 1)) : Int)) ∧ (((wr (x9 - 1)) : Int) < x0n) ∧ (ptrN x0a fun b10 o11 => ((List.length l6 = 6) ∧ (HP.stN h9 b10 (o11 + Int.toNat (wr (x9 - 1)) * 6) l6 fun h12 => (K (upd (upd (upd (upd (upd (upd (upd (upd (upd (upd (upd (upd (upd (upd (upd (upd (upd (upd e 9 (sI x9)) 0 (sS x0a x0n x0c)) 37 (sS x0a x0n x0c)) 38 (sI x9)) 39 (sS x0a x0n x0c)) 40 (sI x9)) 41 (sI ((wr (x9 - 1))))) 42 (sS x0a x0n x0c)) 43 (sI x9)) 44 (sI ((wr (x9 - 1))))) 45 (sV (ptr b1 (o2 + Int.toNat (wr (x9 - 1)) * 6)))) 46 (sA l3)) 47 (sS x0a x0n x0c)) 48 (sI x9)) 49 (sQ b4 (o5 + Int.toNat x9 * 6))) 50 (sA l6)) 51 (sQ b7 (o8 + Int.toNat x9 * 6))) 52 (sV (ptr b10 (o11 + Int.toNat (wr (x9 - 1)) * 6)))) V0 h12))))))))))))))) := by kernel_rfl
theorem F169_r3 : R169 [1, 0, 0, 1, 0, 0, 1, 0, 0, 1, 1] 3 (upd e 9 (sI x9)) V0 hp K =
    (K (upd (upd (upd (upd e 9 (sI x9)) 35 (sI x9)) 36 (sI ((wr (x9 - 1))))) 9 (sI ((wr (x9 - 1))))) V0 hp) := by kernel_rfl
def F169_j6 (x0a : Option Addr) (x0n : Nat) (x0c : Nat) (x1 : Int) (x2 : Int) (x3 : Value) (x8 : Int) (x9 : Int) (x34 : Bool) (hp : HP) (I2 : (Int) → HP → Prop) (I5 : (Int) → HP → Prop) (K : Value → HP → Prop) : Prop :=
  (ite2 x34 ((0 ≤ ((IntKind.wrap .i64 (x9 - 1)) : Int)) ∧ (((IntKind.wrap .i64 (x9 - 1)) : Int) < x0n) ∧ (ptrN x0a fun b_1 o_2 => (ldL (HP.cellN hp b_1 (o_2 + Int.toNat (IntKind.wrap .i64 (x9 - 1)) * 6) 6) fun l_3 => ((0 ≤ x9) ∧ (x9 < x0n) ∧ (ptrN x0a fun b_4 o_5 => (ldL (HP.cellN hp b_4 (o_5 + Int.toNat x9 * 6) 6) fun l_6 => ((0 ≤ x9) ∧ (x9 < x0n) ∧ (ptrN x0a fun b_7 o_8 => ((List.length l_3 = 6) ∧ (HP.stN hp b_7 (o_8 + Int.toNat x9 * 6) l_3 fun h_9 => ((0 ≤ ((IntKind.wrap .i64 (x9 - 1)) : Int)) ∧ (((IntKind.wrap .i64 (x9 - 1)) : Int) < x0n) ∧ (ptrN x0a fun b_10 o_11 => ((List.length l_6 = 6) ∧ (HP.stN h_9 b_10 (o_11 + Int.toNat (IntKind.wrap .i64 (x9 - 1)) * 6) l_6 fun h_12 => (I5 (IntKind.wrap .i64 (x9 - 1)) h_12))))))))))))))) (F169_j3 x0a x0n x0c x1 x2 x3 x8 hp I2 K))
theorem F169_r4 : R169 [1, 0, 0, 1, 0, 0, 1, 0, 0, 0, 0] 17 (upd (upd (upd (upd e 9 (sI x9)) 3 (sV x3)) 1 (sI x1)) 0 (sS x0a x0n x0c)) V0 hp K =
    (ite2 (decide (x9 > x1)) ((0 ≤ x9) ∧ (x9 < x0n) ∧ (ptrN x0a fun b1 o2 => (ldL (HP.cellN hp b1 (o2 + Int.toNat x9 * 6) 6) fun l3 => ((0 ≤ ((wr (x9 - 1)) : Int)) ∧ (((wr (x9 - 1)) : Int) < x0n) ∧ (ptrN x0a fun b4 o5 => (ldL (HP.cellN hp b4 (o5 + Int.toNat (wr (x9 - 1)) * 6) 6) fun l6 => (fnV x3 fun f7 ga8 gb9 => (CF Try.prog f7 (ga8 ++ [(Value.agg ⟨l3⟩), (.agg ⟨l6⟩)] ++ gb9) hp fun u10 h11 => (intV u10 .i64 fun i12 => (K (upd (upd (upd (upd (upd (upd (upd (upd (upd (upd (upd (upd (upd (upd (upd (upd (upd (upd (upd (upd (upd e 9 (sI x9)) 3 (sV x3)) 1 (sI x1)) 0 (sS x0a x0n x0c)) 18 (sI x9)) 19 (sI x1)) 20 (sB (decide (x9 > x1)))) 21 (sB true)) 22 (sV x3)) 23 (sS x0a x0n x0c)) 24 (sI x9)) 25 (sQ b1 (o2 + Int.toNat x9 * 6))) 26 (sA l3)) 27 (sS x0a x0n x0c)) 28 (sI x9)) 29 (sI ((wr (x9 - 1))))) 30 (sV (ptr b4 (o5 + Int.toNat (wr (x9 - 1)) * 6)))) 31 (sA l6)) 32 (sI i12)) 33 (sB (decide (i12 < 0)))) 34 (sB (decide (i12 < 0)))) V0 h11)))))))))) (K (upd (upd (upd (upd (upd (upd (upd (upd (upd (upd (upd (upd (upd (upd (upd (upd (upd (upd (upd (upd (upd e 9 (sI x9)) 3 (sV x3)) 1 (sI x1)) 0 (sS x0a x0n x0c)) 18 (sI x9)) 19 (sI x1)) 20 (sB (decide (x9 > x1)))) 21 (sB false)) 22 sU) 23 sU) 24 sU) 25 sU) 26 sU) 27 sU) 28 sU) 29 sU) 30 sU) 31 sU) 32 sU) 33 sU) 34 (sB false)) V0 hp)) := by kernel_rfl
def F169_l5 (x0a : Option Addr) (x0n : Nat) (x0c : Nat) (x1 : Int) (x2 : Int) (x3 : Value) (x8 : Int) (I2 : (Int) → HP → Prop) (K : Value → HP → Prop) (I5 : (Int) → HP → Prop) (x9 : Int) (hp : HP) : Prop :=
  (ite2 (decide (x9 > x1)) ((0 ≤ x9) ∧ (x9 < x0n) ∧ (ptrN x0a fun b_13 o_14 => (ldL (HP.cellN hp b_13 (o_14 + Int.toNat x9 * 6) 6) fun l_15 => ((0 ≤ ((IntKind.wrap .i64 (x9 - 1)) : Int)) ∧ (((IntKind.wrap .i64 (x9 - 1)) : Int) < x0n) ∧ (ptrN x0a fun b_16 o_17 => (ldL (HP.cellN hp b_16 (o_17 + Int.toNat (IntKind.wrap .i64 (x9 - 1)) * 6) 6) fun l_18 => (fnV x3 fun f_19 ga_20 gb_21 => (CF Try.prog f_19 (ga_20 ++ [(Value.agg ⟨l_15⟩), (.agg ⟨l_18⟩)] ++ gb_21) hp fun u_22 h_23 => (intV u_22 .i64 fun i_24 => (F169_j6 x0a x0n x0c x1 x2 x3 x8 x9 (decide (i_24 < 0)) h_23 I2 I5 K)))))))))) (F169_j6 x0a x0n x0c x1 x2 x3 x8 x9 false hp I2 I5 K))
def F169_j4 (x0a : Option Addr) (x0n : Nat) (x0c : Nat) (x1 : Int) (x2 : Int) (x3 : Value) (x8 : Int) (x9 : Int) (hp : HP) (I2 : (Int) → HP → Prop) (K : Value → HP → Prop) : Prop :=
  (LoopP (σ := Int) (fun I s hp => F169_l5 x0a x0n x0c x1 x2 x3 x8 I2 K I s hp) x9 hp)
theorem F169_r5 : R169 [1, 0, 0, 1, 0, 0, 0] 2 (upd e 8 (sI x8)) V0 hp K =
    (K (upd (upd (upd e 8 (sI x8)) 17 (sI x8)) 9 (sI x8)) V0 hp) := by kernel_rfl
def F169_l2 (x0a : Option Addr) (x0n : Nat) (x0c : Nat) (x1 : Int) (x2 : Int) (x3 : Value) (K : Value → HP → Prop) (I2 : (Int) → HP → Prop) (x8 : Int) (hp : HP) : Prop :=
  (ite2 (decide (x8 < x2)) (F169_j4 x0a x0n x0c x1 x2 x3 x8 x8 hp I2 K) (K (.tuple ⟨[]⟩) hp))
def F169_j1 (x0a : Option Addr) (x0n : Nat) (x0c : Nat) (x1 : Int) (x2 : Int) (x3 : Value) (x8 : Int) (hp : HP) (K : Value → HP → Prop) : Prop :=
  (LoopP (σ := Int) (fun I s hp => F169_l2 x0a x0n x0c x1 x2 x3  K I s hp) x8 hp)
theorem F169_r6 : R169 [0] 3 (upd e 1 (sI x1)) V0 hp K =
    (K (upd (upd (upd (upd e 1 (sI x1)) 10 (sI x1)) 11 (sI ((wr (x1 + 1))))) 8 (sI ((wr (x1 + 1))))) V0 hp) := by kernel_rfl
def F169 (x0a : Option Addr) (x0n : Nat) (x0c : Nat) (x1 : Int) (x2 : Int) (x3 : Value) (hp : HP) (K : Value → HP → Prop) : Prop :=
  (F169_j1 x0a x0n x0c x1 x2 x3 (IntKind.wrap .i64 (x1 + 1)) hp  K)
noncomputable def F169_code : Code := (.seq (.region 0 (opsAt Try.f169 [0]) false) (.block 0 (.loop (.seq (.seq (.region 1 (opsAt Try.f169 [1, 0, 0, 0, 0]) false) (.cond (.tmp 14) .skip (.exit 0))) (.seq (.block 1 (.seq (.region 3 (opsAt Try.f169 [1, 0, 0, 1, 0, 0, 0]) false) (.block 2 (.loop (.seq (.seq (.region 4 (opsAt Try.f169 [1, 0, 0, 1, 0, 0, 1, 0, 0, 0, 0]) true) (.cond (.tmp 34) .skip (.exit 2))) (.seq (.block 3 (.region 6 (opsAt Try.f169 [1, 0, 0, 1, 0, 0, 1, 0, 0, 1, 0, 0]) true)) (.region 5 (opsAt Try.f169 [1, 0, 0, 1, 0, 0, 1, 0, 0, 1, 1]) false))))))) (.region 2 (opsAt Try.f169 [1, 0, 0, 1, 1]) false))))))
theorem F169_body : Try.f169.body = some F169_code := by kernel_rfl
theorem F169_ok (x0a : Option Addr) (x0n : Nat) (x0c : Nat) (x1 : Int) (x2 : Int) (x3 : Value) (hp : HP) (K : Value → HP → Prop) (h : F169 x0a x0n x0c x1 x2 x3 hp K) : CF Try.prog 169 [(.slice x0a x0n x0c), (.int .i64 x1), (.int .i64 x2), x3] hp K := by
 refine .inl ⟨by kernel_rfl, AC.intro (N := 53) Try.func169 F169_body rfl (Nat.le_of_ble_eq_true rfl) ?_⟩
 unfold F169 at h
 unfold F169_code
 refine AWP.seq (fun env pv hp => ∃ (x0a : Option Addr) (x0n : Nat) (x0c : Nat) (x1 : Int) (x2 : Int) (x3 : Value) (x8 : Int), Sub (upd (upd (upd (upd (upd E0 8 (sI x8)) 3 (sV x3)) 2 (sI x2)) 1 (sI x1)) 0 (sS x0a x0n x0c)) env ∧ Sub V0 pv ∧ (F169_j1 x0a x0n x0c x1 x2 x3 x8 hp  K)) ?_ ?_
 ·refine AWP.rgn (F169_r6 (upd (upd (upd E0 3 (sV x3)) 2 (sI x2)) 0 (sS x0a x0n x0c)) x1 hp _) ?_ (Ru 1 (Ru 0 (Ru 2 (Ru 3 Rn)))) (Sc rfl (Sc rfl (Sc rfl (Sc rfl Sn)))) Sn
  exact ⟨x0a, x0n, x0c, x1, x2, x3, (wr (x1 + 1)), (Sc rfl (Sc rfl (Sc rfl (Sc rfl (Sc rfl Sn))))), Sn, h⟩
 ·rintro env pv hp ⟨x0a, x0n, x0c, x1, x2, x3, x8, he, hv, h⟩
  refine AWP.sub (env' := (upd (upd (upd (upd (upd E0 8 (sI x8)) 3 (sV x3)) 2 (sI x2)) 1 (sI x1)) 0 (sS x0a x0n x0c))) (pv' := V0) ?_ (Ru 0 (Ru 1 (Ru 2 (Ru 3 (Ru 8 Rn))))) he hv (HSub.refl _)
  clear he hv
  unfold F169_j1 at h
  refine AWP.block ?_
  refine AWP.loop (σ := Int) (fun I s hp => F169_l2 x0a x0n x0c x1 x2 x3  K I s hp) (fun s => (upd (upd (upd (upd (upd E0 8 (sI s)) 3 (sV x3)) 2 (sI x2)) 1 (sI x1)) 0 (sS x0a x0n x0c))) (fun s => V0) x8 h (fun s => (Ru 0 (Ru 1 (Ru 2 (Ru 3 (Ru 8 Rn)))))) (Sc rfl (Sc rfl (Sc rfl (Sc rfl (Sc rfl Sn))))) Sn ?_
  intro I2 s hp h
  obtain ⟨x8, hs⟩ : ∃ x, x = s := ⟨s, rfl⟩
  subst hs
  replace h : F169_l2 x0a x0n x0c x1 x2 x3  K I2 x8 hp := h
  unfold F169_l2 at h
  refine AWP.seq' ?_
  refine AWP.seq' ?_
  refine AWP.rgn (F169_r0 (upd (upd (upd E0 3 (sV x3)) 1 (sI x1)) 0 (sS x0a x0n x0c)) x2 x8 hp _) ?_ (Ru 2 (Ru 8 (Ru 0 (Ru 1 (Ru 3 Rn))))) (Sc rfl (Sc rfl (Sc rfl (Sc rfl (Sc rfl Sn))))) Sn
  refine AWP.cond (t := (decide (x8 < x2))) rfl (fun e => ?_) (fun e => ?_)
  ·replace h := ite2_t h e
   refine AWP.skip ?_
   refine AWP.seq (fun env pv hp => ∃ (x8 : Int), Sub (upd (upd (upd (upd (upd E0 8 (sI x8)) 3 (sV x3)) 2 (sI x2)) 1 (sI x1)) 0 (sS x0a x0n x0c)) env ∧ Sub V0 pv ∧ (F169_j3 x0a x0n x0c x1 x2 x3 x8 hp I2 K)) ?_ ?_
   ·refine AWP.block ?_
    refine AWP.seq (fun env pv hp => ∃ (x8 : Int) (x9 : Int), Sub (upd (upd (upd (upd (upd (upd E0 9 (sI x9)) 8 (sI x8)) 3 (sV x3)) 2 (sI x2)) 1 (sI x1)) 0 (sS x0a x0n x0c)) env ∧ Sub V0 pv ∧ (F169_j4 x0a x0n x0c x1 x2 x3 x8 x9 hp I2 K)) ?_ ?_
    ·refine AWP.rgn (F169_r5 (upd (upd (upd (upd E0 3 (sV x3)) 2 (sI x2)) 1 (sI x1)) 0 (sS x0a x0n x0c)) x8 hp _) ?_ (Ru 8 (Ru 0 (Ru 1 (Ru 2 (Ru 3 Rn))))) (Sc rfl (Sc rfl (Sc rfl (Sc rfl (Sc rfl Sn))))) Sn
     exact ⟨x8, x8, (Sc rfl (Sc rfl (Sc rfl (Sc rfl (Sc rfl (Sc rfl Sn)))))), Sn, h⟩
    ·rintro env pv hp ⟨x8, x9, he, hv, h⟩
     refine AWP.sub (env' := (upd (upd (upd (upd (upd (upd E0 9 (sI x9)) 8 (sI x8)) 3 (sV x3)) 2 (sI x2)) 1 (sI x1)) 0 (sS x0a x0n x0c))) (pv' := V0) ?_ (Ru 0 (Ru 1 (Ru 2 (Ru 3 (Ru 8 (Ru 9 Rn)))))) he hv (HSub.refl _)
     clear he hv
     unfold F169_j4 at h
     refine AWP.block ?_
     refine AWP.loop (σ := Int) (fun I s hp => F169_l5 x0a x0n x0c x1 x2 x3 x8 I2 K I s hp) (fun s => (upd (upd (upd (upd (upd (upd E0 9 (sI s)) 8 (sI x8)) 3 (sV x3)) 2 (sI x2)) 1 (sI x1)) 0 (sS x0a x0n x0c))) (fun s => V0) x9 h (fun s => (Ru 0 (Ru 1 (Ru 2 (Ru 3 (Ru 8 (Ru 9 Rn))))))) (Sc rfl (Sc rfl (Sc rfl (Sc rfl (Sc rfl (Sc rfl Sn)))))) Sn ?_
     intro I5 s hp h
     obtain ⟨x9, hs⟩ : ∃ x, x = s := ⟨s, rfl⟩
     subst hs
     replace h : F169_l5 x0a x0n x0c x1 x2 x3 x8 I2 K I5 x9 hp := h
     unfold F169_l5 at h
     refine AWP.seq' ?_
     refine AWP.seq (fun env pv hp => ∃ (x9 : Int) (x34 : Bool), Sub (upd (upd (upd (upd (upd (upd (upd E0 34 (sB x34)) 9 (sI x9)) 8 (sI x8)) 3 (sV x3)) 2 (sI x2)) 1 (sI x1)) 0 (sS x0a x0n x0c)) env ∧ Sub V0 pv ∧ (F169_j6 x0a x0n x0c x1 x2 x3 x8 x9 x34 hp I2 I5 K)) ?_ ?_
     ·refine AWP.rgnD (by kernel_rfl) (by kernel_rfl) (F169_r4 (upd (upd E0 8 (sI x8)) 2 (sI x2)) x0a x0n x0c x1 x3 x9 hp _) ?_ (Ru 0 (Ru 1 (Ru 3 (Ru 9 (Ru 2 (Ru 8 Rn)))))) (Sc rfl (Sc rfl (Sc rfl (Sc rfl (Sc rfl (Sc rfl Sn)))))) Sn
      refine mt h (fun h => ?_) (fun h => ?_)
      ·refine ⟨h.1, h.2.1, mN h.2.2 (fun b_13 o_14 h => mL h (fun l_15 h => ⟨h.1, h.2.1, mN h.2.2 fun b_16 o_17 h => mL h fun l_18 h => mF h fun f_19 ga_20 gb_21 h => mC h fun u_22 h_23 h => mI h fun i_24 h => ?_⟩))⟩
       exact ⟨x9, (decide (i_24 < 0)), (Sc rfl (Sc rfl (Sc rfl (Sc rfl (Sc rfl (Sc rfl (Sc rfl Sn))))))), Sn, h⟩
      ·exact ⟨x9, false, (Sc rfl (Sc rfl (Sc rfl (Sc rfl (Sc rfl (Sc rfl (Sc rfl Sn))))))), Sn, h⟩
     ·rintro env pv hp ⟨x9, x34, he, hv, h⟩
      refine AWP.sub (env' := (upd (upd (upd (upd (upd (upd (upd E0 34 (sB x34)) 9 (sI x9)) 8 (sI x8)) 3 (sV x3)) 2 (sI x2)) 1 (sI x1)) 0 (sS x0a x0n x0c))) (pv' := V0) ?_ (Ru 0 (Ru 1 (Ru 2 (Ru 3 (Ru 8 (Ru 9 (Ru 34 Rn))))))) he hv (HSub.refl _)
      clear he hv
      unfold F169_j6 at h
      refine AWP.cond (t := x34) rfl (fun e => ?_) (fun e => ?_)
      ·replace h := ite2_t h e
       refine AWP.skip ?_
       refine AWP.seq' ?_
       refine AWP.block ?_
       refine AWP.rgnD (by kernel_rfl) (by kernel_rfl) (F169_r2 (upd (upd (upd (upd E0 8 (sI x8)) 3 (sV x3)) 2 (sI x2)) 1 (sI x1)) x0a x0n x0c x9 hp _) ?_ (Ru 0 (Ru 9 (Ru 1 (Ru 2 (Ru 3 (Ru 8 Rn)))))) (Sc rfl (Sc rfl (Sc rfl (Sc rfl (Sc rfl (Sc rfl Sn)))))) Sn
       refine ⟨h.1, h.2.1, mN h.2.2 (fun b_1 o_2 h => mL h (fun l_3 h => ⟨h.1, h.2.1, mN h.2.2 (fun b_4 o_5 h => mL h (fun l_6 h => ⟨h.1, h.2.1, mN h.2.2 (fun b_7 o_8 h => ⟨h.1, mW h.2 (fun h_9 h => ⟨h.1, h.2.1, mN h.2.2 (fun b_10 o_11 h => ⟨h.1, mW h.2 fun h_12 h => ?_⟩)⟩)⟩)⟩))⟩))⟩
       refine AWP.rgn (F169_r3 (upd (upd (upd (upd (upd E0 8 (sI x8)) 3 (sV x3)) 2 (sI x2)) 1 (sI x1)) 0 (sS x0a x0n x0c)) x9 h_12 _) ?_ (Ru 9 (Ru 0 (Ru 1 (Ru 2 (Ru 3 (Ru 8 Rn)))))) (Sc rfl (Sc rfl (Sc rfl (Sc rfl (Sc rfl (Sc rfl Sn)))))) Sn
       exact ⟨(wr (x9 - 1)), (Sc rfl (Sc rfl (Sc rfl (Sc rfl (Sc rfl (Sc rfl Sn)))))), Sn, h⟩
      ·replace h := ite2_f h e
       refine AWP.exit ?_
       exact ⟨x8, (Sc rfl (Sc rfl (Sc rfl (Sc rfl (Sc rfl Sn))))), Sn, h⟩
   ·rintro env pv hp ⟨x8, he, hv, h⟩
    refine AWP.sub (env' := (upd (upd (upd (upd (upd E0 8 (sI x8)) 3 (sV x3)) 2 (sI x2)) 1 (sI x1)) 0 (sS x0a x0n x0c))) (pv' := V0) ?_ (Ru 0 (Ru 1 (Ru 2 (Ru 3 (Ru 8 Rn))))) he hv (HSub.refl _)
    clear he hv
    unfold F169_j3 at h
    refine AWP.rgn (F169_r1 (upd (upd (upd (upd E0 3 (sV x3)) 2 (sI x2)) 1 (sI x1)) 0 (sS x0a x0n x0c)) x8 hp _) ?_ (Ru 8 (Ru 0 (Ru 1 (Ru 2 (Ru 3 Rn))))) (Sc rfl (Sc rfl (Sc rfl (Sc rfl (Sc rfl Sn))))) Sn
    exact ⟨(wr (x8 + 1)), (Sc rfl (Sc rfl (Sc rfl (Sc rfl (Sc rfl Sn))))), Sn, h⟩
  ·replace h := ite2_f h e
   refine AWP.exit ?_
   exact h
end
end Go.Proofs

