/- Parts of the proof of OnceProof: the logic of what is known of memory, functions' contracts. -/
import Derived.Test.YtidoceleobdkmaaQOnceProofC
import Derived.Test.YtidoceleobdkmaaHlDec
import Derived.Test.YtidoceleobdkmaaHlAbb
import Derived.Test.YtidoceleobdkmaaProg
set_option linter.unusedVariables false
set_option maxRecDepth 20000
namespace Go.Proofs
open Go Go.HL
open Go.Exp (Th tlt swo_tlt Ord setW dropW insW takeWhile_two dropWhile_two)

theorem decI : ∀ (D : Nat) (cs : List Value), wellS Try.prog D 3 cs = true → ∃ x : Int, (-9223372036854775808 ≤ x ∧ x ≤ 9223372036854775807) ∧ cs = i1 x := fun D cs h => dec3 h
def okI (x : Int) : Prop := -9223372036854775808 ≤ x ∧ x ≤ 9223372036854775807

theorem row_frm {hl hp hl' hp' : HP} {s : Option Addr} {n c : Nat} {e : TypeId} {size : Nat} {xs : List Value} (hf : Frm hl hp hl' hp') (hrow : Row hp s n c e size xs) (hfr : ∀ b, s = some ⟨b, 0, none⟩ → hl b = .none) :
    Row hp' s n c e size xs ∧ ∀ b, s = some ⟨b, 0, none⟩ → hl' b = .none := by
  rcases hrow with ⟨r1, r2, r3, r4⟩ | ⟨b, r1, r2, r3, r4⟩
  · exact ⟨.inl ⟨r1, r2, r3, r4⟩, fun b e => by rw [r1] at e; cases e⟩
  · obtain ⟨f1, f2⟩ := hf (HP.only b _) (HSub.only r4) (Disj.only (hfr b r1))
    exact ⟨.inr ⟨b, r1, r2, r3, f1.of_only (by simp)⟩, fun b' e => by rw [r1] at e; cases e; exact f2.only_none (by simp)⟩

/-- More numbers behind. -/
theorem app_ints {hp : HP} {s a : Option Addr} {n c m c' : Nat} {xs ys : List Value} (hrow : Row hp s n c 3 1 xs) (ha : Shows hp a m 1 ys) (h1 : ys.all one = true) (hn : n + m ≤ 1000000) {K : Value → HP → Prop}
    (h : ∀ s2 c2 hp', Row hp' s2 (n + m) c2 3 1 (xs ++ ys) → (∀ h0 : HP, HSub h0 hp → (∀ b', s = some ⟨b', 0, none⟩ → h0 b' = .none) → HSub h0 hp' ∧ ∀ b', s2 = some ⟨b', 0, none⟩ → h0 b' = .none) → K (.slice s2 (n + m) c2) hp') :
    opS Try.prog (Builtin.append_ #[24, 24] 24 ⟨[.slice s n c, .slice a m c']⟩) hp K := by
  refine opS_app (e := 3) (size := 1) (bytes := 8) (by kernel_rfl) hrow ha h1 (by omega) (by omega) ?_
  intro s2 c2 hp' hrow' hup
  refine h s2 c2 hp' hrow' fun h0 hs0 hfr => ?_
  rcases hup with ⟨rfl, rfl⟩ | ⟨b', e', rfl, hb', rfl⟩
  · exact ⟨hs0, hfr⟩
  · have hn0 : h0 b' = .none := by
      rcases hb' with hb' | hb'
      · exact hs0.none hb'
      · exact hfr b' hb'
    exact ⟨hs0.up hn0 e', fun b'' e => by cases e; exact hn0⟩

theorem setW_len (id due : Int) (w : List Th) : (setW id due w).length ≤ w.length + 1 := by
  unfold setW
  rw [(Exp.insW_perm (id, due) (dropW id w)).length_eq, List.length_cons]
  have : (dropW id w).length ≤ w.length := List.length_filter_le _ _
  omega

section
variable {a0 a1 : Option Addr} {n0 c0 n1 c1 : Nat} {xs cs : List Int} {en : Int} {hp0 : HP} {K : Value → HP → Prop}

theorem int_at {hp : HP} {b o i : Nat} {x : Int} (h : hp.cellN b (o + i * 1) 1 = some (i1 x)) : hp.cell b (o + i * 1) = some (.int .i64 x) := by
  have := HP.cell_cellN (j := 0) h (v := .int .i64 x) rfl; simpa using this

end
end Go.Proofs

set_option linter.unusedVariables false
set_option maxRecDepth 20000
namespace Go.HL
open Go
/-- An append, and what it leaves as it was. -/
theorem opS_app_fr {P : Program} {hp : HP} {t e ty size bytes : Nat} (hok : elemOk P t e size bytes = true) {s : Option Addr} {n c : Nat} {xs : List Value} (hs : Row hp s n c e size xs) {a : Option Addr} {m c' : Nat} {ys : List Value}
    (ha : Shows hp a m size ys) (h1 : ys.all one = true) (hb : (n + m) * bytes ≤ 140737488355328) (h63 : n + m ≤ 9223372036854775807) {K : Value → HP → Prop}
    (h : ∀ s2 c2 hp', Row hp' s2 (n + m) c2 e size (xs ++ ys) → (∀ h0 : HP, HSub h0 hp → (∀ b', s = some ⟨b', 0, none⟩ → h0 b' = .none) → HSub h0 hp' ∧ ∀ b', s2 = some ⟨b', 0, none⟩ → h0 b' = .none) → K (.slice s2 (n + m) c2) hp') :
    opS P (Builtin.append_ #[t, t] ty ⟨[.slice s n c, .slice a m c']⟩) hp K := by
  refine opS_app hok hs ha h1 hb h63 ?_
  intro s2 c2 hp' hrow' hup
  refine h s2 c2 hp' hrow' fun h0 hs0 hfr => ?_
  rcases hup with ⟨rfl, rfl⟩ | ⟨b', e', rfl, hb', rfl⟩
  · exact ⟨hs0, hfr⟩
  · have hn0 : h0 b' = .none := by
      rcases hb' with hb' | hb'
      · exact hs0.none hb'
      · exact hfr b' hb'
    exact ⟨hs0.up hn0 e', fun b'' e => by cases e; exact hn0⟩

theorem Shows.sub0 {α : Type} {enc : α → List Value} {size : Nat} {hp : HP} {s : Option Addr} {n c i : Nat} {l : List α} (h : Shows hp s n size (l.flatMap enc)) (he : ∀ x, (enc x).length = size) (hl : l.length = n) (hc : n ≤ c) (hi : i ≤ n) :
    Shows hp (sub0 s c i size) (n - i) size ((l.drop i).flatMap enc) := by
  unfold HL.sub0
  by_cases hin : i = n
  · left
    have : l.drop i = [] := List.drop_of_length_le (by omega)
    exact ⟨by omega, by rw [this]; rfl⟩
  rw [if_neg (by omega)]
  rcases h with ⟨h1, h2⟩ | ⟨b, o, h1, h2⟩
  · omega
  · right
    refine ⟨b, o + i * size, by rw [h1, Option.map_some, add_eq], ?_⟩
    have hle : i * size + (n - i) * size = n * size := by rw [← Nat.add_mul]; congr 1; omega
    rw [cellN_cellN h2 (by omega), cellsN_of (by rw [flat_len he, hl]; omega), flat_drop he]
    have : ((l.drop i).flatMap enc).length = (n - i) * size := by rw [flat_len he, List.length_drop, hl]
    rw [List.take_of_length_le (by omega)]
end Go.HL
namespace Go.Proofs
open Go Go.HL
open Go.Exp (Th tlt swo_tlt Ord setW dropW insW)

section
variable {hp : HP} {s : Option Addr} {n c : Nat} {w : List Th} {K : Value → HP → Prop}

theorem th_at {hp : HP} {b o : Nat} {t : Th} (h : hp.cellN b o 2 = some (th t)) : hp.cell b (o + 0) = some (.int .i64 t.1) ∧ hp.cell b (o + 1) = some (.int .i64 t.2) := ⟨HP.cell_cellN h rfl, HP.cell_cellN h rfl⟩

theorem tw_split {p : Th → Bool} {v : List Th} {i : Nat} (hi : i ≤ v.length) (h1 : ∀ (j : Nat) (hj : j < v.length), j < i → p v[j] = true) (h2 : ∀ (hi : i < v.length), p v[i] = false) : v.takeWhile p = v.take i ∧ v.dropWhile p = v.drop i := by
  have e : v = v.take i ++ v.drop i := (List.take_append_drop i v).symm
  have hd : ∀ x ∈ v.take i, p x = true := fun x hx => by
    obtain ⟨j, hj, rfl⟩ := List.getElem_of_mem hx
    rw [List.length_take] at hj
    rw [List.getElem_take]; exact h1 j (by omega) (by omega)
  have hr : ∀ x, (v.drop i).head? = some x → p x = false := fun x hx => by
    by_cases hlt : i < v.length
    · rw [List.drop_eq_getElem_cons hlt] at hx
      simp only [List.head?_cons, Option.some.injEq] at hx
      subst hx; exact h2 hlt
    · rw [List.drop_of_length_le (by omega)] at hx; cases hx
  obtain ⟨a, b⟩ := Exp.take_of_split hd hr
  rw [← e] at a b
  exact ⟨a, b⟩

end
end Go.Proofs

set_option linter.unusedVariables false
set_option maxRecDepth 20000
namespace Go.Proofs
open Go Go.HL
open Go.Exp (Th tlt swo_tlt Ord setW dropW insW)

/-- An act: what, which, when. -/
abbrev Ac := Int × Int × Int
def ac (a : Ac) : List Value := [.int .u8 a.1, .int .i64 a.2.1, .int .i64 a.2.2]
theorem ac_len (a : Ac) : (ac a).length = 3 := rfl
theorem ac_one (a : Ac) : (ac a).all one = true := rfl
def okAc (a : Ac) : Prop := (0 ≤ a.1 ∧ a.1 ≤ 255) ∧ okI a.2.1 ∧ okI a.2.2

theorem dec51 : ∀ (D : Nat) (cs : List Value), wellS Try.prog D 51 cs = true → ∃ a : Ac, okAc a ∧ cs = ac a := by
  intro D cs h
  cases D with
  | zero => cases h
  | succ D =>
    obtain ⟨hl, hf⟩ := wellS_struct (fs0 := [(5, 0), (3, 1), (3, 2)]) (by kernel_rfl) (by simp) h
    rw [show Try.prog.cellsOf 51 = 3 by kernel_rfl] at hl
    have f1 := hf (5, 0) (by simp)
    have f2 := hf (3, 1) (by simp)
    have f3 := hf (3, 2) (by simp)
    simp only [show Try.prog.cellsOf 5 = 1 by kernel_rfl, show Try.prog.cellsOf 3 = 1 by kernel_rfl] at f1 f2 f3
    obtain ⟨n, hn, e1⟩ := dec5 f1
    obtain ⟨x, hx, e2⟩ := dec3 f2
    obtain ⟨y, hy, e3⟩ := dec3 f3
    match cs, hl with
    | [c0, c1, c2], _ =>
      simp only [List.drop_zero, List.take_succ_cons, List.take_zero, List.cons.injEq, and_true] at e1
      simp only [List.drop_succ_cons, List.drop_zero, List.take_succ_cons, List.take_zero, List.cons.injEq, and_true] at e2 e3
      subst e1; subst e2; subst e3
      exact ⟨(n, x, y), ⟨hn, hx, hy⟩, rfl⟩

/-- A list of things beside a queue. -/
def SW (hp l : HP) (s : Option Addr) (n c : Nat) (w : List Th) : Prop :=
  w.length = n ∧ n ≤ c ∧ (n = 0 ∨ ∃ b o, s = some ⟨b, o, none⟩ ∧ hp.cellN b o (n * 2) = some (w.flatMap th) ∧ l b = .none)

theorem SW.shows {hp l : HP} {s : Option Addr} {n c : Nat} {w : List Th} (h : SW hp l s n c w) : Shows hp s n 2 (w.flatMap th) := by
  obtain ⟨h1, h2, h3 | ⟨b, o, h3, h4, h5⟩⟩ := h
  · left
    have : w = [] := List.eq_nil_of_length_eq_zero (by omega)
    subst this; exact ⟨h3, rfl⟩
  · exact .inr ⟨b, o, h3, h4⟩
theorem SW.sub {hp hp' l : HP} {s : Option Addr} {n c : Nat} {w : List Th} (h : SW hp l s n c w) (hs : HSub hp hp') : SW hp' l s n c w := by
  obtain ⟨h1, h2, h3 | ⟨b, o, h3, h4, h5⟩⟩ := h
  · exact ⟨h1, h2, .inl h3⟩
  · exact ⟨h1, h2, .inr ⟨b, o, h3, HP.cellN_sub hs h4, h5⟩⟩
theorem SW.frm {hp hp' l l' : HP} {s : Option Addr} {n c : Nat} {w : List Th} (h : SW hp l s n c w) (hf : Frm l hp l' hp') : SW hp' l' s n c w := by
  obtain ⟨h1, h2, h3 | ⟨b, o, h3, h4, h5⟩⟩ := h
  · exact ⟨h1, h2, .inl h3⟩
  · have hne : hp b ≠ .none := fun e => by unfold HP.cellN at h4; rw [e] at h4; cases h4
    obtain ⟨f1, f2⟩ := hf (HP.only b (hp b)) (HSub.only rfl) (Disj.only h5)
    refine ⟨h1, h2, .inr ⟨b, o, h3, ?_, f2.only_none hne⟩⟩
    have e := f1.of_only hne
    unfold HP.cellN at h4 ⊢
    rw [e]; exact h4
theorem SW.of_row {hp l : HP} {s : Option Addr} {n c : Nat} {e : TypeId} {w : List Th} (hr : Row hp s n c e 2 (w.flatMap th)) (hl : w.length = n) (hfr : ∀ b, s = some ⟨b, 0, none⟩ → l b = .none) : SW hp l s n c w := by
  rcases hr with ⟨r1, r2, r3, r4⟩ | ⟨b, r1, r2, r3, r4⟩
  · exact ⟨hl, by omega, .inl r2⟩
  · refine ⟨hl, r2, .inr ⟨b, 0, r1, ?_, hfr b r1⟩⟩
    rw [HP.cellN_of r4]; exact cellsN_all r3
theorem SW.drop {hp l : HP} {s : Option Addr} {n c i : Nat} {w : List Th} (h : SW hp l s n c w) (hi : i ≤ n) : SW hp l (sub0 s c i 2) (n - i) (c - i) (w.drop i) := by
  obtain ⟨h1, h2, h3⟩ := h
  refine ⟨by simp; omega, by omega, ?_⟩
  by_cases hin : i = n
  · left; omega
  · rcases h3 with h3 | ⟨b, o, h3, h4, h5⟩
    · omega
    · right
      have sh := Shows.sub0 (enc := th) (size := 2) (hp := hp) (s := s) (n := n) (c := c) (i := i) (l := w) (.inr ⟨b, o, h3, h4⟩) th_len h1 h2 hi
      rcases sh with ⟨h0, _⟩ | ⟨b', o', e, hc⟩
      · omega
      · refine ⟨b', o', e, hc, ?_⟩
        unfold HL.sub0 at e
        rw [if_neg (by omega), h3, Option.map_some, add_eq] at e
        cases e; exact h5

section
variable {a0 : Option Addr} {n0 c0 : Nat} {acts : List Ac} {hp0 : HP} {K : Value → HP → Prop}

end
end Go.Proofs

set_option linter.unusedVariables false
set_option maxRecDepth 20000
namespace Go.Proofs
open Go Go.HL
-- 6 interpreter/interpreterlaw20.ExpiryOnce
theorem F6_r0 (e : Env) (hp : HP) (K : Env → PV → HP → Prop) : RW Try.prog 144 [7, 30, 35, 37, 42, 44, 49, 53, 58] (opsAt Try.f6 [0]) (List.range 1) e V0 hp K =
    (K (upd e 2 (sB (false))) V0 hp) := by kernel_rfl
theorem F6_r1 (e : Env) (x0a : Option Addr) (x0n : Nat) (x0c : Nat) (hp : HP) (K : Env → PV → HP → Prop) : RW Try.prog 144 [7, 30, 35, 37, 42, 44, 49, 53, 58] (opsAt Try.f6 [1, 0, 0]) (List.range 3) (upd e 0 (sV (Value.slice x0a x0n x0c))) V0 hp K =
    (K (upd (upd (upd (upd e 0 (sV (Value.slice x0a x0n x0c))) 14 (sV (Value.slice x0a x0n x0c))) 15 (sI ((x0n : Nat)))) 16 (sB ((decide (((x0n : Nat) : Int) > 200))))) V0 hp) := by kernel_rfl
theorem F6_r2 (e : Env) (hp : HP) (K : Env → PV → HP → Prop) : RW Try.prog 144 [7, 30, 35, 37, 42, 44, 49, 53, 58] (opsAt Try.f6 [1, 0, 1, 0, 0]) (List.range 2) e V0 hp K =
    (CF Try.prog 28 [] hp fun u1 h2 => (boolV u1 fun q3 => (K (upd (upd e 17 (sB (q3))) 2 (sB (q3))) V0 h2))) := by kernel_rfl
theorem F6_r3 (e : Env) (hp : HP) (K : Env → PV → HP → Prop) : RW Try.prog 144 [7, 30, 35, 37, 42, 44, 49, 53, 58] (opsAt Try.f6 [1, 1, 0]) (List.range 2) e V0 hp K =
    (CF Try.prog 29 [] hp fun u1 h2 => (ptrV u1 fun p3 => (K (upd (upd e 18 (sV (Value.pointer p3))) 3 (sV (Value.pointer p3))) V0 h2))) := by kernel_rfl
theorem F6_r4 (e : Env) (hp : HP) (K : Env → PV → HP → Prop) : RW Try.prog 144 [7, 30, 35, 37, 42, 44, 49, 53, 58] (opsAt Try.f6 [1, 1, 1, 0]) (List.range 2) e V0 hp K =
    (∀ b1 : Nat, hp b1 = .none → (K (upd (upd e 19 (sV (Value.map (some b1)))) 4 (sV (Value.map (some b1)))) V0 (HP.set hp b1 (.obj (.map #[] 0))))) := by kernel_rfl
theorem F6_r5 (e : Env) (hp : HP) (K : Env → PV → HP → Prop) : RW Try.prog 144 [7, 30, 35, 37, 42, 44, 49, 53, 58] (opsAt Try.f6 [1, 1, 1, 1, 0]) (List.range 1) e V0 hp K =
    (K (upd e 5 (sI (0))) V0 hp) := by kernel_rfl
theorem F6_r6 (e : Env) (hp : HP) (K : Env → PV → HP → Prop) : RW Try.prog 144 [7, 30, 35, 37, 42, 44, 49, 53, 58] (opsAt Try.f6 [1, 1, 1, 1, 1, 1, 0]) (List.range 2) e V0 hp K =
    (CF Try.prog 28 [] hp fun u1 h2 => (boolV u1 fun q3 => (K (upd (upd e 143 (sB (q3))) 2 (sB (q3))) V0 h2))) := by kernel_rfl
def F6_j1 (hp : HP) (K : Value → HP → Prop) : Prop :=
  (CF Try.prog 28 [] hp fun u_8 h_9 => (boolV u_8 fun q_10 => (K (Value.bool q_10) h_9)))
theorem F6_r7 (e : Env) (x0a : Option Addr) (x0n : Nat) (x0c : Nat) (x6 : Int) (hp : HP) (K : Env → PV → HP → Prop) : RW Try.prog 144 [7, 30, 35, 37, 42, 44, 49, 53, 58] (opsAt Try.f6 [1, 1, 1, 1, 1, 0, 1, 0, 0, 0, 0]) (List.range 4) (upd (upd e 6 (sI (x6))) 0 (sV (Value.slice x0a x0n x0c))) V0 hp K =
    (K (upd (upd (upd (upd (upd (upd e 6 (sI (x6))) 0 (sV (Value.slice x0a x0n x0c))) 20 (sI (x6))) 21 (sV (Value.slice x0a x0n x0c))) 22 (sI ((x0n : Nat)))) 23 (sB ((decide ((x6 : Int) < (x0n : Nat)))))) V0 hp) := by kernel_rfl
theorem F6_r8 (e : Env) (x6 : Int) (hp : HP) (K : Env → PV → HP → Prop) : RW Try.prog 144 [7, 30, 35, 37, 42, 44, 49, 53, 58] (opsAt Try.f6 [1, 1, 1, 1, 1, 0, 1, 0, 0, 1, 1]) (List.range 3) (upd e 6 (sI (x6))) V0 hp K =
    (K (upd (upd (upd (upd e 6 (sI (x6))) 24 (sI (x6))) 25 (sI ((IntKind.wrap .i64 (x6 + 1))))) 6 (sI ((IntKind.wrap .i64 (x6 + 1))))) V0 hp) := by kernel_rfl
def F6_j4 (x0a : Option Addr) (x0n : Nat) (x0c : Nat) (x3 : Option Addr) (x4 : Option Nat) (x5 : Int) (x6 : Int) (hp : HP) (I3 : (Int × Int) → HP → Prop) (K : Value → HP → Prop) : Prop :=
  (I3 (x5, (IntKind.wrap .i64 (x6 + 1))) hp)
theorem F6_r9 (e : Env) (x0a : Option Addr) (x0n : Nat) (x0c : Nat) (x6 : Int) (hp : HP) (K : Env → PV → HP → Prop) : RW Try.prog 144 [7, 30, 35, 37, 42, 44, 49, 53, 58] (opsAt Try.f6 [1, 1, 1, 1, 1, 0, 1, 0, 0, 1, 0, 0, 0]) (List.range 6) (upd (upd e 6 (sI (x6))) 0 (sV (Value.slice x0a x0n x0c))) V0 hp K =
    ((0 ≤ (x6 : Int)) ∧ ((x6 : Int) < (x0n : Nat)) ∧ (ptrN x0a fun b1 o2 => (ldL (HP.cellN hp b1 (o2 + Int.toNat x6 * 3) 3) fun l3 => (if List.length l3 = 3 then (if List.all l3 one = true then (if 0 + List.length l3 ≤ List.length [(Value.int .u8 0), (Value.int .i64 0), (Value.int .i64 0)] then (K (upd (upd (upd (upd (upd (upd (upd e 6 (sI (x6))) 0 (sV (Value.slice x0a x0n x0c))) 26 (sV (Value.slice x0a x0n x0c))) 27 (sI (x6))) 28 (sV (ptr b1 (o2 + Int.toNat x6 * 3)))) 29 (sV (Value.agg ⟨l3⟩))) 7 (SV.priv 7 0)) (upd (upd V0 7 (51, [(Value.int .u8 0), (Value.int .i64 0), (Value.int .i64 0)])) 7 (51, (splice [(Value.int .u8 0), (Value.int .i64 0), (Value.int .i64 0)] 0 l3))) hp) else False) else False) else False)))) := by kernel_rfl
theorem F6_r10 (e : Env) (x3 : Option Addr) (x4 : Option Nat) (hp : HP) (K : Env → PV → HP → Prop) : RW Try.prog 144 [7, 30, 35, 37, 42, 44, 49, 53, 58] (opsAt Try.f6 [1, 1, 1, 1, 1, 0, 1, 0, 0, 1, 0, 0, 1, 1, 0]) (List.range 5) (upd (upd e 4 (sV (Value.map x4))) 3 (sV (Value.pointer x3))) V0 hp K =
    (CF Try.prog 36 [(Value.pointer x3)] hp fun u1 h2 => (intV u1 .i64 fun i3 => (rdS Try.prog (Builtin.len_ #[49] 3 #[.map x4]) h2 fun u4 => (intV u4 .i64 fun i5 => (K (upd (upd (upd (upd (upd (upd (upd e 4 (sV (Value.map x4))) 3 (sV (Value.pointer x3))) 138 (sV (Value.pointer x3))) 139 (sI (i3))) 140 (sV (Value.map x4))) 141 (sI (i5))) 142 (sB (((i3 : Int) != i5)))) V0 h2))))) := by kernel_rfl
theorem F6_r11 (e : Env) (hp : HP) (K : Env → PV → HP → Prop) : RW Try.prog 144 [7, 30, 35, 37, 42, 44, 49, 53, 58] (opsAt Try.f6 [1, 1, 1, 1, 1, 0, 1, 0, 0, 1, 0, 0, 1, 1, 1, 0, 0]) (List.range 1) e V0 hp K =
    (K (upd e 2 (sB (false))) V0 hp) := by kernel_rfl
def F6_j5 (x0a : Option Addr) (x0n : Nat) (x0c : Nat) (x3 : Option Addr) (x4 : Option Nat) (x5 : Int) (x6 : Int) (hp : HP) (I3 : (Int × Int) → HP → Prop) (K : Value → HP → Prop) : Prop :=
  (CF Try.prog 36 [(Value.pointer x3)] hp fun u_14 h_15 => (intV u_14 .i64 fun i_16 => (rdS Try.prog (Builtin.len_ #[49] 3 #[.map x4]) h_15 fun u_17 => (intV u_17 .i64 fun i_18 => (ite2 ((i_16 : Int) != i_18) (K (Value.bool false) h_15) (F6_j4 x0a x0n x0c x3 x4 x5 x6 h_15 I3 K))))))
theorem F6_r12 (e : Env) (k7 : List Value) (hp : HP) (K : Env → PV → HP → Prop) : RW Try.prog 144 [7, 30, 35, 37, 42, 44, 49, 53, 58] (opsAt Try.f6 [1, 1, 1, 1, 1, 0, 1, 0, 0, 1, 0, 0, 1, 0, 0]) (List.range 2) (upd e 7 (SV.priv 7 0)) (upd V0 7 (51, k7)) hp K =
    (ldV (k7)[0]? fun v1 => (intV v1 .u8 fun i2 => (K (upd (upd (upd e 7 (SV.priv 7 0)) 30 (SV.priv 7 0)) 31 (sV (Value.int .u8 i2))) (upd V0 7 (51, k7)) hp))) := by kernel_rfl
theorem F6_r13 (e : Env) (x31 : Int) (k7 : List Value) (hp : HP) (K : Env → PV → HP → Prop) : RW Try.prog 144 [7, 30, 35, 37, 42, 44, 49, 53, 58] (opsAt Try.f6 [1, 1, 1, 1, 1, 0, 1, 0, 0, 1, 0, 0, 1, 0, 1, 0, 0]) (List.range 2) (upd e 31 (sV (Value.int .u8 x31))) (upd V0 7 (51, k7)) hp K =
    (K (upd (upd (upd e 31 (sV (Value.int .u8 x31))) 33 (sB (((x31 : Int) == 0)))) 32 (sB (((x31 : Int) == 0)))) (upd V0 7 (51, k7)) hp) := by kernel_rfl
theorem F6_r14 (e : Env) (x3 : Option Addr) (k7 : List Value) (hp : HP) (K : Env → PV → HP → Prop) : RW Try.prog 144 [7, 30, 35, 37, 42, 44, 49, 53, 58] (opsAt Try.f6 [1, 1, 1, 1, 1, 0, 1, 0, 0, 1, 0, 0, 1, 0, 1, 0, 1, 0, 0]) (List.range 7) (upd (upd e 7 (SV.priv 7 0)) 3 (sV (Value.pointer x3))) (upd V0 7 (51, k7)) hp K =
    (ldV (k7)[1]? fun v1 => (intV v1 .i64 fun i2 => (ldV (k7)[2]? fun v3 => (intV v3 .i64 fun i4 => (CF Try.prog 30 [(Value.pointer x3), (Value.int .i64 i2), (Value.int .i64 i4)] hp fun u5 h6 => (intV u5 .i64 fun i7 => (K (upd (upd (upd (upd (upd (upd (upd (upd (upd e 7 (SV.priv 7 0)) 3 (sV (Value.pointer x3))) 34 (sV (Value.pointer x3))) 35 (SV.priv 7 1)) 36 (sI (i2))) 37 (SV.priv 7 2)) 38 (sI (i4))) 39 (sI (i7))) 40 (sB (((i7 : Int) == 0)))) (upd V0 7 (51, k7)) h6))))))) := by kernel_rfl
theorem F6_r15 (e : Env) (x4 : Option Nat) (k7 : List Value) (hp : HP) (K : Env → PV → HP → Prop) : RW Try.prog 144 [7, 30, 35, 37, 42, 44, 49, 53, 58] (opsAt Try.f6 [1, 1, 1, 1, 1, 0, 1, 0, 0, 1, 0, 0, 1, 0, 1, 0, 1, 0, 1, 0]) (List.range 6) (upd (upd e 7 (SV.priv 7 0)) 4 (sV (Value.map x4))) (upd V0 7 (51, k7)) hp K =
    (ldV (k7)[1]? fun v1 => (intV v1 .i64 fun i2 => (ldV (k7)[2]? fun v3 => (intV v3 .i64 fun i4 => (opS Try.prog (Instr.mapUpdate 49 (Value.map x4) (Value.int .i64 i2) (Value.int .i64 i4)) hp fun u5 h6 => (K (upd (upd (upd (upd (upd (upd (upd e 7 (SV.priv 7 0)) 4 (sV (Value.map x4))) 41 (sV (Value.map x4))) 42 (SV.priv 7 1)) 43 (sI (i2))) 44 (SV.priv 7 2)) 45 (sI (i4))) (upd V0 7 (51, k7)) h6)))))) := by kernel_rfl
theorem F6_r16 (e : Env) (x31 : Int) (k7 : List Value) (hp : HP) (K : Env → PV → HP → Prop) : RW Try.prog 144 [7, 30, 35, 37, 42, 44, 49, 53, 58] (opsAt Try.f6 [1, 1, 1, 1, 1, 0, 1, 0, 0, 1, 0, 0, 1, 0, 1, 0, 1, 1, 0]) (List.range 2) (upd e 31 (sV (Value.int .u8 x31))) (upd V0 7 (51, k7)) hp K =
    (K (upd (upd (upd e 31 (sV (Value.int .u8 x31))) 47 (sB (((x31 : Int) == 1)))) 46 (sB (((x31 : Int) == 1)))) (upd V0 7 (51, k7)) hp) := by kernel_rfl
theorem F6_r17 (e : Env) (x3 : Option Addr) (k7 : List Value) (hp : HP) (K : Env → PV → HP → Prop) : RW Try.prog 144 [7, 30, 35, 37, 42, 44, 49, 53, 58] (opsAt Try.f6 [1, 1, 1, 1, 1, 0, 1, 0, 0, 1, 0, 0, 1, 0, 1, 0, 1, 1, 1, 0, 0]) (List.range 4) (upd (upd e 7 (SV.priv 7 0)) 3 (sV (Value.pointer x3))) (upd V0 7 (51, k7)) hp K =
    (ldV (k7)[1]? fun v1 => (intV v1 .i64 fun i2 => (CF Try.prog 34 [(Value.pointer x3), (Value.int .i64 i2)] hp fun u3 h4 => (boolV u3 fun q5 => (K (upd (upd (upd (upd (upd (upd e 7 (SV.priv 7 0)) 3 (sV (Value.pointer x3))) 48 (sV (Value.pointer x3))) 49 (SV.priv 7 1)) 50 (sI (i2))) 51 (sB (q5))) (upd V0 7 (51, k7)) h4))))) := by kernel_rfl
theorem F6_r18 (e : Env) (x4 : Option Nat) (k7 : List Value) (hp : HP) (K : Env → PV → HP → Prop) : RW Try.prog 144 [7, 30, 35, 37, 42, 44, 49, 53, 58] (opsAt Try.f6 [1, 1, 1, 1, 1, 0, 1, 0, 0, 1, 0, 0, 1, 0, 1, 0, 1, 1, 1, 0, 1]) (List.range 4) (upd (upd e 7 (SV.priv 7 0)) 4 (sV (Value.map x4))) (upd V0 7 (51, k7)) hp K =
    (ldV (k7)[1]? fun v1 => (intV v1 .i64 fun i2 => (opS Try.prog (Builtin.delete_ #[49, 3] 0 ⟨[(Value.map x4), (Value.int .i64 i2)]⟩) hp fun u3 h4 => (K (upd (upd (upd (upd (upd e 7 (SV.priv 7 0)) 4 (sV (Value.map x4))) 52 (sV (Value.map x4))) 53 (SV.priv 7 1)) 54 (sI (i2))) (upd V0 7 (51, k7)) h4)))) := by kernel_rfl
theorem F6_r19 (e : Env) (x31 : Int) (k7 : List Value) (hp : HP) (K : Env → PV → HP → Prop) : RW Try.prog 144 [7, 30, 35, 37, 42, 44, 49, 53, 58] (opsAt Try.f6 [1, 1, 1, 1, 1, 0, 1, 0, 0, 1, 0, 0, 1, 0, 1, 0, 1, 1, 1, 1, 0]) (List.range 2) (upd e 31 (sV (Value.int .u8 x31))) (upd V0 7 (51, k7)) hp K =
    (K (upd (upd (upd e 31 (sV (Value.int .u8 x31))) 56 (sB (((x31 : Int) == 2)))) 55 (sB (((x31 : Int) == 2)))) (upd V0 7 (51, k7)) hp) := by kernel_rfl
theorem F6_r20 (e : Env) (x5 : Int) (k7 : List Value) (hp : HP) (K : Env → PV → HP → Prop) : RW Try.prog 144 [7, 30, 35, 37, 42, 44, 49, 53, 58] (opsAt Try.f6 [1, 1, 1, 1, 1, 0, 1, 0, 0, 1, 0, 0, 1, 0, 1, 0, 1, 1, 1, 1, 1, 0, 0]) (List.range 5) (upd (upd e 7 (SV.priv 7 0)) 5 (sI (x5))) (upd V0 7 (51, k7)) hp K =
    (ldV (k7)[2]? fun v1 => (intV v1 .i64 fun i2 => (K (upd (upd (upd (upd (upd (upd (upd e 7 (SV.priv 7 0)) 5 (sI (x5))) 57 (sI (x5))) 58 (SV.priv 7 2)) 59 (sI (i2))) 60 (sI ((if (i2 : Int) > x5 then i2 else x5)))) 5 (sI ((if (i2 : Int) > x5 then i2 else x5)))) (upd V0 7 (51, k7)) hp))) := by kernel_rfl
theorem F6_r21 (e : Env) (x3 : Option Addr) (x5 : Int) (hp : HP) (K : Env → PV → HP → Prop) : RW Try.prog 144 [7, 30, 35, 37, 42, 44, 49, 53, 58] (opsAt Try.f6 [1, 1, 1, 1, 1, 0, 1, 0, 0, 1, 0, 0, 1, 0, 1, 0, 1, 1, 1, 1, 1, 0, 1, 0]) (List.range 4) (upd (upd e 5 (sI (x5))) 3 (sV (Value.pointer x3))) V0 hp K =
    (CF Try.prog 31 [(Value.pointer x3), (Value.int .i64 x5)] hp fun u1 h2 => (slcV u1 fun a3 n4 c5 => (K (upd (upd (upd (upd (upd (upd e 5 (sI (x5))) 3 (sV (Value.pointer x3))) 61 (sV (Value.pointer x3))) 62 (sI (x5))) 63 (sV (Value.slice a3 n4 c5))) 8 (sV (Value.slice a3 n4 c5))) V0 h2))) := by kernel_rfl
theorem F6_r22 (e : Env) (x130 : Value) (hp : HP) (K : Env → PV → HP → Prop) : RW Try.prog 144 [7, 30, 35, 37, 42, 44, 49, 53, 58] (opsAt Try.f6 [1, 1, 1, 1, 1, 0, 1, 0, 0, 1, 0, 0, 1, 0, 1, 0, 1, 1, 1, 1, 1, 0, 1, 1, 1, 1, 0, 0, 0]) (List.range 2) (upd e 130 (sV x130)) V0 hp K =
    (opS Try.prog (Instr.next x130 false 0) hp fun u1 h2 => (tupI u1 0 fun v3 => (boolV v3 fun q4 => (K (upd (upd (upd e 130 (sV x130)) 131 (sV u1)) 132 (sB (q4))) V0 h2)))) := by kernel_rfl
theorem F6_r23 (e : Env) (x130 : Value) (hp : HP) (K : Env → PV → HP → Prop) : RW Try.prog 144 [7, 30, 35, 37, 42, 44, 49, 53, 58] (opsAt Try.f6 [1, 1, 1, 1, 1, 0, 1, 0, 0, 1, 0, 0, 1, 0, 1, 0, 1, 1, 1, 1, 1, 0, 1, 1, 1, 1, 0, 0, 1, 1, 0, 0]) (List.range 3) (upd e 130 (sV x130)) V0 hp K =
    (rdS Try.prog (Instr.entry x130) hp fun u1 => (tupI u1 1 fun v2 => (intV v2 .i64 fun i3 => (K (upd (upd (upd (upd e 130 (sV x130)) 133 (sV u1)) 134 (sI (i3))) 13 (sI (i3))) V0 hp)))) := by kernel_rfl
theorem F6_r24 (e : Env) (x5 : Int) (x13 : Int) (hp : HP) (K : Env → PV → HP → Prop) : RW Try.prog 144 [7, 30, 35, 37, 42, 44, 49, 53, 58] (opsAt Try.f6 [1, 1, 1, 1, 1, 0, 1, 0, 0, 1, 0, 0, 1, 0, 1, 0, 1, 1, 1, 1, 1, 0, 1, 1, 1, 1, 0, 0, 1, 1, 0, 1, 0]) (List.range 3) (upd (upd e 13 (sI (x13))) 5 (sI (x5))) V0 hp K =
    (K (upd (upd (upd (upd (upd e 13 (sI (x13))) 5 (sI (x5))) 135 (sI (x13))) 136 (sI (x5))) 137 (sB ((decide ((x13 : Int) ≤ x5))))) V0 hp) := by kernel_rfl
theorem F6_r25 (e : Env) (hp : HP) (K : Env → PV → HP → Prop) : RW Try.prog 144 [7, 30, 35, 37, 42, 44, 49, 53, 58] (opsAt Try.f6 [1, 1, 1, 1, 1, 0, 1, 0, 0, 1, 0, 0, 1, 0, 1, 0, 1, 1, 1, 1, 1, 0, 1, 1, 1, 1, 0, 0, 1, 1, 0, 1, 1, 0, 0]) (List.range 1) e V0 hp K =
    (K (upd e 2 (sB (false))) V0 hp) := by kernel_rfl
def F6_l8 (x0a : Option Addr) (x0n : Nat) (x0c : Nat) (x3 : Option Addr) (x4 : Option Nat) (x5 : Int) (x6 : Int) (x130 : Value) (I3 : (Int × Int) → HP → Prop) (K : Value → HP → Prop) (I8 : (Unit) → HP → Prop) (hp : HP) : Prop :=
  (opS Try.prog (Instr.next x130 false 0) hp fun u_50 h_51 => (tupI u_50 0 fun v_52 => (boolV v_52 fun q_53 => (ite2 q_53 (rdS Try.prog (Instr.entry x130) h_51 fun u_54 => (tupI u_54 1 fun v_55 => (intV v_55 .i64 fun i_56 => (ite2 (decide ((i_56 : Int) ≤ x5)) (K (Value.bool false) h_51) (I8 () h_51))))) (F6_j5 x0a x0n x0c x3 x4 x5 x6 h_51 I3 K)))))
def F6_j7 (x0a : Option Addr) (x0n : Nat) (x0c : Nat) (x3 : Option Addr) (x4 : Option Nat) (x5 : Int) (x6 : Int) (x130 : Value) (hp : HP) (I3 : (Int × Int) → HP → Prop) (K : Value → HP → Prop) : Prop :=
  (LoopP (σ := Unit) (fun I s hp => F6_l8 x0a x0n x0c x3 x4 x5 x6 x130 I3 K I  hp) () hp)
theorem F6_r26 (e : Env) (x4 : Option Nat) (hp : HP) (K : Env → PV → HP → Prop) : RW Try.prog 144 [7, 30, 35, 37, 42, 44, 49, 53, 58] (opsAt Try.f6 [1, 1, 1, 1, 1, 0, 1, 0, 0, 1, 0, 0, 1, 0, 1, 0, 1, 1, 1, 1, 1, 0, 1, 1, 1, 0]) (List.range 2) (upd e 4 (sV (Value.map x4))) V0 hp K =
    (opS Try.prog (Instr.range 49 (Value.map x4)) hp fun u1 h2 => (K (upd (upd (upd e 4 (sV (Value.map x4))) 129 (sV (Value.map x4))) 130 (sV u1)) V0 h2)) := by kernel_rfl
def F6_j6 (x0a : Option Addr) (x0n : Nat) (x0c : Nat) (x3 : Option Addr) (x4 : Option Nat) (x5 : Int) (x6 : Int) (hp : HP) (I3 : (Int × Int) → HP → Prop) (K : Value → HP → Prop) : Prop :=
  (opS Try.prog (Instr.range 49 (Value.map x4)) hp fun u_57 h_58 => (F6_j7 x0a x0n x0c x3 x4 x5 x6 u_57 h_58 I3 K))
theorem F6_r27 (e : Env) (x8a : Option Addr) (x8n : Nat) (x8c : Nat) (x9 : Int) (hp : HP) (K : Env → PV → HP → Prop) : RW Try.prog 144 [7, 30, 35, 37, 42, 44, 49, 53, 58] (opsAt Try.f6 [1, 1, 1, 1, 1, 0, 1, 0, 0, 1, 0, 0, 1, 0, 1, 0, 1, 1, 1, 1, 1, 0, 1, 1, 0, 1, 0, 0, 0, 0]) (List.range 4) (upd (upd e 9 (sI (x9))) 8 (sV (Value.slice x8a x8n x8c))) V0 hp K =
    (K (upd (upd (upd (upd (upd (upd e 9 (sI (x9))) 8 (sV (Value.slice x8a x8n x8c))) 64 (sI (x9))) 65 (sV (Value.slice x8a x8n x8c))) 66 (sI ((x8n : Nat)))) 67 (sB ((decide ((x9 : Int) < (x8n : Nat)))))) V0 hp) := by kernel_rfl
theorem F6_r28 (e : Env) (x4 : Option Nat) (x8a : Option Addr) (x8n : Nat) (x8c : Nat) (x9 : Int) (hp : HP) (K : Env → PV → HP → Prop) : RW Try.prog 144 [7, 30, 35, 37, 42, 44, 49, 53, 58] (opsAt Try.f6 [1, 1, 1, 1, 1, 0, 1, 0, 0, 1, 0, 0, 1, 0, 1, 0, 1, 1, 1, 1, 1, 0, 1, 1, 0, 1, 0, 0, 1, 0, 0, 0]) (List.range 11) (upd (upd (upd e 9 (sI (x9))) 8 (sV (Value.slice x8a x8n x8c))) 4 (sV (Value.map x4))) V0 hp K =
    ((0 ≤ (x9 : Int)) ∧ ((x9 : Int) < (x8n : Nat)) ∧ (ptrN x8a fun b1 o2 => (ldV (HP.cell hp b1 (o2 + Int.toNat x9 * 1)) fun v3 => (intV v3 .i64 fun i4 => (rdS Try.prog (Instr.lookup 49 (Value.map x4) (Value.int .i64 i4) true) hp fun u5 => (tup2V u5 fun u6 u7 => (intV u6 .i64 fun i8 => (boolV u7 fun q9 => (K (upd (upd (upd (upd (upd (upd (upd (upd (upd (upd (upd (upd (upd (upd e 9 (sI (x9))) 8 (sV (Value.slice x8a x8n x8c))) 4 (sV (Value.map x4))) 71 (sV (Value.map x4))) 72 (sV (Value.slice x8a x8n x8c))) 73 (sI (x9))) 74 (sV (ptr b1 (o2 + Int.toNat x9 * 1)))) 75 (sI (i4))) 76 (sV (Value.tuple ⟨[(Value.int .i64 i8), (Value.bool q9)]⟩))) 70 (sV (Value.tuple ⟨[(Value.int .i64 i8), (Value.bool q9)]⟩))) 77 (sI (i8))) 78 (sB (q9))) 10 (sI (i8))) 11 (sB (q9))) V0 hp))))))))) := by kernel_rfl
theorem F6_r29 (e : Env) (hp : HP) (K : Env → PV → HP → Prop) : RW Try.prog 144 [7, 30, 35, 37, 42, 44, 49, 53, 58] (opsAt Try.f6 [1, 1, 1, 1, 1, 0, 1, 0, 0, 1, 0, 0, 1, 0, 1, 0, 1, 1, 1, 1, 1, 0, 1, 1, 0, 1, 0, 0, 1, 0, 0, 1, 0, 1, 0, 0]) (List.range 1) e V0 hp K =
    (K (upd e 2 (sB (false))) V0 hp) := by kernel_rfl
theorem F6_r30 (e : Env) (hp : HP) (K : Env → PV → HP → Prop) : RW Try.prog 144 [7, 30, 35, 37, 42, 44, 49, 53, 58] (opsAt Try.f6 [1, 1, 1, 1, 1, 0, 1, 0, 0, 1, 0, 0, 1, 0, 1, 0, 1, 1, 1, 1, 1, 0, 1, 1, 0, 1, 0, 0, 1, 0, 0, 1, 1, 0, 1, 0, 0]) (List.range 1) e V0 hp K =
    (K (upd e 2 (sB (false))) V0 hp) := by kernel_rfl
theorem F6_r31 (e : Env) (x4 : Option Nat) (x8a : Option Addr) (x8n : Nat) (x8c : Nat) (x9 : Int) (hp : HP) (K : Env → PV → HP → Prop) : RW Try.prog 144 [7, 30, 35, 37, 42, 44, 49, 53, 58] (opsAt Try.f6 [1, 1, 1, 1, 1, 0, 1, 0, 0, 1, 0, 0, 1, 0, 1, 0, 1, 1, 1, 1, 1, 0, 1, 1, 0, 1, 0, 0, 1, 0, 0, 1, 1, 1]) (List.range 6) (upd (upd (upd e 9 (sI (x9))) 8 (sV (Value.slice x8a x8n x8c))) 4 (sV (Value.map x4))) V0 hp K =
    ((0 ≤ (x9 : Int)) ∧ ((x9 : Int) < (x8n : Nat)) ∧ (ptrN x8a fun b1 o2 => (ldV (HP.cell hp b1 (o2 + Int.toNat x9 * 1)) fun v3 => (intV v3 .i64 fun i4 => (opS Try.prog (Builtin.delete_ #[49, 3] 0 ⟨[(Value.map x4), (Value.int .i64 i4)]⟩) hp fun u5 h6 => (K (upd (upd (upd (upd (upd (upd (upd (upd e 9 (sI (x9))) 8 (sV (Value.slice x8a x8n x8c))) 4 (sV (Value.map x4))) 124 (sV (Value.map x4))) 125 (sV (Value.slice x8a x8n x8c))) 126 (sI (x9))) 127 (sV (ptr b1 (o2 + Int.toNat x9 * 1)))) 128 (sI (i4))) V0 h6)))))) := by kernel_rfl
theorem F6_r32 (e : Env) (x9 : Int) (hp : HP) (K : Env → PV → HP → Prop) : RW Try.prog 144 [7, 30, 35, 37, 42, 44, 49, 53, 58] (opsAt Try.f6 [1, 1, 1, 1, 1, 0, 1, 0, 0, 1, 0, 0, 1, 0, 1, 0, 1, 1, 1, 1, 1, 0, 1, 1, 0, 1, 0, 0, 1, 1]) (List.range 3) (upd e 9 (sI (x9))) V0 hp K =
    (K (upd (upd (upd (upd e 9 (sI (x9))) 68 (sI (x9))) 69 (sI ((IntKind.wrap .i64 (x9 + 1))))) 9 (sI ((IntKind.wrap .i64 (x9 + 1))))) V0 hp) := by kernel_rfl
def F6_j12 (x0a : Option Addr) (x0n : Nat) (x0c : Nat) (x3 : Option Addr) (x4 : Option Nat) (x5 : Int) (x6 : Int) (x8a : Option Addr) (x8n : Nat) (x8c : Nat) (x9 : Int) (x123 : Bool) (hp : HP) (I3 : (Int × Int) → HP → Prop) (I10 : (Int) → HP → Prop) (K : Value → HP → Prop) : Prop :=
  (ite2 x123 (K (Value.bool false) hp) ((0 ≤ (x9 : Int)) ∧ ((x9 : Int) < (x8n : Nat)) ∧ (ptrN x8a fun b_68 o_69 => (ldV (HP.cell hp b_68 (o_69 + Int.toNat x9 * 1)) fun v_70 => (intV v_70 .i64 fun i_71 => (opS Try.prog (Builtin.delete_ #[49, 3] 0 ⟨[(Value.map x4), (Value.int .i64 i_71)]⟩) hp fun u_72 h_73 => (I10 (IntKind.wrap .i64 (x9 + 1)) h_73)))))))
theorem F6_r33 (e : Env) (x0a : Option Addr) (x0n : Nat) (x0c : Nat) (x6 : Int) (x8a : Option Addr) (x8n : Nat) (x8c : Nat) (x9 : Int) (x10 : Int) (hp : HP) (K : Env → PV → HP → Prop) : RW Try.prog 144 [7, 30, 35, 37, 42, 44, 49, 53, 58] (opsAt Try.f6 [1, 1, 1, 1, 1, 0, 1, 0, 0, 1, 0, 0, 1, 0, 1, 0, 1, 1, 1, 1, 1, 0, 1, 1, 0, 1, 0, 0, 1, 0, 0, 1, 1, 0, 0]) (List.range 38) (upd (upd (upd (upd (upd e 10 (sI (x10))) 9 (sI (x9))) 8 (sV (Value.slice x8a x8n x8c))) 6 (sI (x6))) 0 (sV (Value.slice x0a x0n x0c))) V0 hp K =
    (ite2 (decide ((x9 : Int) > 0)) ((0 ≤ ((IntKind.wrap .i64 (x9 - 1)) : Int)) ∧ (((IntKind.wrap .i64 (x9 - 1)) : Int) < (x8n : Nat)) ∧ (ptrN x8a fun b1 o2 => (ldV (HP.cell hp b1 (o2 + Int.toNat (IntKind.wrap .i64 (x9 - 1)) * 1)) fun v3 => (intV v3 .i64 fun i4 => (CF Try.prog 35 [(Value.int .i64 i4), (Value.slice x0a x0n x0c), (Value.int .i64 x6)] hp fun u5 h6 => (intV u5 .i64 fun i7 => (ite2 (decide ((i7 : Int) > x10)) (K (upd (upd (upd (upd (upd (upd (upd (upd (upd (upd (upd (upd (upd (upd (upd (upd (upd (upd (upd (upd (upd (upd (upd (upd (upd (upd (upd (upd (upd (upd (upd (upd (upd (upd (upd (upd (upd (upd (upd (upd (upd (upd (upd e 10 (sI (x10))) 9 (sI (x9))) 8 (sV (Value.slice x8a x8n x8c))) 6 (sI (x6))) 0 (sV (Value.slice x0a x0n x0c))) 86 (sI (x9))) 87 (sB ((decide ((x9 : Int) > 0))))) 88 (sB (true))) 89 (sV (Value.slice x8a x8n x8c))) 90 (sI (x9))) 91 (sI ((IntKind.wrap .i64 (x9 - 1))))) 92 (sV (ptr b1 (o2 + Int.toNat (IntKind.wrap .i64 (x9 - 1)) * 1)))) 93 (sI (i4))) 94 (sV (Value.slice x0a x0n x0c))) 95 (sI (x6))) 96 (sI (i7))) 97 (sI (x10))) 98 (sB ((decide ((i7 : Int) > x10))))) 99 (sB (true))) 100 (sV undef)) 101 (sV undef)) 102 (sV undef)) 103 (sV undef)) 104 (sV undef)) 105 (sV undef)) 106 (sV undef)) 107 (sV undef)) 108 (sV undef)) 109 (sV undef)) 110 (sV undef)) 111 (sV undef)) 112 (sV undef)) 113 (sV undef)) 114 (sV undef)) 115 (sV undef)) 116 (sV undef)) 117 (sV undef)) 118 (sV undef)) 119 (sV undef)) 120 (sV undef)) 121 (sV undef)) 122 (sB (true))) 123 (sB (true))) V0 h6) ((0 ≤ ((IntKind.wrap .i64 (x9 - 1)) : Int)) ∧ (((IntKind.wrap .i64 (x9 - 1)) : Int) < (x8n : Nat)) ∧ (ptrN x8a fun b8 o9 => (ldV (HP.cell h6 b8 (o9 + Int.toNat (IntKind.wrap .i64 (x9 - 1)) * 1)) fun v10 => (intV v10 .i64 fun i11 => (CF Try.prog 35 [(Value.int .i64 i11), (Value.slice x0a x0n x0c), (Value.int .i64 x6)] h6 fun u12 h13 => (intV u12 .i64 fun i14 => (ite2 ((i14 : Int) == x10) ((0 ≤ ((IntKind.wrap .i64 (x9 - 1)) : Int)) ∧ (((IntKind.wrap .i64 (x9 - 1)) : Int) < (x8n : Nat)) ∧ (ptrN x8a fun b15 o16 => (ldV (HP.cell h13 b15 (o16 + Int.toNat (IntKind.wrap .i64 (x9 - 1)) * 1)) fun v17 => (intV v17 .i64 fun i18 => ((0 ≤ (x9 : Int)) ∧ ((x9 : Int) < (x8n : Nat)) ∧ (ptrN x8a fun b19 o20 => (ldV (HP.cell h13 b19 (o20 + Int.toNat x9 * 1)) fun v21 => (intV v21 .i64 fun i22 => (K (upd (upd (upd (upd (upd (upd (upd (upd (upd (upd (upd (upd (upd (upd (upd (upd (upd (upd (upd (upd (upd (upd (upd (upd (upd (upd (upd (upd (upd (upd (upd (upd (upd (upd (upd (upd (upd (upd (upd (upd (upd (upd (upd e 10 (sI (x10))) 9 (sI (x9))) 8 (sV (Value.slice x8a x8n x8c))) 6 (sI (x6))) 0 (sV (Value.slice x0a x0n x0c))) 86 (sI (x9))) 87 (sB ((decide ((x9 : Int) > 0))))) 88 (sB (true))) 89 (sV (Value.slice x8a x8n x8c))) 90 (sI (x9))) 91 (sI ((IntKind.wrap .i64 (x9 - 1))))) 92 (sV (ptr b1 (o2 + Int.toNat (IntKind.wrap .i64 (x9 - 1)) * 1)))) 93 (sI (i4))) 94 (sV (Value.slice x0a x0n x0c))) 95 (sI (x6))) 96 (sI (i7))) 97 (sI (x10))) 98 (sB ((decide ((i7 : Int) > x10))))) 99 (sB (false))) 100 (sV (Value.slice x8a x8n x8c))) 101 (sI (x9))) 102 (sI ((IntKind.wrap .i64 (x9 - 1))))) 103 (sV (ptr b8 (o9 + Int.toNat (IntKind.wrap .i64 (x9 - 1)) * 1)))) 104 (sI (i11))) 105 (sV (Value.slice x0a x0n x0c))) 106 (sI (x6))) 107 (sI (i14))) 108 (sI (x10))) 109 (sB (((i14 : Int) == x10)))) 110 (sB (true))) 111 (sV (Value.slice x8a x8n x8c))) 112 (sI (x9))) 113 (sI ((IntKind.wrap .i64 (x9 - 1))))) 114 (sV (ptr b15 (o16 + Int.toNat (IntKind.wrap .i64 (x9 - 1)) * 1)))) 115 (sI (i18))) 116 (sV (Value.slice x8a x8n x8c))) 117 (sI (x9))) 118 (sV (ptr b19 (o20 + Int.toNat x9 * 1)))) 119 (sI (i22))) 120 (sB ((decide ((i18 : Int) > i22))))) 121 (sB ((decide ((i18 : Int) > i22))))) 122 (sB ((decide ((i18 : Int) > i22))))) 123 (sB ((decide ((i18 : Int) > i22))))) V0 h13))))))))) (K (upd (upd (upd (upd (upd (upd (upd (upd (upd (upd (upd (upd (upd (upd (upd (upd (upd (upd (upd (upd (upd (upd (upd (upd (upd (upd (upd (upd (upd (upd (upd (upd (upd (upd (upd (upd (upd (upd (upd (upd (upd (upd (upd e 10 (sI (x10))) 9 (sI (x9))) 8 (sV (Value.slice x8a x8n x8c))) 6 (sI (x6))) 0 (sV (Value.slice x0a x0n x0c))) 86 (sI (x9))) 87 (sB ((decide ((x9 : Int) > 0))))) 88 (sB (true))) 89 (sV (Value.slice x8a x8n x8c))) 90 (sI (x9))) 91 (sI ((IntKind.wrap .i64 (x9 - 1))))) 92 (sV (ptr b1 (o2 + Int.toNat (IntKind.wrap .i64 (x9 - 1)) * 1)))) 93 (sI (i4))) 94 (sV (Value.slice x0a x0n x0c))) 95 (sI (x6))) 96 (sI (i7))) 97 (sI (x10))) 98 (sB ((decide ((i7 : Int) > x10))))) 99 (sB (false))) 100 (sV (Value.slice x8a x8n x8c))) 101 (sI (x9))) 102 (sI ((IntKind.wrap .i64 (x9 - 1))))) 103 (sV (ptr b8 (o9 + Int.toNat (IntKind.wrap .i64 (x9 - 1)) * 1)))) 104 (sI (i11))) 105 (sV (Value.slice x0a x0n x0c))) 106 (sI (x6))) 107 (sI (i14))) 108 (sI (x10))) 109 (sB (((i14 : Int) == x10)))) 110 (sB (false))) 111 (sV undef)) 112 (sV undef)) 113 (sV undef)) 114 (sV undef)) 115 (sV undef)) 116 (sV undef)) 117 (sV undef)) 118 (sV undef)) 119 (sV undef)) 120 (sV undef)) 121 (sB (false))) 122 (sB (false))) 123 (sB (false))) V0 h13))))))))))))))) (K (upd (upd (upd (upd (upd (upd (upd (upd (upd (upd (upd (upd (upd (upd (upd (upd (upd (upd (upd (upd (upd (upd (upd (upd (upd (upd (upd (upd (upd (upd (upd (upd (upd (upd (upd (upd (upd (upd (upd (upd (upd (upd (upd e 10 (sI (x10))) 9 (sI (x9))) 8 (sV (Value.slice x8a x8n x8c))) 6 (sI (x6))) 0 (sV (Value.slice x0a x0n x0c))) 86 (sI (x9))) 87 (sB ((decide ((x9 : Int) > 0))))) 88 (sB (false))) 89 (sV undef)) 90 (sV undef)) 91 (sV undef)) 92 (sV undef)) 93 (sV undef)) 94 (sV undef)) 95 (sV undef)) 96 (sV undef)) 97 (sV undef)) 98 (sV undef)) 99 (sV undef)) 100 (sV undef)) 101 (sV undef)) 102 (sV undef)) 103 (sV undef)) 104 (sV undef)) 105 (sV undef)) 106 (sV undef)) 107 (sV undef)) 108 (sV undef)) 109 (sV undef)) 110 (sV undef)) 111 (sV undef)) 112 (sV undef)) 113 (sV undef)) 114 (sV undef)) 115 (sV undef)) 116 (sV undef)) 117 (sV undef)) 118 (sV undef)) 119 (sV undef)) 120 (sV undef)) 121 (sV undef)) 122 (sV undef)) 123 (sB (false))) V0 hp)) := by kernel_rfl
def F6_j11 (x0a : Option Addr) (x0n : Nat) (x0c : Nat) (x3 : Option Addr) (x4 : Option Nat) (x5 : Int) (x6 : Int) (x8a : Option Addr) (x8n : Nat) (x8c : Nat) (x9 : Int) (x10 : Int) (x85 : Bool) (hp : HP) (I3 : (Int × Int) → HP → Prop) (I10 : (Int) → HP → Prop) (K : Value → HP → Prop) : Prop :=
  (ite2 x85 (K (Value.bool false) hp) (ite2 (decide ((x9 : Int) > 0)) ((0 ≤ ((IntKind.wrap .i64 (x9 - 1)) : Int)) ∧ (((IntKind.wrap .i64 (x9 - 1)) : Int) < (x8n : Nat)) ∧ (ptrN x8a fun b_74 o_75 => (ldV (HP.cell hp b_74 (o_75 + Int.toNat (IntKind.wrap .i64 (x9 - 1)) * 1)) fun v_76 => (intV v_76 .i64 fun i_77 => (CF Try.prog 35 [(Value.int .i64 i_77), (Value.slice x0a x0n x0c), (Value.int .i64 x6)] hp fun u_78 h_79 => (intV u_78 .i64 fun i_80 => (ite2 (decide ((i_80 : Int) > x10)) (F6_j12 x0a x0n x0c x3 x4 x5 x6 x8a x8n x8c x9 true h_79 I3 I10 K) ((0 ≤ ((IntKind.wrap .i64 (x9 - 1)) : Int)) ∧ (((IntKind.wrap .i64 (x9 - 1)) : Int) < (x8n : Nat)) ∧ (ptrN x8a fun b_81 o_82 => (ldV (HP.cell h_79 b_81 (o_82 + Int.toNat (IntKind.wrap .i64 (x9 - 1)) * 1)) fun v_83 => (intV v_83 .i64 fun i_84 => (CF Try.prog 35 [(Value.int .i64 i_84), (Value.slice x0a x0n x0c), (Value.int .i64 x6)] h_79 fun u_85 h_86 => (intV u_85 .i64 fun i_87 => (ite2 ((i_87 : Int) == x10) ((0 ≤ ((IntKind.wrap .i64 (x9 - 1)) : Int)) ∧ (((IntKind.wrap .i64 (x9 - 1)) : Int) < (x8n : Nat)) ∧ (ptrN x8a fun b_88 o_89 => (ldV (HP.cell h_86 b_88 (o_89 + Int.toNat (IntKind.wrap .i64 (x9 - 1)) * 1)) fun v_90 => (intV v_90 .i64 fun i_91 => ((0 ≤ (x9 : Int)) ∧ ((x9 : Int) < (x8n : Nat)) ∧ (ptrN x8a fun b_92 o_93 => (ldV (HP.cell h_86 b_92 (o_93 + Int.toNat x9 * 1)) fun v_94 => (intV v_94 .i64 fun i_95 => (F6_j12 x0a x0n x0c x3 x4 x5 x6 x8a x8n x8c x9 (decide ((i_91 : Int) > i_95)) h_86 I3 I10 K))))))))) (F6_j12 x0a x0n x0c x3 x4 x5 x6 x8a x8n x8c x9 false h_86 I3 I10 K))))))))))))))) (F6_j12 x0a x0n x0c x3 x4 x5 x6 x8a x8n x8c x9 false hp I3 I10 K)))
theorem F6_r34 (e : Env) (x5 : Int) (x10 : Int) (x11 : Bool) (hp : HP) (K : Env → PV → HP → Prop) : RW Try.prog 144 [7, 30, 35, 37, 42, 44, 49, 53, 58] (opsAt Try.f6 [1, 1, 1, 1, 1, 0, 1, 0, 0, 1, 0, 0, 1, 0, 1, 0, 1, 1, 1, 1, 1, 0, 1, 1, 0, 1, 0, 0, 1, 0, 0, 1, 0, 0]) (List.range 7) (upd (upd (upd e 11 (sB (x11))) 10 (sI (x10))) 5 (sI (x5))) V0 hp K =
    (ite2 (!x11) (K (upd (upd (upd (upd (upd (upd (upd (upd (upd (upd e 11 (sB (x11))) 10 (sI (x10))) 5 (sI (x5))) 79 (sB (x11))) 80 (sB ((!x11)))) 81 (sB (true))) 82 (sV undef)) 83 (sV undef)) 84 (sV undef)) 85 (sB (true))) V0 hp) (K (upd (upd (upd (upd (upd (upd (upd (upd (upd (upd e 11 (sB (x11))) 10 (sI (x10))) 5 (sI (x5))) 79 (sB (x11))) 80 (sB ((!x11)))) 81 (sB (false))) 82 (sI (x10))) 83 (sI (x5))) 84 (sB ((decide ((x10 : Int) > x5))))) 85 (sB ((decide ((x10 : Int) > x5))))) V0 hp)) := by kernel_rfl
def F6_l10 (x0a : Option Addr) (x0n : Nat) (x0c : Nat) (x3 : Option Addr) (x4 : Option Nat) (x5 : Int) (x6 : Int) (x8a : Option Addr) (x8n : Nat) (x8c : Nat) (I3 : (Int × Int) → HP → Prop) (K : Value → HP → Prop) (I10 : (Int) → HP → Prop) (x9 : Int) (hp : HP) : Prop :=
  (ite2 (decide ((x9 : Int) < (x8n : Nat))) ((0 ≤ (x9 : Int)) ∧ ((x9 : Int) < (x8n : Nat)) ∧ (ptrN x8a fun b_59 o_60 => (ldV (HP.cell hp b_59 (o_60 + Int.toNat x9 * 1)) fun v_61 => (intV v_61 .i64 fun i_62 => (rdS Try.prog (Instr.lookup 49 (Value.map x4) (Value.int .i64 i_62) true) hp fun u_63 => (tup2V u_63 fun u_64 u_65 => (intV u_64 .i64 fun i_66 => (boolV u_65 fun q_67 => (ite2 (!q_67) (F6_j11 x0a x0n x0c x3 x4 x5 x6 x8a x8n x8c x9 i_66 true hp I3 I10 K) (F6_j11 x0a x0n x0c x3 x4 x5 x6 x8a x8n x8c x9 i_66 (decide ((i_66 : Int) > x5)) hp I3 I10 K)))))))))) (F6_j6 x0a x0n x0c x3 x4 x5 x6 hp I3 K))
def F6_j9 (x0a : Option Addr) (x0n : Nat) (x0c : Nat) (x3 : Option Addr) (x4 : Option Nat) (x5 : Int) (x6 : Int) (x8a : Option Addr) (x8n : Nat) (x8c : Nat) (x9 : Int) (hp : HP) (I3 : (Int × Int) → HP → Prop) (K : Value → HP → Prop) : Prop :=
  (LoopP (σ := Int) (fun I s hp => F6_l10 x0a x0n x0c x3 x4 x5 x6 x8a x8n x8c I3 K I s hp) x9 hp)
theorem F6_r35 (e : Env) (hp : HP) (K : Env → PV → HP → Prop) : RW Try.prog 144 [7, 30, 35, 37, 42, 44, 49, 53, 58] (opsAt Try.f6 [1, 1, 1, 1, 1, 0, 1, 0, 0, 1, 0, 0, 1, 0, 1, 0, 1, 1, 1, 1, 1, 0, 1, 1, 0, 0]) (List.range 1) e V0 hp K =
    (K (upd e 9 (sI (0))) V0 hp) := by kernel_rfl
def F6_l3 (x0a : Option Addr) (x0n : Nat) (x0c : Nat) (x3 : Option Addr) (x4 : Option Nat) (K : Value → HP → Prop) (I3 : (Int × Int) → HP → Prop) (x5 : Int) (x6 : Int) (hp : HP) : Prop :=
  (ite2 (decide ((x6 : Int) < (x0n : Nat))) ((0 ≤ (x6 : Int)) ∧ ((x6 : Int) < (x0n : Nat)) ∧ (ptrN x0a fun b_11 o_12 => (ldL (HP.cellN hp b_11 (o_12 + Int.toNat x6 * 3) 3) fun l_13 => (if List.length l_13 = 3 then (if List.all l_13 one = true then (if 0 + List.length l_13 ≤ List.length [(Value.int .u8 0), (Value.int .i64 0), (Value.int .i64 0)] then (ldV ((splice [(Value.int .u8 0), (Value.int .i64 0), (Value.int .i64 0)] 0 l_13))[0]? fun v_19 => (intV v_19 .u8 fun i_20 => (ite2 ((i_20 : Int) == 0) (ldV ((splice [(Value.int .u8 0), (Value.int .i64 0), (Value.int .i64 0)] 0 l_13))[1]? fun v_21 => (intV v_21 .i64 fun i_22 => (ldV ((splice [(Value.int .u8 0), (Value.int .i64 0), (Value.int .i64 0)] 0 l_13))[2]? fun v_23 => (intV v_23 .i64 fun i_24 => (CF Try.prog 30 [(Value.pointer x3), (Value.int .i64 i_22), (Value.int .i64 i_24)] hp fun u_25 h_26 => (intV u_25 .i64 fun i_27 => (ite2 ((i_27 : Int) == 0) (ldV ((splice [(Value.int .u8 0), (Value.int .i64 0), (Value.int .i64 0)] 0 l_13))[1]? fun v_28 => (intV v_28 .i64 fun i_29 => (ldV ((splice [(Value.int .u8 0), (Value.int .i64 0), (Value.int .i64 0)] 0 l_13))[2]? fun v_30 => (intV v_30 .i64 fun i_31 => (opS Try.prog (Instr.mapUpdate 49 (Value.map x4) (Value.int .i64 i_29) (Value.int .i64 i_31)) h_26 fun u_32 h_33 => (F6_j5 x0a x0n x0c x3 x4 x5 x6 h_33 I3 K)))))) (F6_j5 x0a x0n x0c x3 x4 x5 x6 h_26 I3 K)))))))) (ite2 ((i_20 : Int) == 1) (ldV ((splice [(Value.int .u8 0), (Value.int .i64 0), (Value.int .i64 0)] 0 l_13))[1]? fun v_34 => (intV v_34 .i64 fun i_35 => (CF Try.prog 34 [(Value.pointer x3), (Value.int .i64 i_35)] hp fun u_36 h_37 => (boolV u_36 fun q_38 => (ldV ((splice [(Value.int .u8 0), (Value.int .i64 0), (Value.int .i64 0)] 0 l_13))[1]? fun v_39 => (intV v_39 .i64 fun i_40 => (opS Try.prog (Builtin.delete_ #[49, 3] 0 ⟨[(Value.map x4), (Value.int .i64 i_40)]⟩) h_37 fun u_41 h_42 => (F6_j5 x0a x0n x0c x3 x4 x5 x6 h_42 I3 K)))))))) (ite2 ((i_20 : Int) == 2) (ldV ((splice [(Value.int .u8 0), (Value.int .i64 0), (Value.int .i64 0)] 0 l_13))[2]? fun v_43 => (intV v_43 .i64 fun i_44 => (CF Try.prog 31 [(Value.pointer x3), (Value.int .i64 (if (i_44 : Int) > x5 then i_44 else x5))] hp fun u_45 h_46 => (slcV u_45 fun a_47 n_48 c_49 => (F6_j9 x0a x0n x0c x3 x4 (if (i_44 : Int) > x5 then i_44 else x5) x6 a_47 n_48 c_49 0 h_46 I3 K))))) (F6_j5 x0a x0n x0c x3 x4 x5 x6 hp I3 K)))))) else False) else False) else False)))) (F6_j1  hp  K))
def F6_j2 (x0a : Option Addr) (x0n : Nat) (x0c : Nat) (x3 : Option Addr) (x4 : Option Nat) (x5 : Int) (x6 : Int) (hp : HP) (K : Value → HP → Prop) : Prop :=
  (LoopP (σ := Int × Int) (fun I s hp => F6_l3 x0a x0n x0c x3 x4  K I s.1 s.2 hp) (x5, x6) hp)
theorem F6_r36 (e : Env) (hp : HP) (K : Env → PV → HP → Prop) : RW Try.prog 144 [7, 30, 35, 37, 42, 44, 49, 53, 58] (opsAt Try.f6 [1, 1, 1, 1, 1, 0, 0]) (List.range 1) e V0 hp K =
    (K (upd e 6 (sI (0))) V0 hp) := by kernel_rfl
def F6 (x0a : Option Addr) (x0n : Nat) (x0c : Nat) (hp : HP) (K : Value → HP → Prop) : Prop :=
  (ite2 (decide (((x0n : Nat) : Int) > 200)) (CF Try.prog 28 [] hp fun u_1 h_2 => (boolV u_1 fun q_3 => (K (Value.bool q_3) h_2))) (CF Try.prog 29 [] hp fun u_4 h_5 => (ptrV u_4 fun p_6 => (∀ b_7 : Nat, h_5 b_7 = .none → (F6_j2 x0a x0n x0c p_6 (some b_7) 0 0 (HP.set h_5 b_7 (.obj (.map #[] 0)))  K)))))
noncomputable def F6_code : Code := (.seq (.region 0 (opsAt Try.f6 [0]) false) (.seq (.seq (.region 1 (opsAt Try.f6 [1, 0, 0]) false) (.cond (.tmp 16) (.seq (.region 2 (opsAt Try.f6 [1, 0, 1, 0, 0]) false) .ret) .skip)) (.seq (.region 3 (opsAt Try.f6 [1, 1, 0]) false) (.seq (.region 4 (opsAt Try.f6 [1, 1, 1, 0]) false) (.seq (.region 5 (opsAt Try.f6 [1, 1, 1, 1, 0]) false) (.seq (.seq (.region 6 (opsAt Try.f6 [1, 1, 1, 1, 1, 0, 0]) false) (.block 0 (.loop (.seq (.seq (.region 7 (opsAt Try.f6 [1, 1, 1, 1, 1, 0, 1, 0, 0, 0, 0]) false) (.cond (.tmp 23) .skip (.exit 0))) (.seq (.block 1 (.seq (.region 9 (opsAt Try.f6 [1, 1, 1, 1, 1, 0, 1, 0, 0, 1, 0, 0, 0]) false) (.seq (.seq (.region 10 (opsAt Try.f6 [1, 1, 1, 1, 1, 0, 1, 0, 0, 1, 0, 0, 1, 0, 0]) false) (.block 2 (.seq (.region 11 (opsAt Try.f6 [1, 1, 1, 1, 1, 0, 1, 0, 0, 1, 0, 0, 1, 0, 1, 0, 0]) false) (.cond (.tmp 32) (.seq (.region 12 (opsAt Try.f6 [1, 1, 1, 1, 1, 0, 1, 0, 0, 1, 0, 0, 1, 0, 1, 0, 1, 0, 0]) false) (.cond (.tmp 40) (.region 13 (opsAt Try.f6 [1, 1, 1, 1, 1, 0, 1, 0, 0, 1, 0, 0, 1, 0, 1, 0, 1, 0, 1, 0]) false) .skip)) (.seq (.region 14 (opsAt Try.f6 [1, 1, 1, 1, 1, 0, 1, 0, 0, 1, 0, 0, 1, 0, 1, 0, 1, 1, 0]) false) (.cond (.tmp 46) (.seq (.region 15 (opsAt Try.f6 [1, 1, 1, 1, 1, 0, 1, 0, 0, 1, 0, 0, 1, 0, 1, 0, 1, 1, 1, 0, 0]) false) (.region 16 (opsAt Try.f6 [1, 1, 1, 1, 1, 0, 1, 0, 0, 1, 0, 0, 1, 0, 1, 0, 1, 1, 1, 0, 1]) false)) (.seq (.region 17 (opsAt Try.f6 [1, 1, 1, 1, 1, 0, 1, 0, 0, 1, 0, 0, 1, 0, 1, 0, 1, 1, 1, 1, 0]) false) (.cond (.tmp 55) (.seq (.region 18 (opsAt Try.f6 [1, 1, 1, 1, 1, 0, 1, 0, 0, 1, 0, 0, 1, 0, 1, 0, 1, 1, 1, 1, 1, 0, 0]) false) (.seq (.region 19 (opsAt Try.f6 [1, 1, 1, 1, 1, 0, 1, 0, 0, 1, 0, 0, 1, 0, 1, 0, 1, 1, 1, 1, 1, 0, 1, 0]) false) (.seq (.seq (.region 20 (opsAt Try.f6 [1, 1, 1, 1, 1, 0, 1, 0, 0, 1, 0, 0, 1, 0, 1, 0, 1, 1, 1, 1, 1, 0, 1, 1, 0, 0]) false) (.block 3 (.loop (.seq (.seq (.region 21 (opsAt Try.f6 [1, 1, 1, 1, 1, 0, 1, 0, 0, 1, 0, 0, 1, 0, 1, 0, 1, 1, 1, 1, 1, 0, 1, 1, 0, 1, 0, 0, 0, 0]) false) (.cond (.tmp 67) .skip (.exit 3))) (.seq (.block 4 (.seq (.region 23 (opsAt Try.f6 [1, 1, 1, 1, 1, 0, 1, 0, 0, 1, 0, 0, 1, 0, 1, 0, 1, 1, 1, 1, 1, 0, 1, 1, 0, 1, 0, 0, 1, 0, 0, 0]) false) (.seq (.seq (.region 24 (opsAt Try.f6 [1, 1, 1, 1, 1, 0, 1, 0, 0, 1, 0, 0, 1, 0, 1, 0, 1, 1, 1, 1, 1, 0, 1, 1, 0, 1, 0, 0, 1, 0, 0, 1, 0, 0]) false) (.cond (.tmp 85) (.seq (.region 25 (opsAt Try.f6 [1, 1, 1, 1, 1, 0, 1, 0, 0, 1, 0, 0, 1, 0, 1, 0, 1, 1, 1, 1, 1, 0, 1, 1, 0, 1, 0, 0, 1, 0, 0, 1, 0, 1, 0, 0]) false) .ret) .skip)) (.seq (.seq (.region 26 (opsAt Try.f6 [1, 1, 1, 1, 1, 0, 1, 0, 0, 1, 0, 0, 1, 0, 1, 0, 1, 1, 1, 1, 1, 0, 1, 1, 0, 1, 0, 0, 1, 0, 0, 1, 1, 0, 0]) true) (.cond (.tmp 123) (.seq (.region 27 (opsAt Try.f6 [1, 1, 1, 1, 1, 0, 1, 0, 0, 1, 0, 0, 1, 0, 1, 0, 1, 1, 1, 1, 1, 0, 1, 1, 0, 1, 0, 0, 1, 0, 0, 1, 1, 0, 1, 0, 0]) false) .ret) .skip)) (.region 28 (opsAt Try.f6 [1, 1, 1, 1, 1, 0, 1, 0, 0, 1, 0, 0, 1, 0, 1, 0, 1, 1, 1, 1, 1, 0, 1, 1, 0, 1, 0, 0, 1, 0, 0, 1, 1, 1]) false))))) (.region 22 (opsAt Try.f6 [1, 1, 1, 1, 1, 0, 1, 0, 0, 1, 0, 0, 1, 0, 1, 0, 1, 1, 1, 1, 1, 0, 1, 1, 0, 1, 0, 0, 1, 1]) false)))))) (.seq (.region 29 (opsAt Try.f6 [1, 1, 1, 1, 1, 0, 1, 0, 0, 1, 0, 0, 1, 0, 1, 0, 1, 1, 1, 1, 1, 0, 1, 1, 1, 0]) false) (.block 5 (.loop (.seq (.region 30 (opsAt Try.f6 [1, 1, 1, 1, 1, 0, 1, 0, 0, 1, 0, 0, 1, 0, 1, 0, 1, 1, 1, 1, 1, 0, 1, 1, 1, 1, 0, 0, 0]) false) (.seq (.cond (.tmp 132) .skip (.exit 5)) (.block 6 (.seq (.region 31 (opsAt Try.f6 [1, 1, 1, 1, 1, 0, 1, 0, 0, 1, 0, 0, 1, 0, 1, 0, 1, 1, 1, 1, 1, 0, 1, 1, 1, 1, 0, 0, 1, 1, 0, 0]) false) (.seq (.region 32 (opsAt Try.f6 [1, 1, 1, 1, 1, 0, 1, 0, 0, 1, 0, 0, 1, 0, 1, 0, 1, 1, 1, 1, 1, 0, 1, 1, 1, 1, 0, 0, 1, 1, 0, 1, 0]) false) (.cond (.tmp 137) (.seq (.region 33 (opsAt Try.f6 [1, 1, 1, 1, 1, 0, 1, 0, 0, 1, 0, 0, 1, 0, 1, 0, 1, 1, 1, 1, 1, 0, 1, 1, 1, 1, 0, 0, 1, 1, 0, 1, 1, 0, 0]) false) .ret) .skip)))))))))))) .skip)))))))) (.seq (.region 34 (opsAt Try.f6 [1, 1, 1, 1, 1, 0, 1, 0, 0, 1, 0, 0, 1, 1, 0]) false) (.cond (.tmp 142) (.seq (.region 35 (opsAt Try.f6 [1, 1, 1, 1, 1, 0, 1, 0, 0, 1, 0, 0, 1, 1, 1, 0, 0]) false) .ret) .skip))))) (.region 8 (opsAt Try.f6 [1, 1, 1, 1, 1, 0, 1, 0, 0, 1, 1]) false)))))) (.seq (.region 36 (opsAt Try.f6 [1, 1, 1, 1, 1, 1, 0]) false) .ret)))))))
theorem F6_body : Try.f6.body = some F6_code := by kernel_rfl
theorem F6_ok (x0a : Option Addr) (x0n : Nat) (x0c : Nat) (hp : HP) (K : Value → HP → Prop) (h : F6 x0a x0n x0c hp K) : CF Try.prog 6 [(Value.slice x0a x0n x0c)] hp K := by
 refine .inl ⟨by kernel_rfl, AC.intro (N := 144) Try.func6 F6_body rfl (Nat.le_of_ble_eq_true rfl) ?_⟩
 unfold F6 at h
 unfold F6_code
 refine AWP.seq' ?_
 refine AWP.rgn (F6_r0 (upd E0 0 (sV (Value.slice x0a x0n x0c)))  hp _) ?_ (Rv 0 _ (Rn)) (Sc rfl (Sn)) (Sn)
 refine AWP.seq' ?_
 refine AWP.seq' ?_
 refine AWP.rgn (F6_r1 E0 x0a x0n x0c hp _) ?_ (Rv 0 _ (Rn)) (Sc rfl (Sn)) (Sn)
 refine AWP.cond (t := (decide (((x0n : Nat) : Int) > 200))) rfl (fun e => ?_) (fun e => ?_)
 ·replace h := ite2_t h e
  refine AWP.seq' ?_
  refine AWP.rgn (F6_r2 E0  hp _) ?_ (Rn) (Sn) (Sn)
  refine CF_mono h (fun u_1 h_2 h => ?_)
  refine boolV_mono h (fun q_3 h => ?_)
  refine AWP.ret ?_
  exact h
 ·replace h := ite2_f h e
  refine AWP.skip ?_
  refine AWP.seq' ?_
  refine AWP.rgn (F6_r3 (upd E0 0 (sV (Value.slice x0a x0n x0c)))  hp _) ?_ (Rv 0 _ (Rn)) (Sc rfl (Sn)) (Sn)
  refine CF_mono h (fun u_4 h_5 h => ?_)
  refine ptrV_mono h (fun p_6 h => ?_)
  refine AWP.seq' ?_
  refine AWP.rgn (F6_r4 (upd (upd E0 3 (sV (Value.pointer p_6))) 0 (sV (Value.slice x0a x0n x0c)))  h_5 _) ?_ (Rv 0 _ (Rv 3 _ (Rn))) (Sc rfl (Sc rfl (Sn))) (Sn)
  refine fun b_7 hb_b_7 => ?_
  replace h := h b_7 hb_b_7
  refine AWP.seq' ?_
  refine AWP.rgn (F6_r5 (upd (upd (upd E0 4 (sV (Value.map (some b_7)))) 3 (sV (Value.pointer p_6))) 0 (sV (Value.slice x0a x0n x0c)))  (HP.set h_5 b_7 (.obj (.map #[] 0))) _) ?_ (Rv 0 _ (Rv 3 _ (Rv 4 _ (Rn)))) (Sc rfl (Sc rfl (Sc rfl (Sn)))) (Sn)
  refine AWP.seq (fun env pv hp => Sub E0 env ∧ Sub V0 pv ∧ (F6_j1  hp  K)) ?_ ?_
  ·refine AWP.seq (fun env pv hp => ∃ (x0a : Option Addr) (x0n : Nat) (x0c : Nat) (x3 : Option Addr) (x4 : Option Nat) (x5 : Int) (x6 : Int), Sub (upd (upd (upd (upd (upd E0 6 (sI (x6))) 5 (sI (x5))) 4 (sV (Value.map x4))) 3 (sV (Value.pointer x3))) 0 (sV (Value.slice x0a x0n x0c))) env ∧ Sub V0 pv ∧ (F6_j2 x0a x0n x0c x3 x4 x5 x6 hp  K)) ?_ ?_
   ·refine AWP.rgn (F6_r36 (upd (upd (upd (upd E0 5 (sI (0))) 4 (sV (Value.map (some b_7)))) 3 (sV (Value.pointer p_6))) 0 (sV (Value.slice x0a x0n x0c)))  (HP.set h_5 b_7 (.obj (.map #[] 0))) _) ?_ (Rv 0 _ (Rv 3 _ (Rv 4 _ (Rv 5 _ (Rn))))) (Sc rfl (Sc rfl (Sc rfl (Sc rfl (Sn))))) (Sn)
    exact ⟨x0a, x0n, x0c, p_6, (some b_7), 0, 0, (Sc rfl (Sc rfl (Sc rfl (Sc rfl (Sc rfl (Sn)))))), (Sn), h⟩
   ·rintro env pv hp ⟨x0a, x0n, x0c, x3, x4, x5, x6, he, hv, h⟩
    refine AWP.sub (env' := (upd (upd (upd (upd (upd E0 6 (sI (x6))) 5 (sI (x5))) 4 (sV (Value.map x4))) 3 (sV (Value.pointer x3))) 0 (sV (Value.slice x0a x0n x0c)))) (pv' := V0) ?_ (Rv 0 _ (Rv 3 _ (Rv 4 _ (Rv 5 _ (Rv 6 _ (Rn)))))) he hv (HSub.refl _)
    clear he hv
    unfold F6_j2 at h
    refine AWP.block ?_
    refine AWP.loop (σ := Int × Int) (fun I s hp => F6_l3 x0a x0n x0c x3 x4  K I s.1 s.2 hp) (fun s => (upd (upd (upd (upd (upd E0 6 (sI (s.2))) 5 (sI (s.1))) 4 (sV (Value.map x4))) 3 (sV (Value.pointer x3))) 0 (sV (Value.slice x0a x0n x0c)))) (fun s => V0) (x5, x6) h (fun s => (Rv 0 _ (Rv 3 _ (Rv 4 _ (Rv 5 _ (Rv 6 _ (Rn))))))) (Sc rfl (Sc rfl (Sc rfl (Sc rfl (Sc rfl (Sn)))))) (Sn) ?_
    intro I3 s hp h
    obtain ⟨x5, x6⟩ := s
    replace h : F6_l3 x0a x0n x0c x3 x4  K I3 x5 x6 hp := h
    unfold F6_l3 at h
    refine AWP.seq' ?_
    refine AWP.seq' ?_
    refine AWP.rgn (F6_r7 (upd (upd (upd E0 5 (sI (x5))) 4 (sV (Value.map x4))) 3 (sV (Value.pointer x3))) x0a x0n x0c x6 hp _) ?_ (Rv 0 _ (Rv 6 _ (Rv 3 _ (Rv 4 _ (Rv 5 _ (Rn)))))) (Sc rfl (Sc rfl (Sc rfl (Sc rfl (Sc rfl (Sn)))))) (Sn)
    refine AWP.cond (t := (decide ((x6 : Int) < (x0n : Nat)))) rfl (fun e => ?_) (fun e => ?_)
    ·replace h := ite2_t h e
     refine AWP.skip ?_
     refine AWP.seq (fun env pv hp => ∃ (x5 : Int) (x6 : Int), Sub (upd (upd (upd (upd (upd E0 6 (sI (x6))) 5 (sI (x5))) 4 (sV (Value.map x4))) 3 (sV (Value.pointer x3))) 0 (sV (Value.slice x0a x0n x0c))) env ∧ Sub V0 pv ∧ (F6_j4 x0a x0n x0c x3 x4 x5 x6 hp I3 K)) ?_ ?_
     ·refine AWP.block ?_
      refine AWP.seq' ?_
      refine AWP.rgn (F6_r9 (upd (upd (upd E0 5 (sI (x5))) 4 (sV (Value.map x4))) 3 (sV (Value.pointer x3))) x0a x0n x0c x6 hp _) ?_ (Rv 0 _ (Rv 6 _ (Rv 3 _ (Rv 4 _ (Rv 5 _ (Rn)))))) (Sc rfl (Sc rfl (Sc rfl (Sc rfl (Sc rfl (Sn)))))) (Sn)
      refine ⟨h.1, h.2.1, ?_⟩
      replace h := h.2.2
      refine ptrN_mono h (fun b_11 o_12 h => ?_)
      refine ldL_mono h (fun l_13 h => ?_)
      refine if_mono h (fun h => ?_)
      refine if_mono h (fun h => ?_)
      refine if_mono h (fun h => ?_)
      refine AWP.seq (fun env pv hp => ∃ (x5 : Int) (x6 : Int), Sub (upd (upd (upd (upd (upd E0 6 (sI (x6))) 5 (sI (x5))) 4 (sV (Value.map x4))) 3 (sV (Value.pointer x3))) 0 (sV (Value.slice x0a x0n x0c))) env ∧ Sub V0 pv ∧ (F6_j5 x0a x0n x0c x3 x4 x5 x6 hp I3 K)) ?_ ?_
      ·refine AWP.seq' ?_
       refine AWP.rgn (F6_r12 (upd (upd (upd (upd (upd E0 6 (sI (x6))) 5 (sI (x5))) 4 (sV (Value.map x4))) 3 (sV (Value.pointer x3))) 0 (sV (Value.slice x0a x0n x0c))) (splice [(Value.int .u8 0), (Value.int .i64 0), (Value.int .i64 0)] 0 l_13) hp _) ?_ (RefOk.p 7 7 0 (Rv 0 _ (Rv 3 _ (Rv 4 _ (Rv 5 _ (Rv 6 _ (Rn)))))) (fun e => by cases e)) (Sc rfl (Sc rfl (Sc rfl (Sc rfl (Sc rfl (Sc rfl (Sn))))))) (Sc rfl (Sn))
       refine ldV_mono h (fun v_19 h => ?_)
       refine intV_mono h (fun i_20 h => ?_)
       refine AWP.block ?_
       refine AWP.seq' ?_
       refine AWP.rgn (F6_r13 (upd (upd (upd (upd (upd (upd E0 7 (SV.priv 7 0)) 6 (sI (x6))) 5 (sI (x5))) 4 (sV (Value.map x4))) 3 (sV (Value.pointer x3))) 0 (sV (Value.slice x0a x0n x0c))) i_20 (splice [(Value.int .u8 0), (Value.int .i64 0), (Value.int .i64 0)] 0 l_13) hp _) ?_ (Rv 31 _ (Rv 0 _ (Rv 3 _ (Rv 4 _ (Rv 5 _ (Rv 6 _ (RefOk.p 7 7 0 (Rn) (fun e => by cases e)))))))) (Sc rfl (Sc rfl (Sc rfl (Sc rfl (Sc rfl (Sc rfl (Sc rfl (Sn)))))))) (Sc rfl (Sn))
       refine AWP.cond (t := ((i_20 : Int) == 0)) rfl (fun e => ?_) (fun e => ?_)
       ·replace h := ite2_t h e
        refine AWP.seq' ?_
        refine AWP.rgn (F6_r14 (upd (upd (upd (upd E0 6 (sI (x6))) 5 (sI (x5))) 4 (sV (Value.map x4))) 0 (sV (Value.slice x0a x0n x0c))) x3 (splice [(Value.int .u8 0), (Value.int .i64 0), (Value.int .i64 0)] 0 l_13) hp _) ?_ (Rv 3 _ (RefOk.p 7 7 0 (Rv 0 _ (Rv 4 _ (Rv 5 _ (Rv 6 _ (Rn))))) (fun e => by cases e))) (Sc rfl (Sc rfl (Sc rfl (Sc rfl (Sc rfl (Sc rfl (Sn))))))) (Sc rfl (Sn))
        refine ldV_mono h (fun v_21 h => ?_)
        refine intV_mono h (fun i_22 h => ?_)
        refine ldV_mono h (fun v_23 h => ?_)
        refine intV_mono h (fun i_24 h => ?_)
        refine CF_mono h (fun u_25 h_26 h => ?_)
        refine intV_mono h (fun i_27 h => ?_)
        refine AWP.cond (t := ((i_27 : Int) == 0)) rfl (fun e => ?_) (fun e => ?_)
        ·replace h := ite2_t h e
         refine AWP.rgn (F6_r15 (upd (upd (upd (upd E0 6 (sI (x6))) 5 (sI (x5))) 3 (sV (Value.pointer x3))) 0 (sV (Value.slice x0a x0n x0c))) x4 (splice [(Value.int .u8 0), (Value.int .i64 0), (Value.int .i64 0)] 0 l_13) h_26 _) ?_ (Rv 4 _ (RefOk.p 7 7 0 (Rv 0 _ (Rv 3 _ (Rv 5 _ (Rv 6 _ (Rn))))) (fun e => by cases e))) (Sc rfl (Sc rfl (Sc rfl (Sc rfl (Sc rfl (Sc rfl (Sn))))))) (Sc rfl (Sn))
         refine ldV_mono h (fun v_28 h => ?_)
         refine intV_mono h (fun i_29 h => ?_)
         refine ldV_mono h (fun v_30 h => ?_)
         refine intV_mono h (fun i_31 h => ?_)
         refine opS_mono h (fun u_32 h_33 h => ?_)
         exact ⟨x5, x6, (Sc rfl (Sc rfl (Sc rfl (Sc rfl (Sc rfl (Sn)))))), (Sn), h⟩
        ·replace h := ite2_f h e
         refine AWP.skip ?_
         exact ⟨x5, x6, (Sc rfl (Sc rfl (Sc rfl (Sc rfl (Sc rfl (Sn)))))), (Sn), h⟩
       ·replace h := ite2_f h e
        refine AWP.seq' ?_
        refine AWP.rgn (F6_r16 (upd (upd (upd (upd (upd (upd E0 7 (SV.priv 7 0)) 6 (sI (x6))) 5 (sI (x5))) 4 (sV (Value.map x4))) 3 (sV (Value.pointer x3))) 0 (sV (Value.slice x0a x0n x0c))) i_20 (splice [(Value.int .u8 0), (Value.int .i64 0), (Value.int .i64 0)] 0 l_13) hp _) ?_ (Rv 31 _ (Rv 0 _ (Rv 3 _ (Rv 4 _ (Rv 5 _ (Rv 6 _ (RefOk.p 7 7 0 (Rn) (fun e => by cases e)))))))) (Sc rfl (Sc rfl (Sc rfl (Sc rfl (Sc rfl (Sc rfl (Sc rfl (Sn)))))))) (Sc rfl (Sn))
        refine AWP.cond (t := ((i_20 : Int) == 1)) rfl (fun e => ?_) (fun e => ?_)
        ·replace h := ite2_t h e
         refine AWP.seq' ?_
         refine AWP.rgn (F6_r17 (upd (upd (upd (upd E0 6 (sI (x6))) 5 (sI (x5))) 4 (sV (Value.map x4))) 0 (sV (Value.slice x0a x0n x0c))) x3 (splice [(Value.int .u8 0), (Value.int .i64 0), (Value.int .i64 0)] 0 l_13) hp _) ?_ (Rv 3 _ (RefOk.p 7 7 0 (Rv 0 _ (Rv 4 _ (Rv 5 _ (Rv 6 _ (Rn))))) (fun e => by cases e))) (Sc rfl (Sc rfl (Sc rfl (Sc rfl (Sc rfl (Sc rfl (Sn))))))) (Sc rfl (Sn))
         refine ldV_mono h (fun v_34 h => ?_)
         refine intV_mono h (fun i_35 h => ?_)
         refine CF_mono h (fun u_36 h_37 h => ?_)
         refine boolV_mono h (fun q_38 h => ?_)
         refine AWP.rgn (F6_r18 (upd (upd (upd (upd E0 6 (sI (x6))) 5 (sI (x5))) 3 (sV (Value.pointer x3))) 0 (sV (Value.slice x0a x0n x0c))) x4 (splice [(Value.int .u8 0), (Value.int .i64 0), (Value.int .i64 0)] 0 l_13) h_37 _) ?_ (Rv 4 _ (RefOk.p 7 7 0 (Rv 0 _ (Rv 3 _ (Rv 5 _ (Rv 6 _ (Rn))))) (fun e => by cases e))) (Sc rfl (Sc rfl (Sc rfl (Sc rfl (Sc rfl (Sc rfl (Sn))))))) (Sc rfl (Sn))
         refine ldV_mono h (fun v_39 h => ?_)
         refine intV_mono h (fun i_40 h => ?_)
         refine opS_mono h (fun u_41 h_42 h => ?_)
         exact ⟨x5, x6, (Sc rfl (Sc rfl (Sc rfl (Sc rfl (Sc rfl (Sn)))))), (Sn), h⟩
        ·replace h := ite2_f h e
         refine AWP.seq' ?_
         refine AWP.rgn (F6_r19 (upd (upd (upd (upd (upd (upd E0 7 (SV.priv 7 0)) 6 (sI (x6))) 5 (sI (x5))) 4 (sV (Value.map x4))) 3 (sV (Value.pointer x3))) 0 (sV (Value.slice x0a x0n x0c))) i_20 (splice [(Value.int .u8 0), (Value.int .i64 0), (Value.int .i64 0)] 0 l_13) hp _) ?_ (Rv 31 _ (Rv 0 _ (Rv 3 _ (Rv 4 _ (Rv 5 _ (Rv 6 _ (RefOk.p 7 7 0 (Rn) (fun e => by cases e)))))))) (Sc rfl (Sc rfl (Sc rfl (Sc rfl (Sc rfl (Sc rfl (Sc rfl (Sn)))))))) (Sc rfl (Sn))
         refine AWP.cond (t := ((i_20 : Int) == 2)) rfl (fun e => ?_) (fun e => ?_)
         ·replace h := ite2_t h e
          refine AWP.seq' ?_
          refine AWP.rgn (F6_r20 (upd (upd (upd (upd E0 6 (sI (x6))) 4 (sV (Value.map x4))) 3 (sV (Value.pointer x3))) 0 (sV (Value.slice x0a x0n x0c))) x5 (splice [(Value.int .u8 0), (Value.int .i64 0), (Value.int .i64 0)] 0 l_13) hp _) ?_ (Rv 5 _ (RefOk.p 7 7 0 (Rv 0 _ (Rv 3 _ (Rv 4 _ (Rv 6 _ (Rn))))) (fun e => by cases e))) (Sc rfl (Sc rfl (Sc rfl (Sc rfl (Sc rfl (Sc rfl (Sn))))))) (Sc rfl (Sn))
          refine ldV_mono h (fun v_43 h => ?_)
          refine intV_mono h (fun i_44 h => ?_)
          refine AWP.seq' ?_
          refine AWP.rgn (F6_r21 (upd (upd (upd E0 6 (sI (x6))) 4 (sV (Value.map x4))) 0 (sV (Value.slice x0a x0n x0c))) x3 (if (i_44 : Int) > x5 then i_44 else x5) hp _) ?_ (Rv 3 _ (Rv 5 _ (Rv 0 _ (Rv 4 _ (Rv 6 _ (Rn)))))) (Sc rfl (Sc rfl (Sc rfl (Sc rfl (Sc rfl (Sn)))))) (Sn)
          refine CF_mono h (fun u_45 h_46 h => ?_)
          refine slcV_mono h (fun a_47 n_48 c_49 h => ?_)
          refine AWP.seq (fun env pv hp => ∃ (x5 : Int) (x6 : Int), Sub (upd (upd (upd (upd (upd E0 6 (sI (x6))) 5 (sI (x5))) 4 (sV (Value.map x4))) 3 (sV (Value.pointer x3))) 0 (sV (Value.slice x0a x0n x0c))) env ∧ Sub V0 pv ∧ (F6_j6 x0a x0n x0c x3 x4 x5 x6 hp I3 K)) ?_ ?_
          ·refine AWP.seq (fun env pv hp => ∃ (x5 : Int) (x6 : Int) (x8a : Option Addr) (x8n : Nat) (x8c : Nat) (x9 : Int), Sub (upd (upd (upd (upd (upd (upd (upd E0 9 (sI (x9))) 8 (sV (Value.slice x8a x8n x8c))) 6 (sI (x6))) 5 (sI (x5))) 4 (sV (Value.map x4))) 3 (sV (Value.pointer x3))) 0 (sV (Value.slice x0a x0n x0c))) env ∧ Sub V0 pv ∧ (F6_j9 x0a x0n x0c x3 x4 x5 x6 x8a x8n x8c x9 hp I3 K)) ?_ ?_
           ·refine AWP.rgn (F6_r35 (upd (upd (upd (upd (upd (upd E0 8 (sV (Value.slice a_47 n_48 c_49))) 6 (sI (x6))) 5 (sI ((if (i_44 : Int) > x5 then i_44 else x5)))) 4 (sV (Value.map x4))) 3 (sV (Value.pointer x3))) 0 (sV (Value.slice x0a x0n x0c)))  h_46 _) ?_ (Rv 0 _ (Rv 3 _ (Rv 4 _ (Rv 5 _ (Rv 6 _ (Rv 8 _ (Rn))))))) (Sc rfl (Sc rfl (Sc rfl (Sc rfl (Sc rfl (Sc rfl (Sn))))))) (Sn)
            exact ⟨(if (i_44 : Int) > x5 then i_44 else x5), x6, a_47, n_48, c_49, 0, (Sc rfl (Sc rfl (Sc rfl (Sc rfl (Sc rfl (Sc rfl (Sc rfl (Sn)))))))), (Sn), h⟩
           ·rintro env pv hp ⟨x5, x6, x8a, x8n, x8c, x9, he, hv, h⟩
            refine AWP.sub (env' := (upd (upd (upd (upd (upd (upd (upd E0 9 (sI (x9))) 8 (sV (Value.slice x8a x8n x8c))) 6 (sI (x6))) 5 (sI (x5))) 4 (sV (Value.map x4))) 3 (sV (Value.pointer x3))) 0 (sV (Value.slice x0a x0n x0c)))) (pv' := V0) ?_ (Rv 0 _ (Rv 3 _ (Rv 4 _ (Rv 5 _ (Rv 6 _ (Rv 8 _ (Rv 9 _ (Rn)))))))) he hv (HSub.refl _)
            clear he hv
            unfold F6_j9 at h
            refine AWP.block ?_
            refine AWP.loop (σ := Int) (fun I s hp => F6_l10 x0a x0n x0c x3 x4 x5 x6 x8a x8n x8c I3 K I s hp) (fun s => (upd (upd (upd (upd (upd (upd (upd E0 9 (sI (s))) 8 (sV (Value.slice x8a x8n x8c))) 6 (sI (x6))) 5 (sI (x5))) 4 (sV (Value.map x4))) 3 (sV (Value.pointer x3))) 0 (sV (Value.slice x0a x0n x0c)))) (fun s => V0) x9 h (fun s => (Rv 0 _ (Rv 3 _ (Rv 4 _ (Rv 5 _ (Rv 6 _ (Rv 8 _ (Rv 9 _ (Rn))))))))) (Sc rfl (Sc rfl (Sc rfl (Sc rfl (Sc rfl (Sc rfl (Sc rfl (Sn)))))))) (Sn) ?_
            intro I10 s hp h
            obtain ⟨x9, hs⟩ : ∃ x, x = s := ⟨s, rfl⟩
            subst hs
            replace h : F6_l10 x0a x0n x0c x3 x4 x5 x6 x8a x8n x8c I3 K I10 x9 hp := h
            unfold F6_l10 at h
            refine AWP.seq' ?_
            refine AWP.seq' ?_
            refine AWP.rgn (F6_r27 (upd (upd (upd (upd (upd E0 6 (sI (x6))) 5 (sI (x5))) 4 (sV (Value.map x4))) 3 (sV (Value.pointer x3))) 0 (sV (Value.slice x0a x0n x0c))) x8a x8n x8c x9 hp _) ?_ (Rv 8 _ (Rv 9 _ (Rv 0 _ (Rv 3 _ (Rv 4 _ (Rv 5 _ (Rv 6 _ (Rn)))))))) (Sc rfl (Sc rfl (Sc rfl (Sc rfl (Sc rfl (Sc rfl (Sc rfl (Sn)))))))) (Sn)
            refine AWP.cond (t := (decide ((x9 : Int) < (x8n : Nat)))) rfl (fun e => ?_) (fun e => ?_)
            ·replace h := ite2_t h e
             refine AWP.skip ?_
             refine AWP.seq' ?_
             refine AWP.block ?_
             refine AWP.seq' ?_
             refine AWP.rgn (F6_r28 (upd (upd (upd (upd E0 6 (sI (x6))) 5 (sI (x5))) 3 (sV (Value.pointer x3))) 0 (sV (Value.slice x0a x0n x0c))) x4 x8a x8n x8c x9 hp _) ?_ (Rv 4 _ (Rv 8 _ (Rv 9 _ (Rv 0 _ (Rv 3 _ (Rv 5 _ (Rv 6 _ (Rn)))))))) (Sc rfl (Sc rfl (Sc rfl (Sc rfl (Sc rfl (Sc rfl (Sc rfl (Sn)))))))) (Sn)
             refine ⟨h.1, h.2.1, ?_⟩
             replace h := h.2.2
             refine ptrN_mono h (fun b_59 o_60 h => ?_)
             refine ldV_mono h (fun v_61 h => ?_)
             refine intV_mono h (fun i_62 h => ?_)
             refine rdS_mono h (fun u_63 h => ?_)
             refine tup2V_mono h (fun u_64 u_65 h => ?_)
             refine intV_mono h (fun i_66 h => ?_)
             refine boolV_mono h (fun q_67 h => ?_)
             refine AWP.seq' ?_
             refine AWP.seq (fun env pv hp => ∃ (x9 : Int) (x10 : Int) (x85 : Bool), Sub (upd (upd (upd (upd (upd (upd (upd (upd (upd E0 85 (sB (x85))) 10 (sI (x10))) 9 (sI (x9))) 8 (sV (Value.slice x8a x8n x8c))) 6 (sI (x6))) 5 (sI (x5))) 4 (sV (Value.map x4))) 3 (sV (Value.pointer x3))) 0 (sV (Value.slice x0a x0n x0c))) env ∧ Sub V0 pv ∧ (F6_j11 x0a x0n x0c x3 x4 x5 x6 x8a x8n x8c x9 x10 x85 hp I3 I10 K)) ?_ ?_
             ·refine AWP.rgn (F6_r34 (upd (upd (upd (upd (upd (upd E0 9 (sI (x9))) 8 (sV (Value.slice x8a x8n x8c))) 6 (sI (x6))) 4 (sV (Value.map x4))) 3 (sV (Value.pointer x3))) 0 (sV (Value.slice x0a x0n x0c))) x5 i_66 q_67 hp _) ?_ (Rv 5 _ (Rv 10 _ (Rv 11 _ (Rv 0 _ (Rv 3 _ (Rv 4 _ (Rv 6 _ (Rv 8 _ (Rv 9 _ (Rn)))))))))) (Sc rfl (Sc rfl (Sc rfl (Sc rfl (Sc rfl (Sc rfl (Sc rfl (Sc rfl (Sc rfl (Sn)))))))))) (Sn)
              refine ite2_mono h (fun h => ?_) (fun h => ?_)
              ·exact ⟨x9, i_66, true, (Sc rfl (Sc rfl (Sc rfl (Sc rfl (Sc rfl (Sc rfl (Sc rfl (Sc rfl (Sc rfl (Sn)))))))))), (Sn), h⟩
              ·exact ⟨x9, i_66, (decide ((i_66 : Int) > x5)), (Sc rfl (Sc rfl (Sc rfl (Sc rfl (Sc rfl (Sc rfl (Sc rfl (Sc rfl (Sc rfl (Sn)))))))))), (Sn), h⟩
             ·rintro env pv hp ⟨x9, x10, x85, he, hv, h⟩
              refine AWP.sub (env' := (upd (upd (upd (upd (upd (upd (upd (upd (upd E0 85 (sB (x85))) 10 (sI (x10))) 9 (sI (x9))) 8 (sV (Value.slice x8a x8n x8c))) 6 (sI (x6))) 5 (sI (x5))) 4 (sV (Value.map x4))) 3 (sV (Value.pointer x3))) 0 (sV (Value.slice x0a x0n x0c)))) (pv' := V0) ?_ (Rv 0 _ (Rv 3 _ (Rv 4 _ (Rv 5 _ (Rv 6 _ (Rv 8 _ (Rv 9 _ (Rv 10 _ (Rv 85 _ (Rn)))))))))) he hv (HSub.refl _)
              clear he hv
              unfold F6_j11 at h
              refine AWP.cond (t := x85) rfl (fun e => ?_) (fun e => ?_)
              ·replace h := ite2_t h e
               refine AWP.seq' ?_
               refine AWP.rgn (F6_r29 E0  hp _) ?_ (Rn) (Sn) (Sn)
               refine AWP.ret ?_
               exact h
              ·replace h := ite2_f h e
               refine AWP.skip ?_
               refine AWP.seq' ?_
               refine AWP.seq (fun env pv hp => ∃ (x9 : Int) (x123 : Bool), Sub (upd (upd (upd (upd (upd (upd (upd (upd E0 123 (sB (x123))) 9 (sI (x9))) 8 (sV (Value.slice x8a x8n x8c))) 6 (sI (x6))) 5 (sI (x5))) 4 (sV (Value.map x4))) 3 (sV (Value.pointer x3))) 0 (sV (Value.slice x0a x0n x0c))) env ∧ Sub V0 pv ∧ (F6_j12 x0a x0n x0c x3 x4 x5 x6 x8a x8n x8c x9 x123 hp I3 I10 K)) ?_ ?_
               ·refine AWP.rgnD (by kernel_rfl) (by kernel_rfl) (F6_r33 (upd (upd (upd E0 5 (sI (x5))) 4 (sV (Value.map x4))) 3 (sV (Value.pointer x3))) x0a x0n x0c x6 x8a x8n x8c x9 x10 hp _) ?_ (Rv 0 _ (Rv 6 _ (Rv 8 _ (Rv 9 _ (Rv 10 _ (Rv 3 _ (Rv 4 _ (Rv 5 _ (Rn))))))))) (Sc rfl (Sc rfl (Sc rfl (Sc rfl (Sc rfl (Sc rfl (Sc rfl (Sc rfl (Sn))))))))) (Sn)
                refine ite2_mono h (fun h => ?_) (fun h => ?_)
                ·refine ⟨h.1, h.2.1, ?_⟩
                 replace h := h.2.2
                 refine ptrN_mono h (fun b_74 o_75 h => ?_)
                 refine ldV_mono h (fun v_76 h => ?_)
                 refine intV_mono h (fun i_77 h => ?_)
                 refine CF_mono h (fun u_78 h_79 h => ?_)
                 refine intV_mono h (fun i_80 h => ?_)
                 refine ite2_mono h (fun h => ?_) (fun h => ?_)
                 ·exact ⟨x9, true, (Sc rfl (Sc rfl (Sc rfl (Sc rfl (Sc rfl (Sc rfl (Sc rfl (Sc rfl (Sn))))))))), (Sn), h⟩
                 ·refine ⟨h.1, h.2.1, ?_⟩
                  replace h := h.2.2
                  refine ptrN_mono h (fun b_81 o_82 h => ?_)
                  refine ldV_mono h (fun v_83 h => ?_)
                  refine intV_mono h (fun i_84 h => ?_)
                  refine CF_mono h (fun u_85 h_86 h => ?_)
                  refine intV_mono h (fun i_87 h => ?_)
                  refine ite2_mono h (fun h => ?_) (fun h => ?_)
                  ·refine ⟨h.1, h.2.1, ?_⟩
                   replace h := h.2.2
                   refine ptrN_mono h (fun b_88 o_89 h => ?_)
                   refine ldV_mono h (fun v_90 h => ?_)
                   refine intV_mono h (fun i_91 h => ?_)
                   refine ⟨h.1, h.2.1, ?_⟩
                   replace h := h.2.2
                   refine ptrN_mono h (fun b_92 o_93 h => ?_)
                   refine ldV_mono h (fun v_94 h => ?_)
                   refine intV_mono h (fun i_95 h => ?_)
                   exact ⟨x9, (decide ((i_91 : Int) > i_95)), (Sc rfl (Sc rfl (Sc rfl (Sc rfl (Sc rfl (Sc rfl (Sc rfl (Sc rfl (Sn))))))))), (Sn), h⟩
                  ·exact ⟨x9, false, (Sc rfl (Sc rfl (Sc rfl (Sc rfl (Sc rfl (Sc rfl (Sc rfl (Sc rfl (Sn))))))))), (Sn), h⟩
                ·exact ⟨x9, false, (Sc rfl (Sc rfl (Sc rfl (Sc rfl (Sc rfl (Sc rfl (Sc rfl (Sc rfl (Sn))))))))), (Sn), h⟩
               ·rintro env pv hp ⟨x9, x123, he, hv, h⟩
                refine AWP.sub (env' := (upd (upd (upd (upd (upd (upd (upd (upd E0 123 (sB (x123))) 9 (sI (x9))) 8 (sV (Value.slice x8a x8n x8c))) 6 (sI (x6))) 5 (sI (x5))) 4 (sV (Value.map x4))) 3 (sV (Value.pointer x3))) 0 (sV (Value.slice x0a x0n x0c)))) (pv' := V0) ?_ (Rv 0 _ (Rv 3 _ (Rv 4 _ (Rv 5 _ (Rv 6 _ (Rv 8 _ (Rv 9 _ (Rv 123 _ (Rn))))))))) he hv (HSub.refl _)
                clear he hv
                unfold F6_j12 at h
                refine AWP.cond (t := x123) rfl (fun e => ?_) (fun e => ?_)
                ·replace h := ite2_t h e
                 refine AWP.seq' ?_
                 refine AWP.rgn (F6_r30 E0  hp _) ?_ (Rn) (Sn) (Sn)
                 refine AWP.ret ?_
                 exact h
                ·replace h := ite2_f h e
                 refine AWP.skip ?_
                 refine AWP.rgn (F6_r31 (upd (upd (upd (upd E0 6 (sI (x6))) 5 (sI (x5))) 3 (sV (Value.pointer x3))) 0 (sV (Value.slice x0a x0n x0c))) x4 x8a x8n x8c x9 hp _) ?_ (Rv 4 _ (Rv 8 _ (Rv 9 _ (Rv 0 _ (Rv 3 _ (Rv 5 _ (Rv 6 _ (Rn)))))))) (Sc rfl (Sc rfl (Sc rfl (Sc rfl (Sc rfl (Sc rfl (Sc rfl (Sn)))))))) (Sn)
                 refine ⟨h.1, h.2.1, ?_⟩
                 replace h := h.2.2
                 refine ptrN_mono h (fun b_68 o_69 h => ?_)
                 refine ldV_mono h (fun v_70 h => ?_)
                 refine intV_mono h (fun i_71 h => ?_)
                 refine opS_mono h (fun u_72 h_73 h => ?_)
                 refine AWP.rgn (F6_r32 (upd (upd (upd (upd (upd (upd E0 8 (sV (Value.slice x8a x8n x8c))) 6 (sI (x6))) 5 (sI (x5))) 4 (sV (Value.map x4))) 3 (sV (Value.pointer x3))) 0 (sV (Value.slice x0a x0n x0c))) x9 h_73 _) ?_ (Rv 9 _ (Rv 0 _ (Rv 3 _ (Rv 4 _ (Rv 5 _ (Rv 6 _ (Rv 8 _ (Rn)))))))) (Sc rfl (Sc rfl (Sc rfl (Sc rfl (Sc rfl (Sc rfl (Sc rfl (Sn)))))))) (Sn)
                 exact ⟨(IntKind.wrap .i64 (x9 + 1)), (Sc rfl (Sc rfl (Sc rfl (Sc rfl (Sc rfl (Sc rfl (Sc rfl (Sn)))))))), (Sn), h⟩
            ·replace h := ite2_f h e
             refine AWP.exit ?_
             exact ⟨x5, x6, (Sc rfl (Sc rfl (Sc rfl (Sc rfl (Sc rfl (Sn)))))), (Sn), h⟩
          ·rintro env pv hp ⟨x5, x6, he, hv, h⟩
           refine AWP.sub (env' := (upd (upd (upd (upd (upd E0 6 (sI (x6))) 5 (sI (x5))) 4 (sV (Value.map x4))) 3 (sV (Value.pointer x3))) 0 (sV (Value.slice x0a x0n x0c)))) (pv' := V0) ?_ (Rv 0 _ (Rv 3 _ (Rv 4 _ (Rv 5 _ (Rv 6 _ (Rn)))))) he hv (HSub.refl _)
           clear he hv
           unfold F6_j6 at h
           refine AWP.seq (fun env pv hp => ∃ (x5 : Int) (x6 : Int) (x130 : Value), Sub (upd (upd (upd (upd (upd (upd E0 130 (sV x130)) 6 (sI (x6))) 5 (sI (x5))) 4 (sV (Value.map x4))) 3 (sV (Value.pointer x3))) 0 (sV (Value.slice x0a x0n x0c))) env ∧ Sub V0 pv ∧ (F6_j7 x0a x0n x0c x3 x4 x5 x6 x130 hp I3 K)) ?_ ?_
           ·refine AWP.rgn (F6_r26 (upd (upd (upd (upd E0 6 (sI (x6))) 5 (sI (x5))) 3 (sV (Value.pointer x3))) 0 (sV (Value.slice x0a x0n x0c))) x4 hp _) ?_ (Rv 4 _ (Rv 0 _ (Rv 3 _ (Rv 5 _ (Rv 6 _ (Rn)))))) (Sc rfl (Sc rfl (Sc rfl (Sc rfl (Sc rfl (Sn)))))) (Sn)
            refine opS_mono h (fun u_57 h_58 h => ?_)
            exact ⟨x5, x6, u_57, (Sc rfl (Sc rfl (Sc rfl (Sc rfl (Sc rfl (Sc rfl (Sn))))))), (Sn), h⟩
           ·rintro env pv hp ⟨x5, x6, x130, he, hv, h⟩
            refine AWP.sub (env' := (upd (upd (upd (upd (upd (upd E0 130 (sV x130)) 6 (sI (x6))) 5 (sI (x5))) 4 (sV (Value.map x4))) 3 (sV (Value.pointer x3))) 0 (sV (Value.slice x0a x0n x0c)))) (pv' := V0) ?_ (Rv 0 _ (Rv 3 _ (Rv 4 _ (Rv 5 _ (Rv 6 _ (Rv 130 _ (Rn))))))) he hv (HSub.refl _)
            clear he hv
            unfold F6_j7 at h
            refine AWP.block ?_
            refine AWP.loop (σ := Unit) (fun I s hp => F6_l8 x0a x0n x0c x3 x4 x5 x6 x130 I3 K I  hp) (fun s => (upd (upd (upd (upd (upd (upd E0 130 (sV x130)) 6 (sI (x6))) 5 (sI (x5))) 4 (sV (Value.map x4))) 3 (sV (Value.pointer x3))) 0 (sV (Value.slice x0a x0n x0c)))) (fun s => V0) () h (fun s => (Rv 0 _ (Rv 3 _ (Rv 4 _ (Rv 5 _ (Rv 6 _ (Rv 130 _ (Rn)))))))) (Sc rfl (Sc rfl (Sc rfl (Sc rfl (Sc rfl (Sc rfl (Sn))))))) (Sn) ?_
            intro I8 s hp h
            replace h : F6_l8 x0a x0n x0c x3 x4 x5 x6 x130 I3 K I8  hp := h
            unfold F6_l8 at h
            refine AWP.seq' ?_
            refine AWP.rgn (F6_r22 (upd (upd (upd (upd (upd E0 6 (sI (x6))) 5 (sI (x5))) 4 (sV (Value.map x4))) 3 (sV (Value.pointer x3))) 0 (sV (Value.slice x0a x0n x0c))) x130 hp _) ?_ (Rv 130 _ (Rv 0 _ (Rv 3 _ (Rv 4 _ (Rv 5 _ (Rv 6 _ (Rn))))))) (Sc rfl (Sc rfl (Sc rfl (Sc rfl (Sc rfl (Sc rfl (Sn))))))) (Sn)
            refine opS_mono h (fun u_50 h_51 h => ?_)
            refine tupI_mono h (fun v_52 h => ?_)
            refine boolV_mono h (fun q_53 h => ?_)
            refine AWP.seq' ?_
            refine AWP.cond (t := q_53) rfl (fun e => ?_) (fun e => ?_)
            ·replace h := ite2_t h e
             refine AWP.skip ?_
             refine AWP.block ?_
             refine AWP.seq' ?_
             refine AWP.rgn (F6_r23 (upd (upd (upd (upd (upd E0 6 (sI (x6))) 5 (sI (x5))) 4 (sV (Value.map x4))) 3 (sV (Value.pointer x3))) 0 (sV (Value.slice x0a x0n x0c))) x130 h_51 _) ?_ (Rv 130 _ (Rv 0 _ (Rv 3 _ (Rv 4 _ (Rv 5 _ (Rv 6 _ (Rn))))))) (Sc rfl (Sc rfl (Sc rfl (Sc rfl (Sc rfl (Sc rfl (Sn))))))) (Sn)
             refine rdS_mono h (fun u_54 h => ?_)
             refine tupI_mono h (fun v_55 h => ?_)
             refine intV_mono h (fun i_56 h => ?_)
             refine AWP.seq' ?_
             refine AWP.rgn (F6_r24 (upd (upd (upd (upd (upd E0 130 (sV x130)) 6 (sI (x6))) 4 (sV (Value.map x4))) 3 (sV (Value.pointer x3))) 0 (sV (Value.slice x0a x0n x0c))) x5 i_56 h_51 _) ?_ (Rv 5 _ (Rv 13 _ (Rv 0 _ (Rv 3 _ (Rv 4 _ (Rv 6 _ (Rv 130 _ (Rn)))))))) (Sc rfl (Sc rfl (Sc rfl (Sc rfl (Sc rfl (Sc rfl (Sc rfl (Sn)))))))) (Sn)
             refine AWP.cond (t := (decide ((i_56 : Int) ≤ x5))) rfl (fun e => ?_) (fun e => ?_)
             ·replace h := ite2_t h e
              refine AWP.seq' ?_
              refine AWP.rgn (F6_r25 E0  h_51 _) ?_ (Rn) (Sn) (Sn)
              refine AWP.ret ?_
              exact h
             ·replace h := ite2_f h e
              refine AWP.skip ?_
              exact ⟨(), (Sc rfl (Sc rfl (Sc rfl (Sc rfl (Sc rfl (Sc rfl (Sn))))))), (Sn), h⟩
            ·replace h := ite2_f h e
             refine AWP.exit ?_
             exact ⟨x5, x6, (Sc rfl (Sc rfl (Sc rfl (Sc rfl (Sc rfl (Sn)))))), (Sn), h⟩
         ·replace h := ite2_f h e
          refine AWP.skip ?_
          exact ⟨x5, x6, (Sc rfl (Sc rfl (Sc rfl (Sc rfl (Sc rfl (Sn)))))), (Sn), h⟩
      ·rintro env pv hp ⟨x5, x6, he, hv, h⟩
       refine AWP.sub (env' := (upd (upd (upd (upd (upd E0 6 (sI (x6))) 5 (sI (x5))) 4 (sV (Value.map x4))) 3 (sV (Value.pointer x3))) 0 (sV (Value.slice x0a x0n x0c)))) (pv' := V0) ?_ (Rv 0 _ (Rv 3 _ (Rv 4 _ (Rv 5 _ (Rv 6 _ (Rn)))))) he hv (HSub.refl _)
       clear he hv
       unfold F6_j5 at h
       refine AWP.seq' ?_
       refine AWP.rgn (F6_r10 (upd (upd (upd E0 6 (sI (x6))) 5 (sI (x5))) 0 (sV (Value.slice x0a x0n x0c))) x3 x4 hp _) ?_ (Rv 3 _ (Rv 4 _ (Rv 0 _ (Rv 5 _ (Rv 6 _ (Rn)))))) (Sc rfl (Sc rfl (Sc rfl (Sc rfl (Sc rfl (Sn)))))) (Sn)
       refine CF_mono h (fun u_14 h_15 h => ?_)
       refine intV_mono h (fun i_16 h => ?_)
       refine rdS_mono h (fun u_17 h => ?_)
       refine intV_mono h (fun i_18 h => ?_)
       refine AWP.cond (t := ((i_16 : Int) != i_18)) rfl (fun e => ?_) (fun e => ?_)
       ·replace h := ite2_t h e
        refine AWP.seq' ?_
        refine AWP.rgn (F6_r11 E0  h_15 _) ?_ (Rn) (Sn) (Sn)
        refine AWP.ret ?_
        exact h
       ·replace h := ite2_f h e
        refine AWP.skip ?_
        exact ⟨x5, x6, (Sc rfl (Sc rfl (Sc rfl (Sc rfl (Sc rfl (Sn)))))), (Sn), h⟩
     ·rintro env pv hp ⟨x5, x6, he, hv, h⟩
      refine AWP.sub (env' := (upd (upd (upd (upd (upd E0 6 (sI (x6))) 5 (sI (x5))) 4 (sV (Value.map x4))) 3 (sV (Value.pointer x3))) 0 (sV (Value.slice x0a x0n x0c)))) (pv' := V0) ?_ (Rv 0 _ (Rv 3 _ (Rv 4 _ (Rv 5 _ (Rv 6 _ (Rn)))))) he hv (HSub.refl _)
      clear he hv
      unfold F6_j4 at h
      refine AWP.rgn (F6_r8 (upd (upd (upd (upd E0 5 (sI (x5))) 4 (sV (Value.map x4))) 3 (sV (Value.pointer x3))) 0 (sV (Value.slice x0a x0n x0c))) x6 hp _) ?_ (Rv 6 _ (Rv 0 _ (Rv 3 _ (Rv 4 _ (Rv 5 _ (Rn)))))) (Sc rfl (Sc rfl (Sc rfl (Sc rfl (Sc rfl (Sn)))))) (Sn)
      exact ⟨(x5, (IntKind.wrap .i64 (x6 + 1))), (Sc rfl (Sc rfl (Sc rfl (Sc rfl (Sc rfl (Sn)))))), (Sn), h⟩
    ·replace h := ite2_f h e
     refine AWP.exit ?_
     exact ⟨(Sn), (Sn), h⟩
  ·rintro env pv hp ⟨he, hv, h⟩
   refine AWP.sub (env' := E0) (pv' := V0) ?_ (Rn) he hv (HSub.refl _)
   clear he hv
   unfold F6_j1 at h
   refine AWP.seq' ?_
   refine AWP.rgn (F6_r6 E0  hp _) ?_ (Rn) (Sn) (Sn)
   refine CF_mono h (fun u_8 h_9 h => ?_)
   refine boolV_mono h (fun q_10 h => ?_)
   refine AWP.ret ?_
   exact h
-- 35 interpreter/interpreterlaw20.due0
theorem F35_r0 (e : Env) (hp : HP) (K : Env → PV → HP → Prop) : RW Try.prog 50 [] (opsAt Try.f35 [0]) (List.range 1) e V0 hp K =
    (K (upd e 6 (sI (0))) V0 hp) := by kernel_rfl
theorem F35_r1 (e : Env) (x7 : Int) (hp : HP) (K : Env → PV → HP → Prop) : RW Try.prog 50 [] (opsAt Try.f35 [1, 0, 1, 0, 0, 0, 0]) (List.range 2) (upd e 7 (sI (x7))) V0 hp K =
    (K (upd (upd (upd e 7 (sI (x7))) 10 (sI (x7))) 11 (sB ((decide ((x7 : Int) ≥ 0))))) V0 hp) := by kernel_rfl
theorem F35_r2 (e : Env) (x1a : Option Addr) (x1n : Nat) (x1c : Nat) (x7 : Int) (hp : HP) (K : Env → PV → HP → Prop) : RW Try.prog 50 [] (opsAt Try.f35 [1, 0, 1, 0, 0, 1, 0, 0, 1, 0, 0]) (List.range 6) (upd (upd e 7 (sI (x7))) 1 (sV (Value.slice x1a x1n x1c))) V0 hp K =
    ((0 ≤ (x7 : Int)) ∧ ((x7 : Int) < (x1n : Nat)) ∧ (ptrN x1a fun b1 o2 => (ldV (HP.cell hp b1 ((o2 + Int.toNat x7 * 3) + 2)) fun v3 => (intV v3 .i64 fun i4 => (K (upd (upd (upd (upd (upd (upd (upd (upd e 7 (sI (x7))) 1 (sV (Value.slice x1a x1n x1c))) 45 (sV (Value.slice x1a x1n x1c))) 46 (sI (x7))) 47 (sV (ptr b1 (o2 + Int.toNat x7 * 3)))) 48 (sV (ptr b1 ((o2 + Int.toNat x7 * 3) + 2)))) 49 (sI (i4))) 6 (sI (i4))) V0 hp))))) := by kernel_rfl
theorem F35_r3 (e : Env) (x7 : Int) (hp : HP) (K : Env → PV → HP → Prop) : RW Try.prog 50 [] (opsAt Try.f35 [1, 0, 1, 0, 0, 1, 1]) (List.range 3) (upd e 7 (sI (x7))) V0 hp K =
    (K (upd (upd (upd (upd e 7 (sI (x7))) 12 (sI (x7))) 13 (sI ((IntKind.wrap .i64 (x7 - 1))))) 7 (sI ((IntKind.wrap .i64 (x7 - 1))))) V0 hp) := by kernel_rfl
def F35_j3 (x0 : Int) (x1a : Option Addr) (x1n : Nat) (x1c : Nat) (x7 : Int) (x44 : Bool) (hp : HP) (I2 : (Int) → HP → Prop) (K : Value → HP → Prop) : Prop :=
  (ite2 x44 ((0 ≤ (x7 : Int)) ∧ ((x7 : Int) < (x1n : Nat)) ∧ (ptrN x1a fun b_1 o_2 => (ldV (HP.cell hp b_1 ((o_2 + Int.toNat x7 * 3) + 2)) fun v_3 => (intV v_3 .i64 fun i_4 => (K (Value.int .i64 i_4) hp))))) (I2 (IntKind.wrap .i64 (x7 - 1)) hp))
theorem F35_r4 (e : Env) (x0 : Int) (x1a : Option Addr) (x1n : Nat) (x1c : Nat) (x7 : Int) (hp : HP) (K : Env → PV → HP → Prop) : RW Try.prog 50 [] (opsAt Try.f35 [1, 0, 1, 0, 0, 1, 0, 0, 0]) (List.range 31) (upd (upd (upd e 7 (sI (x7))) 1 (sV (Value.slice x1a x1n x1c))) 0 (sI (x0))) V0 hp K =
    ((0 ≤ (x7 : Int)) ∧ ((x7 : Int) < (x1n : Nat)) ∧ (ptrN x1a fun b1 o2 => (ldV (HP.cell hp b1 ((o2 + Int.toNat x7 * 3) + 0)) fun v3 => (intV v3 .u8 fun i4 => (ite2 ((i4 : Int) == 0) ((0 ≤ (x7 : Int)) ∧ ((x7 : Int) < (x1n : Nat)) ∧ (ptrN x1a fun b5 o6 => (ldV (HP.cell hp b5 ((o6 + Int.toNat x7 * 3) + 1)) fun v7 => (intV v7 .i64 fun i8 => (ite2 ((i8 : Int) == x0) ((0 ≤ (x7 : Int)) ∧ ((x7 : Int) < (x1n : Nat)) ∧ (ptrN x1a fun b9 o10 => (ldV (HP.cell hp b9 ((o10 + Int.toNat x7 * 3) + 2)) fun v11 => (intV v11 .i64 fun i12 => (ite2 (decide ((i12 : Int) ≥ 0)) ((0 ≤ (x7 : Int)) ∧ ((x7 : Int) < (x1n : Nat)) ∧ (ptrN x1a fun b13 o14 => (ldV (HP.cell hp b13 ((o14 + Int.toNat x7 * 3) + 2)) fun v15 => (intV v15 .i64 fun i16 => (K (upd (upd (upd (upd (upd (upd (upd (upd (upd (upd (upd (upd (upd (upd (upd (upd (upd (upd (upd (upd (upd (upd (upd (upd (upd (upd (upd (upd (upd (upd (upd (upd (upd (upd e 7 (sI (x7))) 1 (sV (Value.slice x1a x1n x1c))) 0 (sI (x0))) 14 (sV (Value.slice x1a x1n x1c))) 15 (sI (x7))) 16 (sV (ptr b1 (o2 + Int.toNat x7 * 3)))) 17 (sV (ptr b1 ((o2 + Int.toNat x7 * 3) + 0)))) 18 (sV (Value.int .u8 i4))) 19 (sB (((i4 : Int) == 0)))) 20 (sB (true))) 21 (sV (Value.slice x1a x1n x1c))) 22 (sI (x7))) 23 (sV (ptr b5 (o6 + Int.toNat x7 * 3)))) 24 (sV (ptr b5 ((o6 + Int.toNat x7 * 3) + 1)))) 25 (sI (i8))) 26 (sI (x0))) 27 (sB (((i8 : Int) == x0)))) 28 (sB (((i8 : Int) == x0)))) 29 (sB (true))) 30 (sV (Value.slice x1a x1n x1c))) 31 (sI (x7))) 32 (sV (ptr b9 (o10 + Int.toNat x7 * 3)))) 33 (sV (ptr b9 ((o10 + Int.toNat x7 * 3) + 2)))) 34 (sI (i12))) 35 (sB ((decide ((i12 : Int) ≥ 0))))) 36 (sB ((decide ((i12 : Int) ≥ 0))))) 37 (sB (true))) 38 (sV (Value.slice x1a x1n x1c))) 39 (sI (x7))) 40 (sV (ptr b13 (o14 + Int.toNat x7 * 3)))) 41 (sV (ptr b13 ((o14 + Int.toNat x7 * 3) + 2)))) 42 (sI (i16))) 43 (sB ((decide ((i16 : Int) ≤ 4611686018427387904))))) 44 (sB ((decide ((i16 : Int) ≤ 4611686018427387904))))) V0 hp))))) (K (upd (upd (upd (upd (upd (upd (upd (upd (upd (upd (upd (upd (upd (upd (upd (upd (upd (upd (upd (upd (upd (upd (upd (upd (upd (upd (upd (upd (upd (upd (upd (upd (upd (upd e 7 (sI (x7))) 1 (sV (Value.slice x1a x1n x1c))) 0 (sI (x0))) 14 (sV (Value.slice x1a x1n x1c))) 15 (sI (x7))) 16 (sV (ptr b1 (o2 + Int.toNat x7 * 3)))) 17 (sV (ptr b1 ((o2 + Int.toNat x7 * 3) + 0)))) 18 (sV (Value.int .u8 i4))) 19 (sB (((i4 : Int) == 0)))) 20 (sB (true))) 21 (sV (Value.slice x1a x1n x1c))) 22 (sI (x7))) 23 (sV (ptr b5 (o6 + Int.toNat x7 * 3)))) 24 (sV (ptr b5 ((o6 + Int.toNat x7 * 3) + 1)))) 25 (sI (i8))) 26 (sI (x0))) 27 (sB (((i8 : Int) == x0)))) 28 (sB (((i8 : Int) == x0)))) 29 (sB (true))) 30 (sV (Value.slice x1a x1n x1c))) 31 (sI (x7))) 32 (sV (ptr b9 (o10 + Int.toNat x7 * 3)))) 33 (sV (ptr b9 ((o10 + Int.toNat x7 * 3) + 2)))) 34 (sI (i12))) 35 (sB ((decide ((i12 : Int) ≥ 0))))) 36 (sB ((decide ((i12 : Int) ≥ 0))))) 37 (sB (false))) 38 (sV undef)) 39 (sV undef)) 40 (sV undef)) 41 (sV undef)) 42 (sV undef)) 43 (sV undef)) 44 (sB (false))) V0 hp)))))) (K (upd (upd (upd (upd (upd (upd (upd (upd (upd (upd (upd (upd (upd (upd (upd (upd (upd (upd (upd (upd (upd (upd (upd (upd (upd (upd (upd (upd (upd (upd (upd (upd (upd (upd e 7 (sI (x7))) 1 (sV (Value.slice x1a x1n x1c))) 0 (sI (x0))) 14 (sV (Value.slice x1a x1n x1c))) 15 (sI (x7))) 16 (sV (ptr b1 (o2 + Int.toNat x7 * 3)))) 17 (sV (ptr b1 ((o2 + Int.toNat x7 * 3) + 0)))) 18 (sV (Value.int .u8 i4))) 19 (sB (((i4 : Int) == 0)))) 20 (sB (true))) 21 (sV (Value.slice x1a x1n x1c))) 22 (sI (x7))) 23 (sV (ptr b5 (o6 + Int.toNat x7 * 3)))) 24 (sV (ptr b5 ((o6 + Int.toNat x7 * 3) + 1)))) 25 (sI (i8))) 26 (sI (x0))) 27 (sB (((i8 : Int) == x0)))) 28 (sB (((i8 : Int) == x0)))) 29 (sB (false))) 30 (sV undef)) 31 (sV undef)) 32 (sV undef)) 33 (sV undef)) 34 (sV undef)) 35 (sV undef)) 36 (sB (false))) 37 (sB (false))) 38 (sV undef)) 39 (sV undef)) 40 (sV undef)) 41 (sV undef)) 42 (sV undef)) 43 (sV undef)) 44 (sB (false))) V0 hp)))))) (K (upd (upd (upd (upd (upd (upd (upd (upd (upd (upd (upd (upd (upd (upd (upd (upd (upd (upd (upd (upd (upd (upd (upd (upd (upd (upd (upd (upd (upd (upd (upd (upd (upd (upd e 7 (sI (x7))) 1 (sV (Value.slice x1a x1n x1c))) 0 (sI (x0))) 14 (sV (Value.slice x1a x1n x1c))) 15 (sI (x7))) 16 (sV (ptr b1 (o2 + Int.toNat x7 * 3)))) 17 (sV (ptr b1 ((o2 + Int.toNat x7 * 3) + 0)))) 18 (sV (Value.int .u8 i4))) 19 (sB (((i4 : Int) == 0)))) 20 (sB (false))) 21 (sV undef)) 22 (sV undef)) 23 (sV undef)) 24 (sV undef)) 25 (sV undef)) 26 (sV undef)) 27 (sV undef)) 28 (sB (false))) 29 (sB (false))) 30 (sV undef)) 31 (sV undef)) 32 (sV undef)) 33 (sV undef)) 34 (sV undef)) 35 (sV undef)) 36 (sB (false))) 37 (sB (false))) 38 (sV undef)) 39 (sV undef)) 40 (sV undef)) 41 (sV undef)) 42 (sV undef)) 43 (sV undef)) 44 (sB (false))) V0 hp)))))) := by kernel_rfl
theorem F35_r5 (e : Env) (hp : HP) (K : Env → PV → HP → Prop) : RW Try.prog 50 [] (opsAt Try.f35 [1, 1, 0]) (List.range 1) e V0 hp K =
    (K (upd e 6 (sI ((-1)))) V0 hp) := by kernel_rfl
def F35_l2 (x0 : Int) (x1a : Option Addr) (x1n : Nat) (x1c : Nat) (K : Value → HP → Prop) (I2 : (Int) → HP → Prop) (x7 : Int) (hp : HP) : Prop :=
  (ite2 (decide ((x7 : Int) ≥ 0)) ((0 ≤ (x7 : Int)) ∧ ((x7 : Int) < (x1n : Nat)) ∧ (ptrN x1a fun b_5 o_6 => (ldV (HP.cell hp b_5 ((o_6 + Int.toNat x7 * 3) + 0)) fun v_7 => (intV v_7 .u8 fun i_8 => (ite2 ((i_8 : Int) == 0) ((0 ≤ (x7 : Int)) ∧ ((x7 : Int) < (x1n : Nat)) ∧ (ptrN x1a fun b_9 o_10 => (ldV (HP.cell hp b_9 ((o_10 + Int.toNat x7 * 3) + 1)) fun v_11 => (intV v_11 .i64 fun i_12 => (ite2 ((i_12 : Int) == x0) ((0 ≤ (x7 : Int)) ∧ ((x7 : Int) < (x1n : Nat)) ∧ (ptrN x1a fun b_13 o_14 => (ldV (HP.cell hp b_13 ((o_14 + Int.toNat x7 * 3) + 2)) fun v_15 => (intV v_15 .i64 fun i_16 => (ite2 (decide ((i_16 : Int) ≥ 0)) ((0 ≤ (x7 : Int)) ∧ ((x7 : Int) < (x1n : Nat)) ∧ (ptrN x1a fun b_17 o_18 => (ldV (HP.cell hp b_17 ((o_18 + Int.toNat x7 * 3) + 2)) fun v_19 => (intV v_19 .i64 fun i_20 => (F35_j3 x0 x1a x1n x1c x7 (decide ((i_20 : Int) ≤ 4611686018427387904)) hp I2 K))))) (F35_j3 x0 x1a x1n x1c x7 false hp I2 K)))))) (F35_j3 x0 x1a x1n x1c x7 false hp I2 K)))))) (F35_j3 x0 x1a x1n x1c x7 false hp I2 K)))))) (K (Value.int .i64 (-1)) hp))
def F35_j1 (x0 : Int) (x1a : Option Addr) (x1n : Nat) (x1c : Nat) (x7 : Int) (hp : HP) (K : Value → HP → Prop) : Prop :=
  (LoopP (σ := Int) (fun I s hp => F35_l2 x0 x1a x1n x1c  K I s hp) x7 hp)
theorem F35_r6 (e : Env) (x2 : Int) (hp : HP) (K : Env → PV → HP → Prop) : RW Try.prog 50 [] (opsAt Try.f35 [1, 0, 0]) (List.range 3) (upd e 2 (sI (x2))) V0 hp K =
    (K (upd (upd (upd (upd e 2 (sI (x2))) 8 (sI (x2))) 9 (sI ((IntKind.wrap .i64 (x2 - 1))))) 7 (sI ((IntKind.wrap .i64 (x2 - 1))))) V0 hp) := by kernel_rfl
def F35 (x0 : Int) (x1a : Option Addr) (x1n : Nat) (x1c : Nat) (x2 : Int) (hp : HP) (K : Value → HP → Prop) : Prop :=
  (F35_j1 x0 x1a x1n x1c (IntKind.wrap .i64 (x2 - 1)) hp  K)
noncomputable def F35_code : Code := (.seq (.region 0 (opsAt Try.f35 [0]) false) (.seq (.seq (.region 1 (opsAt Try.f35 [1, 0, 0]) false) (.block 0 (.loop (.seq (.seq (.region 2 (opsAt Try.f35 [1, 0, 1, 0, 0, 0, 0]) false) (.cond (.tmp 11) .skip (.exit 0))) (.seq (.block 1 (.seq (.region 4 (opsAt Try.f35 [1, 0, 1, 0, 0, 1, 0, 0, 0]) false) (.cond (.tmp 44) (.seq (.region 5 (opsAt Try.f35 [1, 0, 1, 0, 0, 1, 0, 0, 1, 0, 0]) false) .ret) .skip))) (.region 3 (opsAt Try.f35 [1, 0, 1, 0, 0, 1, 1]) false)))))) (.seq (.region 6 (opsAt Try.f35 [1, 1, 0]) false) .ret)))
theorem F35_body : Try.f35.body = some F35_code := by kernel_rfl
theorem F35_ok (x0 : Int) (x1a : Option Addr) (x1n : Nat) (x1c : Nat) (x2 : Int) (hp : HP) (K : Value → HP → Prop) (h : F35 x0 x1a x1n x1c x2 hp K) : CF Try.prog 35 [(Value.int .i64 x0), (Value.slice x1a x1n x1c), (Value.int .i64 x2)] hp K := by
 refine .inl ⟨by kernel_rfl, AC.intro (N := 50) Try.func35 F35_body rfl (Nat.le_of_ble_eq_true rfl) ?_⟩
 unfold F35 at h
 unfold F35_code
 refine AWP.seq' ?_
 refine AWP.rgn (F35_r0 (upd (upd (upd E0 2 (sI (x2))) 1 (sV (Value.slice x1a x1n x1c))) 0 (sI (x0)))  hp _) ?_ (Rv 0 _ (Rv 1 _ (Rv 2 _ (Rn)))) (Sc rfl (Sc rfl (Sc rfl (Sn)))) (Sn)
 refine AWP.seq' ?_
 refine AWP.seq (fun env pv hp => ∃ (x0 : Int) (x1a : Option Addr) (x1n : Nat) (x1c : Nat) (x7 : Int), Sub (upd (upd (upd E0 7 (sI (x7))) 1 (sV (Value.slice x1a x1n x1c))) 0 (sI (x0))) env ∧ Sub V0 pv ∧ (F35_j1 x0 x1a x1n x1c x7 hp  K)) ?_ ?_
 ·refine AWP.rgn (F35_r6 (upd (upd E0 1 (sV (Value.slice x1a x1n x1c))) 0 (sI (x0))) x2 hp _) ?_ (Rv 2 _ (Rv 0 _ (Rv 1 _ (Rn)))) (Sc rfl (Sc rfl (Sc rfl (Sn)))) (Sn)
  exact ⟨x0, x1a, x1n, x1c, (IntKind.wrap .i64 (x2 - 1)), (Sc rfl (Sc rfl (Sc rfl (Sn)))), (Sn), h⟩
 ·rintro env pv hp ⟨x0, x1a, x1n, x1c, x7, he, hv, h⟩
  refine AWP.sub (env' := (upd (upd (upd E0 7 (sI (x7))) 1 (sV (Value.slice x1a x1n x1c))) 0 (sI (x0)))) (pv' := V0) ?_ (Rv 0 _ (Rv 1 _ (Rv 7 _ (Rn)))) he hv (HSub.refl _)
  clear he hv
  unfold F35_j1 at h
  refine AWP.block ?_
  refine AWP.loop (σ := Int) (fun I s hp => F35_l2 x0 x1a x1n x1c  K I s hp) (fun s => (upd (upd (upd E0 7 (sI (s))) 1 (sV (Value.slice x1a x1n x1c))) 0 (sI (x0)))) (fun s => V0) x7 h (fun s => (Rv 0 _ (Rv 1 _ (Rv 7 _ (Rn))))) (Sc rfl (Sc rfl (Sc rfl (Sn)))) (Sn) ?_
  intro I2 s hp h
  obtain ⟨x7, hs⟩ : ∃ x, x = s := ⟨s, rfl⟩
  subst hs
  replace h : F35_l2 x0 x1a x1n x1c  K I2 x7 hp := h
  unfold F35_l2 at h
  refine AWP.seq' ?_
  refine AWP.seq' ?_
  refine AWP.rgn (F35_r1 (upd (upd E0 1 (sV (Value.slice x1a x1n x1c))) 0 (sI (x0))) x7 hp _) ?_ (Rv 7 _ (Rv 0 _ (Rv 1 _ (Rn)))) (Sc rfl (Sc rfl (Sc rfl (Sn)))) (Sn)
  refine AWP.cond (t := (decide ((x7 : Int) ≥ 0))) rfl (fun e => ?_) (fun e => ?_)
  ·replace h := ite2_t h e
   refine AWP.skip ?_
   refine AWP.seq' ?_
   refine AWP.block ?_
   refine AWP.seq (fun env pv hp => ∃ (x7 : Int) (x44 : Bool), Sub (upd (upd (upd (upd E0 44 (sB (x44))) 7 (sI (x7))) 1 (sV (Value.slice x1a x1n x1c))) 0 (sI (x0))) env ∧ Sub V0 pv ∧ (F35_j3 x0 x1a x1n x1c x7 x44 hp I2 K)) ?_ ?_
   ·refine AWP.rgn (F35_r4 E0 x0 x1a x1n x1c x7 hp _) ?_ (Rv 0 _ (Rv 1 _ (Rv 7 _ (Rn)))) (Sc rfl (Sc rfl (Sc rfl (Sn)))) (Sn)
    refine ⟨h.1, h.2.1, ?_⟩
    replace h := h.2.2
    refine ptrN_mono h (fun b_5 o_6 h => ?_)
    refine ldV_mono h (fun v_7 h => ?_)
    refine intV_mono h (fun i_8 h => ?_)
    refine ite2_mono h (fun h => ?_) (fun h => ?_)
    ·refine ⟨h.1, h.2.1, ?_⟩
     replace h := h.2.2
     refine ptrN_mono h (fun b_9 o_10 h => ?_)
     refine ldV_mono h (fun v_11 h => ?_)
     refine intV_mono h (fun i_12 h => ?_)
     refine ite2_mono h (fun h => ?_) (fun h => ?_)
     ·refine ⟨h.1, h.2.1, ?_⟩
      replace h := h.2.2
      refine ptrN_mono h (fun b_13 o_14 h => ?_)
      refine ldV_mono h (fun v_15 h => ?_)
      refine intV_mono h (fun i_16 h => ?_)
      refine ite2_mono h (fun h => ?_) (fun h => ?_)
      ·refine ⟨h.1, h.2.1, ?_⟩
       replace h := h.2.2
       refine ptrN_mono h (fun b_17 o_18 h => ?_)
       refine ldV_mono h (fun v_19 h => ?_)
       refine intV_mono h (fun i_20 h => ?_)
       exact ⟨x7, (decide ((i_20 : Int) ≤ 4611686018427387904)), (Sc rfl (Sc rfl (Sc rfl (Sc rfl (Sn))))), (Sn), h⟩
      ·exact ⟨x7, false, (Sc rfl (Sc rfl (Sc rfl (Sc rfl (Sn))))), (Sn), h⟩
     ·exact ⟨x7, false, (Sc rfl (Sc rfl (Sc rfl (Sc rfl (Sn))))), (Sn), h⟩
    ·exact ⟨x7, false, (Sc rfl (Sc rfl (Sc rfl (Sc rfl (Sn))))), (Sn), h⟩
   ·rintro env pv hp ⟨x7, x44, he, hv, h⟩
    refine AWP.sub (env' := (upd (upd (upd (upd E0 44 (sB (x44))) 7 (sI (x7))) 1 (sV (Value.slice x1a x1n x1c))) 0 (sI (x0)))) (pv' := V0) ?_ (Rv 0 _ (Rv 1 _ (Rv 7 _ (Rv 44 _ (Rn))))) he hv (HSub.refl _)
    clear he hv
    unfold F35_j3 at h
    refine AWP.cond (t := x44) rfl (fun e => ?_) (fun e => ?_)
    ·replace h := ite2_t h e
     refine AWP.seq' ?_
     refine AWP.rgn (F35_r2 E0 x1a x1n x1c x7 hp _) ?_ (Rv 1 _ (Rv 7 _ (Rn))) (Sc rfl (Sc rfl (Sn))) (Sn)
     refine ⟨h.1, h.2.1, ?_⟩
     replace h := h.2.2
     refine ptrN_mono h (fun b_1 o_2 h => ?_)
     refine ldV_mono h (fun v_3 h => ?_)
     refine intV_mono h (fun i_4 h => ?_)
     refine AWP.ret ?_
     exact h
    ·replace h := ite2_f h e
     refine AWP.skip ?_
     refine AWP.rgn (F35_r3 (upd (upd E0 1 (sV (Value.slice x1a x1n x1c))) 0 (sI (x0))) x7 hp _) ?_ (Rv 7 _ (Rv 0 _ (Rv 1 _ (Rn)))) (Sc rfl (Sc rfl (Sc rfl (Sn)))) (Sn)
     exact ⟨(IntKind.wrap .i64 (x7 - 1)), (Sc rfl (Sc rfl (Sc rfl (Sn)))), (Sn), h⟩
  ·replace h := ite2_f h e
   refine AWP.exit ?_
   refine AWP.seq' ?_
   refine AWP.rgn (F35_r5 E0  hp _) ?_ (Rn) (Sn) (Sn)
   refine AWP.ret ?_
   exact h
end Go.Proofs

set_option linter.unusedVariables false
set_option maxRecDepth 20000
namespace Go.Proofs
open Go Go.HL
open Go.Exp (Th tlt swo_tlt Ord setW dropW insW)

/-- When one was last set to be due, of acts, the last one first. -/
def lastD (id : Int) : List Ac → Int
  | [] => -1
  | a :: l => if a.1 = 0 ∧ a.2.1 = id ∧ 0 ≤ a.2.2 ∧ a.2.2 ≤ 4611686018427387904 then a.2.2 else lastD id l

theorem rev_take {acts : List Ac} {i : Nat} (hi : i < acts.length) : (acts.take (i + 1)).reverse = acts[i] :: (acts.take i).reverse := by
  rw [List.take_succ_eq_append_getElem hi]; simp

section
variable {hp : HP} {s : Option Addr} {n c : Nat} {acts : List Ac} {K : Value → HP → Prop}

theorem ac_at {hp : HP} {b o : Nat} {a : Ac} (h : hp.cellN b o 3 = some (ac a)) : hp.cell b (o + 0) = some (.int .u8 a.1) ∧ hp.cell b (o + 1) = some (.int .i64 a.2.1) ∧ hp.cell b (o + 2) = some (.int .i64 a.2.2) :=
  ⟨HP.cell_cellN h rfl, HP.cell_cellN h rfl, HP.cell_cellN h rfl⟩

theorem C35 {id : Int} {i : Nat} (hs : Shows hp s n 3 (acts.flatMap ac)) (hl : acts.length = n) (hi : i ≤ n) (hn : n ≤ 1000000) (hK : K (.int .i64 (lastD id (acts.take i).reverse)) hp) :
    CF Try.prog 35 [.int .i64 id, .slice s n c, .int .i64 i] hp K := by
  refine F35_ok id s n c i hp K ?_
  unfold F35 F35_j1
  have w0 : IntKind.wrap .i64 ((i : Int) - 1) = (i : Int) - 1 := w64 (by omega) (by omega)
  rw [w0]
  refine LoopP.by (J := fun k (x : Int) hp' => hp' = hp ∧ x = (k : Int) - 1 ∧ k ≤ i ∧ lastD id (acts.take k).reverse = lastD id (acts.take i).reverse) ?_ (n := i) ⟨rfl, rfl, Nat.le_refl _, rfl⟩
  rintro I k x hp' ⟨rfl, rfl, hk, he⟩ hI
  unfold F35_l2
  cases k with
  | zero =>
    rw [decide_eq_false (by omega : ¬ ((0 : Nat) : Int) - 1 ≥ 0), ite2_false]
    rw [← he] at hK
    exact hK
  | succ k =>
    have e1 : ((k + 1 : Nat) : Int) - 1 = (k : Int) := by omega
    rw [e1, decide_eq_true (by omega : (k : Int) ≥ 0), ite2_true]
    obtain ⟨b, o, rfl, hc⟩ := hs.get ac_len hl (by omega : k < n)
    obtain ⟨g0, g1, g2⟩ := ac_at hc
    have hka : k < acts.length := by omega
    rw [rev_take hka, lastD] at he
    have w1 : IntKind.wrap .i64 ((k : Int) - 1) = (k : Int) - 1 := w64 (by omega) (by omega)
    simp only [ptrN_some, Int.toNat_natCast, g0, g1, g2, ldV_some, intV_int]
    have no : ¬ (acts[k].1 = 0 ∧ acts[k].2.1 = id ∧ 0 ≤ acts[k].2.2 ∧ acts[k].2.2 ≤ 4611686018427387904) → F35_j3 id (some ⟨b, o, none⟩) n c k false hp' I K := by
      intro h
      rw [if_neg h] at he
      unfold F35_j3
      rw [ite2_false, w1]
      exact hI k _ _ (by omega) ⟨rfl, rfl, by omega, he⟩
    refine ⟨by omega, by omega, ?_⟩
    by_cases h0 : acts[k].1 = 0
    rotate_left
    · have e : (acts[k].1 == 0) = false := by simpa using h0
      rw [e, ite2_false]; exact no fun h => h0 h.1
    have e : (acts[k].1 == 0) = true := by simpa using h0
    rw [e, ite2_true]
    refine ⟨by omega, by omega, ?_⟩
    by_cases h1 : acts[k].2.1 = id
    rotate_left
    · have e : (acts[k].2.1 == id) = false := by simpa using h1
      rw [e, ite2_false]; exact no fun h => h1 h.2.1
    have e : (acts[k].2.1 == id) = true := by simpa using h1
    rw [e, ite2_true]
    refine ⟨by omega, by omega, ?_⟩
    by_cases h2 : acts[k].2.2 ≥ 0
    rotate_left
    · rw [decide_eq_false h2, ite2_false]; exact no fun h => h2 h.2.2.1
    rw [decide_eq_true h2, ite2_true]
    refine ⟨by omega, by omega, ?_⟩
    by_cases h3 : acts[k].2.2 ≤ 4611686018427387904
    rotate_left
    · rw [decide_eq_false h3]; exact no fun h => h3 h.2.2.2
    rw [decide_eq_true h3]
    rw [if_pos ⟨h0, h1, h2, h3⟩] at he
    unfold F35_j3
    rw [ite2_true]
    simp only [ptrN_some, Int.toNat_natCast, g2, ldV_some, intV_int]
    refine ⟨by omega, by omega, ?_⟩
    rw [he]; exact hK
end

theorem getL_perm {l l' : List (Int × Int)} (hn : (l.map (·.1)).Nodup) (hp : l.Perm l') (k : Int) : getL k l = getL k l' := by
  have hn' : (l'.map (·.1)).Nodup := (hp.map (·.1)).nodup_iff.1 hn
  cases h : getL k l with
  | some v => exact (getL_of_mem hn' (hp.mem_iff.1 (getL_some_mem h))).symm
  | none =>
    have : k ∉ l'.map (·.1) := fun hm => getL_none.1 h ((hp.map (·.1)).mem_iff.2 hm)
    exact (getL_none.2 this).symm
theorem getL_dropW (id k : Int) : ∀ w : List Th, getL k (dropW id w) = if k = id then none else getL k w
  | [] => by simp [dropW, getL]
  | t :: w => by
    have ih := getL_dropW id k w
    by_cases ht : t.1 = id
    · have e : dropW id (t :: w) = dropW id w := by unfold dropW; simp [ht]
      rw [e, ih, getL]
      by_cases hk : k = id
      · simp [hk]
      · rw [if_neg hk, if_neg hk, if_neg (fun e => hk (e.trans ht))]
    · have e : dropW id (t :: w) = t :: dropW id w := by unfold dropW; simp [ht]
      rw [e, getL, getL, ih]
      by_cases hkt : k = t.1
      · rw [if_pos hkt, if_pos hkt, if_neg (fun e => ht (hkt ▸ e))]
      · rw [if_neg hkt, if_neg hkt]
theorem getL_setW {w : List Th} (ho : Ord w) (id due k : Int) : getL k (setW id due w) = if k = id then some due else getL k w := by
  rw [getL_perm (ho.set id due).2 (Exp.insW_perm (id, due) (dropW id w)) k, getL, getL_dropW]
  by_cases h : k = id <;> simp [h]

/-- The same as a map. -/
def DU (dl w : List Th) : Prop := (∀ id, getL id dl = getL id w) ∧ (dl.map (·.1)).Nodup
theorem DU.len {dl w : List Th} (h : DU dl w) (ho : Ord w) : dl.length = w.length := by
  have hm : ∀ id, id ∈ dl.map (·.1) ↔ id ∈ w.map (·.1) := fun id => by rw [← getL_isSome, ← getL_isSome, h.1]
  have := (perm_of_nodup h.2 ho.2 (fun x hx => (hm x).1 hx) (fun x hx => (hm x).2 hx)).length_eq
  simpa using this

theorem QW.ord {hq : HP} {q : Nat} {w : List Th} (h : QW hq q w) : Ord w := by
  obtain ⟨o, m, d, h1, h2, h3, h4⟩ := h; exact h4

theorem iw_inj {a b : Int} (h : iw a = iw b) : a = b := by simpa [iw] using h

section
variable {a0 : Option Addr} {n0 c0 : Nat} {acts : List Ac} {hp0 : HP} {K : Value → HP → Prop}

theorem C6 (hs0 : Shows hp0 a0 n0 3 (acts.flatMap ac)) (hl0 : acts.length = n0) (h : K (.bool true) hp0) : CF Try.prog 6 [.slice a0 n0 c0] hp0 K := by
  refine CF.drop (F6_ok a0 n0 c0 hp0 _ ?_)
  unfold F6
  have hk : ∀ hp', HSub hp0 hp' → CF Try.prog 28 [] hp' fun u h => boolV u fun q => ∃ hp'', HSub hp'' h ∧ K (.bool q) hp'' := by
    intro hp' hs
    refine C28 fun hp2 h2 => ?_
    rw [boolV_bool]
    exact ⟨hp0, hs.trans h2, h⟩
  have pp : ∀ (p : Nat) (c : Option Addr → Prop), ptrV (ptr p 0) c = c (some ⟨p, 0, none⟩) := fun _ _ => rfl
  by_cases h200 : n0 > 200
  · rw [decide_eq_true (by omega : ((n0 : Nat) : Int) > 200), ite2_true]
    exact hk hp0 (HSub.refl _)
  rw [decide_eq_false (by omega : ¬ ((n0 : Nat) : Int) > 200), ite2_false]
  refine N29 fun q l hp1 hQ sl fl => ?_
  obtain ⟨g1, d1⟩ := fl hp0 (HSub.refl _)
  rw [pp]
  intro md hmd
  have smd := HSub.set_fresh hp1 (.obj (.map #[] 0)) hmd
  unfold F6_j2
  refine LoopP.by (J := fun k (st : Int × Int) hp => ∃ (l : HP) (w dl : List Th) (i : Nat), st.2 = i ∧ i + k = n0 ∧ QW l q w ∧ HSub l hp ∧ HSub hp0 hp ∧ Disj l hp0 ∧ MapE iw iw dl (hp md) ∧ hp0 md = .none ∧ l md = .none ∧ DU dl w ∧ w.length ≤ i ∧ ∀ id d, getL id w = some d → lastD id (acts.take i).reverse = d) ?_
    (n := n0) ⟨l, [], [], 0, rfl, by omega, hQ, sl.trans smd, g1.trans smd, d1, by rw [HP.set_eq]; exact MapE.empty _ _, g1.none hmd, sl.none hmd, ⟨fun _ => rfl, by simp⟩, Nat.le_refl _, fun id d hg => by cases hg⟩
  clear hQ sl fl g1 d1 smd hmd
  rintro I k ⟨now, x⟩ hp ⟨l, w, dl, i, hx, hik, hQ, sl, g, dj, hM, hm0, hml, hD, hw, hlast⟩ hI
  simp only at hx
  subst hx
  unfold F6_l3
  simp only []
  by_cases hi : i < n0
  rotate_left
  · rw [decide_eq_false (by omega : ¬ (i : Int) < (n0 : Int)), ite2_false]
    unfold F6_j1
    exact hk hp g
  rw [decide_eq_true (by omega : (i : Int) < (n0 : Int)), ite2_true]
  have hia : i < acts.length := by omega
  obtain ⟨b, o, ha0, hc⟩ := (hs0.sub g).get ac_len hl0 hi
  have hrev := rev_take hia
  generalize acts[i]'(hl0 ▸ hi) = a at hc hrev
  have hz : splice [(Value.int .u8 0), (Value.int .i64 0), (Value.int .i64 0)] 0 (ac a) = ac a := splice_all rfl
  have q0' : (ac a)[0]? = some (.int .u8 a.1) := rfl
  have q1 : (ac a)[1]? = some (.int .i64 a.2.1) := rfl
  have q2 : (ac a)[2]? = some (.int .i64 a.2.2) := rfl
  rw [ha0]
  simp only [ptrN_some, Int.toNat_natCast, hc, ldL_some, ac_len, ac_one, if_true, hz, q0', q1, q2, ldV_some, intV_int]
  rw [← ha0]
  refine ⟨by omega, by omega, ?_⟩
  refine ifI (by decide) ?_
  have w1 : IntKind.wrap .i64 ((i : Int) + 1) = ((i + 1 : Nat) : Int) := wi (by omega) (by omega)
  -- behind an act
  have five : ∀ (now' : Int) (hp l : HP) (w dl : List Th), QW l q w → HSub l hp → HSub hp0 hp → Disj l hp0 → MapE iw iw dl (hp md) → l md = .none → DU dl w → w.length ≤ i + 1 → (∀ id d, getL id w = some d → lastD id (a :: (acts.take i).reverse) = d) →
      F6_j5 a0 n0 c0 (some ⟨q, 0, none⟩) (some md) now' i hp I (fun v hp' => ∃ hp'', HL.HSub hp'' hp' ∧ K v hp'') := by
    intro now' hp l w dl hQ sl g dj hM hml hD hw hlast
    unfold F6_j5
    refine C36 (hQ.sub sl) ?_
    rw [intV_int]
    refine rdS_mapLen u49 hM ?_
    have e : (((w.length : Nat) : Int) != ((dl.length : Nat) : Int)) = false := by rw [hD.len hQ.ord]; simp
    rw [intV_int, e, ite2_false]
    unfold F6_j4
    rw [w1]
    exact hI (k - 1) _ _ (by omega) ⟨l, w, dl, i + 1, rfl, by omega, hQ, sl, g, dj, hM, hm0, hml, hD, hw, by rw [hrev]; exact hlast⟩
  have hobM : ∀ {hp : HP} {dl : List Th}, MapE iw iw dl (hp md) → ∃ ob, hp md = .obj ob := fun h => by obtain ⟨es, clock, he, _⟩ := h; exact ⟨_, he⟩
  -- the map stays where the queue changes
  have keepM : ∀ {hp l hp' l' : HP} {dl : List Th}, MapE iw iw dl (hp md) → l md = .none → Frm l hp l' hp' → MapE iw iw dl (hp' md) ∧ l' md = .none := by
    intro hp l hp' l' dl hM hml hf
    obtain ⟨ob, hob⟩ := hobM hM
    obtain ⟨f1, f2⟩ := hf (HP.only md (hp md)) (HSub.only rfl) (Disj.only hml)
    have hne : hp md ≠ .none := by rw [hob]; simp
    exact ⟨by rw [f1.of_only hne]; exact hM, f2.only_none hne⟩
  have skipL : ∀ id, ¬ (a.1 = 0 ∧ a.2.1 = id ∧ 0 ≤ a.2.2 ∧ a.2.2 ≤ 4611686018427387904) → lastD id (a :: (acts.take i).reverse) = lastD id (acts.take i).reverse := fun id hn => by rw [lastD, if_neg hn]
  cases hd0 : (a.1 == 0)
  rotate_left
  · -- Set
    rw [ite2_true]
    have ha : a.1 = 0 := by simpa using hd0
    refine N30 sl hQ (by omega) fun v2 l2 hp2 w2 hv1 hv2 hQ2 sl2 f2 => ?_
    obtain ⟨g2, d2⟩ := f2 hp0 g dj
    obtain ⟨hM2, hml2⟩ := keepM hM hml f2
    rw [intV_int]
    by_cases hb : badDue a.2.2
    · obtain ⟨rfl, rfl⟩ := hv1 hb
      show ite2 false _ _
      rw [ite2_false]
      refine five now hp2 l2 _ dl hQ2 sl2 g2 d2 hM2 hml2 hD (by omega) fun id d hg => ?_
      rw [skipL id (fun h => by unfold badDue at hb; omega)]
      exact hlast id d hg
    · obtain ⟨rfl, rfl⟩ := hv2 hb
      show ite2 true _ _
      rw [ite2_true]
      refine opS_mapUpdate u49 enc3 hM2 a.2.1 a.2.2 (ev := iw) fun e he => ?_
      have hsl := setW_len a.2.1 a.2.2 w
      refine five now _ l2 _ (putL a.2.1 a.2.2 dl) hQ2 (sl2.up hml2 e) (g2.up hm0 e) d2 (by rw [HP.set_eq]; exact he) hml2 ⟨fun id => ?_, nodup_put hD.2⟩ (by omega) fun id d hg => ?_
      · rw [getL_put, getL_setW hQ.ord, hD.1]
      · rw [getL_setW hQ.ord] at hg
        by_cases hid : id = a.2.1
        · rw [if_pos hid] at hg
          cases hg
          rw [lastD, if_pos ⟨ha, hid.symm, by unfold badDue at hb; omega, by unfold badDue at hb; omega⟩]
        · rw [if_neg hid] at hg
          rw [skipL id (fun h => hid h.2.1.symm)]
          exact hlast id d hg
  rw [ite2_false]
  have hna : a.1 ≠ 0 := by simpa using hd0
  cases hd1 : (a.1 == 1)
  rotate_left
  · -- Drop
    rw [ite2_true]
    refine N34 sl hQ (by omega) fun l2 hp2 hQ2 sl2 f2 => ?_
    obtain ⟨g2, d2⟩ := f2 hp0 g dj
    obtain ⟨hM2, hml2⟩ := keepM hM hml f2
    rw [boolV_bool]
    refine opS_delete u49 enc3 hM2 a.2.1 fun e he => ?_
    have hdl : (dropW a.2.1 w).length ≤ w.length := List.length_filter_le _ _
    refine five now _ l2 _ (delL a.2.1 dl) hQ2 (sl2.up hml2 e) (g2.up hm0 e) d2 (by rw [HP.set_eq]; exact he) hml2 ⟨fun id => ?_, nodup_del hD.2⟩ (by omega) fun id d hg => ?_
    · rw [getL_del hD.2, getL_dropW, hD.1]
    · rw [getL_dropW] at hg
      by_cases hid : id = a.2.1
      · rw [if_pos hid] at hg; cases hg
      · rw [if_neg hid] at hg
        rw [skipL id (fun h => hna h.1)]
        exact hlast id d hg
  rw [ite2_false]
  cases hd2 : (a.1 == 2)
  · -- nothing
    rw [ite2_false]
    refine five now hp l w dl hQ sl g dj hM hml hD (by omega) fun id d hg => ?_
    rw [skipL id (fun h => hna h.1)]
    exact hlast id d hg
  -- Pop
  rw [ite2_true]
  generalize (if (a.2.2 : Int) > now then a.2.2 else now) = now' 
  have ho := hQ.ord
  refine N31 sl hQ (by omega) fun l2 hp2 s2 c2 hQ2 sl2 hrow2 hfr2 f2 => ?_
  obtain ⟨g2, d2, _⟩ := f2 hp0 g dj
  obtain ⟨hM2, hml2⟩ := keepM hM hml fun r hr hd => ⟨(f2 r hr hd).1, (f2 r hr hd).2.1⟩
  have hsplit : w.takeWhile (fun t => decide (t.2 ≤ now')) ++ w.dropWhile (fun t => decide (t.2 ≤ now')) = w := List.takeWhile_append_dropWhile
  have htwle : ∀ t ∈ w.takeWhile (fun t => decide (t.2 ≤ now')), t.2 ≤ now' := fun t ht => by
    have := List.all_takeWhile (p := fun t : Th => decide (t.2 ≤ now')) (l := w)
    rw [List.all_eq_true] at this
    simpa using this t ht
  generalize htw : w.takeWhile (fun t => decide (t.2 ≤ now')) = tw at *
  have hrest : ∀ t ∈ w.dropWhile (fun t => decide (t.2 ≤ now')), now' < t.2 := by
    have hpw := ho.1
    intro t ht
    cases hdw : w.dropWhile (fun t => decide (t.2 ≤ now')) with
    | nil => rw [hdw] at ht; cases ht
    | cons y ys =>
      have hy : decide (y.2 ≤ now') = false := by
        have := List.head_dropWhile_not (fun t : Th => decide (t.2 ≤ now')) (l := w) (by rw [hdw]; simp)
        simpa [hdw] using this
      have hy' : now' < y.2 := by rw [decide_eq_false_iff_not] at hy; omega
      rw [hdw] at ht
      rcases List.mem_cons.1 ht with e | hm
      · rw [e]; exact hy'
      · have hsub : (y :: ys).Pairwise (fun x y => tlt x y = true) := by
          rw [← hdw]; exact hpw.sublist (List.dropWhile_sublist _)
        have := Exp.tlt_iff.1 ((List.pairwise_cons.1 hsub).1 t hm)
        omega
  generalize hdw : w.dropWhile (fun t => decide (t.2 ≤ now')) = dw at *
  have hnod : ((tw ++ dw).map (·.1)).Nodup := by rw [hsplit]; exact ho.2
  have hlen : tw.length + dw.length = w.length := by rw [← hsplit]; simp
  rw [slcV_slice]
  -- what the map has when the first ones are told
  have hgetw : ∀ id, getL id w = match getL id tw with | some d => some d | none => getL id dw := by
    intro id
    rw [← hsplit]
    have gen : ∀ (x y : List Th), getL id (x ++ y) = match getL id x with | some d => some d | none => getL id y := by
      intro x y
      induction x with
      | nil => rfl
      | cons t x ih =>
        rw [List.cons_append, getL, getL]
        by_cases ht : id = t.1
        · simp [ht]
        · rw [if_neg ht, if_neg ht]; exact ih
    exact gen tw dw
  have htwn : (tw.map (·.1)).Nodup := by rw [List.map_append] at hnod; exact (List.nodup_append.1 hnod).1
  -- the map's rest is gone through
  have six : ∀ (hp : HP) (dl' : List Th), HSub l2 hp → HSub hp0 hp → MapE iw iw dl' (hp md) → DU dl' dw →
      F6_j6 a0 n0 c0 (some ⟨q, 0, none⟩) (some md) now' i hp I (fun v hp' => ∃ hp'', HL.HSub hp'' hp' ∧ K v hp'') := by
    intro hp dl' sl3 g3 hM3 hD3
    unfold F6_j6
    refine opS_range u49 hM3 fun it e hit hI0 => ?_
    unfold F6_j7
    have hit0 : l2 it = .none := sl3.none hit
    have hit1 : hp0 it = .none := g3.none hit
    obtain ⟨ob, hob⟩ := hobM hM3
    have hitm : it ≠ md := fun e => by rw [e, hob] at hit; cases hit
    refine LoopP.by (J := fun m (_ : Unit) hp' => ∃ done : List Th, HSub l2 hp' ∧ HSub hp0 hp' ∧ hp' md = hp md ∧ IterR hp' it md iw iw dl' done ∧ m = dl'.length - done.length) ?_
      (n := dl'.length - 0) ⟨[], sl3.up hit0 e, g3.up hit1 e, HP.set_ne _ _ hitm.symm, hI0, rfl⟩
    rintro I8 m _ hp' ⟨done, s4, g4, hm4, hI4, rfl⟩ hI8
    unfold F6_l8
    refine opS_next hI4 ?_ ?_
    · intro hperm
      simp only [tupI]
      show ldV (some (Value.bool false)) _
      rw [ldV_some, boolV_bool, ite2_false]
      refine five now' hp' l2 dw dl' hQ2 s4 g4 d2 (by rw [hm4]; exact hM3) hml2 hD3 (by omega) fun id d hg => ?_
      rw [skipL id (fun h => hna h.1)]
      refine hlast id d ?_
      rw [hgetw id]
      cases hgt : getL id tw with
      | none => exact hg
      | some d' =>
        exfalso
        have m1 : id ∈ tw.map (·.1) := getL_isSome.1 (by rw [hgt]; rfl)
        have m2 : id ∈ dw.map (·.1) := getL_isSome.1 (by rw [hg]; rfl)
        rw [List.map_append] at hnod
        exact (List.nodup_append.1 hnod).2.2 _ m1 _ m2 rfl
    · intro kv hkv e2 hI5
      have hlen2 := hI5.step_len
      simp only [tupI]
      show ldV (some (Value.bool true)) _
      rw [ldV_some, boolV_bool, ite2_true]
      refine rdS_entry hI5 ?_
      show ldV (some (iw kv.2)) _
      have hd : now' < kv.2 := by
        have hmem : (kv.1, kv.2) ∈ dl' := hkv
        have h1 := getL_of_mem hD3.2 hmem
        rw [hD3.1] at h1
        exact hrest _ (getL_some_mem h1)
      rw [ldV_some]
      show intV (.int .i64 kv.2) .i64 _
      rw [intV_int, decide_eq_false (by omega : ¬ kv.2 ≤ now'), ite2_false]
      exact hI8 (dl'.length - (done ++ [kv]).length) _ _ (by simp; omega) ⟨done ++ [kv], s4.up hit0 e2, g4.up hit1 e2, by rw [HP.set_ne _ _ hitm.symm]; exact hm4, hI5, rfl⟩
  unfold F6_j9
  refine LoopP.by (J := fun m (y : Int) hp' => ∃ (j : Nat) (dl' : List Th), y = j ∧ j + m = tw.length ∧ HSub l2 hp' ∧ HSub hp0 hp' ∧ Row hp' s2 tw.length c2 3 1 (tw.flatMap idv) ∧ MapE iw iw dl' (hp' md) ∧ (dl'.map (·.1)).Nodup ∧ ∀ id, getL id dl' = if id ∈ (tw.take j).map (·.1) then none else getL id w) ?_
    (n := tw.length) ⟨0, dl, rfl, by omega, sl2, g2, hrow2, hM2, hD.2, fun id => by simpa using hD.1 id⟩
  rintro I10 m y hp' ⟨j, dl', rfl, hjm, sl3, g3, hrow3, hM3, hn3, hget3⟩ hI10
  unfold F6_l10
  by_cases hj : j < tw.length
  rotate_left
  · rw [decide_eq_false (by omega : ¬ (j : Int) < ((tw.length : Nat) : Int)), ite2_false]
    refine six hp' dl' sl3 g3 hM3 ⟨fun id => ?_, hn3⟩
    rw [hget3 id, List.take_of_length_le (by omega), hgetw id]
    cases hgt : getL id tw with
    | none => rw [if_neg (getL_none.1 hgt)]
    | some d' =>
      have m1 : id ∈ tw.map (·.1) := getL_isSome.1 (by rw [hgt]; rfl)
      rw [if_pos m1]
      refine (getL_none.2 fun m2 => ?_).symm
      rw [List.map_append] at hnod
      exact (List.nodup_append.1 hnod).2.2 _ m1 _ m2 rfl
  rw [decide_eq_true (by omega : (j : Int) < ((tw.length : Nat) : Int)), ite2_true]
  have rd : ∀ x, x < tw.length → ∃ b o, s2 = some ⟨b, o, none⟩ ∧ hp'.cell b (o + x * 1) = some (.int .i64 (tw[x]!).1) := fun x hx => by
    obtain ⟨b, o, e, hc⟩ := hrow3.shows.get idv_len rfl hx
    refine ⟨b, o, e, ?_⟩
    have := HP.cell_cellN (j := 0) hc (v := .int .i64 (tw[x]'hx).1) rfl
    rw [getElem!_pos tw x hx]
    simpa using this
  obtain ⟨bj, oj, hsj, rj⟩ := rd j hj
  have htj : tw[j]! = tw[j]'hj := getElem!_pos tw j hj
  have hmemj : tw[j]! ∈ tw := by rw [htj]; exact List.getElem_mem hj
  have hgj : getL (tw[j]!).1 tw = some (tw[j]!).2 := getL_of_mem htwn hmemj
  have hgwj : getL (tw[j]!).1 w = some (tw[j]!).2 := by rw [hgetw, hgj]
  have hnotin : (tw[j]!).1 ∉ (tw.take j).map (·.1) := by
    intro hm
    have h2 := htwn
    rw [← List.take_append_drop j tw, List.map_append] at h2
    refine (List.nodup_append.1 h2).2.2 _ hm (tw[j]!).1 ?_ rfl
    rw [List.drop_eq_getElem_cons hj, htj, List.map_cons]; exact List.mem_cons_self
  have hgd : getL (tw[j]!).1 dl' = some (tw[j]!).2 := by rw [hget3, if_neg hnotin]; exact hgwj
  have hle := htwle _ hmemj
  have w2 : IntKind.wrap .i64 ((j : Int) + 1) = ((j + 1 : Nat) : Int) := wi (by omega) (by omega)
  -- one is struck off the map
  have twelve : F6_j12 a0 n0 c0 (some ⟨q, 0, none⟩) (some md) now' i s2 tw.length c2 j false hp' I I10 (fun v hp' => ∃ hp'', HL.HSub hp'' hp' ∧ K v hp'') := by
    unfold F6_j12
    rw [ite2_false, hsj]
    simp only [ptrN_some, Int.toNat_natCast, rj, ldV_some, intV_int]
    refine ⟨by omega, by omega, ?_⟩
    refine opS_delete u49 enc3 hM3 (tw[j]!).1 fun e he => ?_
    obtain ⟨ob, hob⟩ := hobM hM3
    rw [w2]
    refine hI10 (m - 1) _ _ (by omega) ⟨j + 1, delL (tw[j]!).1 dl', rfl, by omega, sl3.up hml2 e, g3.up hm0 e, hrow3.set_obj hob e, by rw [HP.set_eq]; exact he, nodup_del hn3, fun id => ?_⟩
    rw [getL_del hn3, hget3, List.take_succ_eq_append_getElem hj, List.map_append]
    by_cases h1 : id = (tw[j]!).1
    · rw [if_pos h1, if_pos (by rw [h1, htj]; simp)]
    · rw [if_neg h1]
      have : id ∈ (tw.take j).map (·.1) ++ [tw[j]'hj].map (·.1) ↔ id ∈ (tw.take j).map (·.1) := by
        rw [List.mem_append]; simp; intro e; exact absurd (by rw [htj]; exact e) h1
      simp only [this]
  rw [hsj]
  simp only [ptrN_some, Int.toNat_natCast, rj, ldV_some, intV_int]
  rw [← hsj]
  refine ⟨by omega, by omega, ?_⟩
  refine rdS_lookup u49 enc3 zw3 hM3 (tw[j]!).1 ?_
  rw [hgd]
  have hiw : iw (tw[j]!).2 = .int .i64 (tw[j]!).2 := rfl
  simp only [if_true, tup2V_mk, Option.map_some, Option.getD_some, hiw, intV_int, Option.isSome_some, boolV_bool, Bool.not_true, ite2_false]
  rw [decide_eq_false (by omega : ¬ (tw[j]!).2 > now')]
  unfold F6_j11
  rw [ite2_false]
  cases j with
  | zero =>
    rw [decide_eq_false (by omega : ¬ ((0 : Nat) : Int) > 0), ite2_false]
    exact twelve
  | succ j =>
    have hj' : j < tw.length := by omega
    obtain ⟨bp, op, hsp, rp⟩ := rd j hj'
    rw [hsj] at hsp
    cases hsp
    have htp : tw[j]! = tw[j]'hj' := getElem!_pos tw j hj'
    have w3 : IntKind.wrap .i64 (((j + 1 : Nat) : Int) - 1) = (j : Int) := wi (by omega) (by omega)
    have hmemp : tw[j]! ∈ tw := by rw [htp]; exact List.getElem_mem hj'
    have hgq : getL (tw[j]!).1 tw = some (tw[j]!).2 := getL_of_mem htwn hmemp
    have hgp : getL (tw[j]!).1 w = some (tw[j]!).2 := by rw [hgetw, hgq]
    have hdue := hlast _ _ hgp
    have hord : tlt tw[j]! tw[j + 1]! = true := by
      have hpw : tw.Pairwise (fun x y => tlt x y = true) := by rw [← htw]; exact ho.1.sublist (List.takeWhile_sublist _)
      rw [htp, htj]
      exact List.pairwise_iff_getElem.1 hpw j (j + 1) hj' hj (by omega)
    have hlt := Exp.tlt_iff.1 hord
    rw [decide_eq_true (by omega : ((j + 1 : Nat) : Int) > 0), ite2_true, w3, hsj]
    simp only [ptrN_some, Int.toNat_natCast, rp, rj, ldV_some, intV_int]
    rw [← hsj]
    refine ⟨by omega, by omega, ?_⟩
    refine C35 (hs0.sub g3) hl0 (by omega) (by omega) ?_
    rw [intV_int, hdue, decide_eq_false (by omega : ¬ (tw[j]!).2 > (tw[j + 1]!).2), ite2_false]
    refine ⟨by omega, by omega, ?_⟩
    rw [rp, ldV_some, intV_int]
    refine C35 (hs0.sub g3) hl0 (by omega) (by omega) ?_
    rw [intV_int, hdue]
    by_cases hde : (tw[j]!).2 = (tw[j + 1]!).2
    · have e : ((tw[j]!).2 == (tw[j + 1]!).2) = true := by simpa using hde
      rw [e, ite2_true]
      refine ⟨by omega, by omega, ?_⟩
      rw [rp, ldV_some, intV_int]
      refine ⟨by omega, by omega, ?_⟩
      rw [rj, ldV_some, intV_int, decide_eq_false (by omega : ¬ (tw[j]!).1 > (tw[j + 1]!).1)]
      exact twelve
    · have e : ((tw[j]!).2 == (tw[j + 1]!).2) = false := by simpa using hde
      rw [e, ite2_false]
      exact twelve
end
end Go.Proofs

