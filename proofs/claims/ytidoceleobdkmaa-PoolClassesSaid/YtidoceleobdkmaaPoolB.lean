import Derived.Test.YtidoceleobdkmaaHlLib
import Derived.Test.YtidoceleobdkmaaPoolA
set_option linter.unusedVariables false
namespace Go.Proofs
open Go Go.HL

/-- An address: four bytes. -/
abbrev Q := Int × Int × Int × Int
def v4 (q : Q) : List Value := [.int .u8 q.1, .int .u8 q.2.1, .int .u8 q.2.2.1, .int .u8 q.2.2.2]
def t4 (t : Q × Int) : List Value := [.int .u8 t.1.1, .int .u8 t.1.2.1, .int .u8 t.1.2.2.1, .int .u8 t.1.2.2.2, .int .i64 t.2]
theorem v4_len (q : Q) : (v4 q).length = 4 := rfl
theorem t4_len (q : Q × Int) : (t4 q).length = 5 := rfl
theorem v4_one (q : Q) : (v4 q).all one = true := rfl
theorem t4_one (q : Q × Int) : (t4 q).all one = true := rfl
theorem v4_inj {p q : Q} : v4 p = v4 q ↔ p = q := by
  simp only [v4, List.cons.injEq, Value.int.injEq, true_and, and_true]
  constructor
  · rintro ⟨a, b, c, d⟩; exact Prod.ext a (Prod.ext b (Prod.ext c d))
  · rintro rfl; exact ⟨rfl, rfl, rfl, rfl⟩
theorem t4_inj {p q : Q × Int} : t4 p = t4 q ↔ p = q := by
  simp only [t4, List.cons.injEq, Value.int.injEq, true_and, and_true]
  constructor
  · rintro ⟨a, b, c, d, e⟩; exact Prod.ext (Prod.ext a (Prod.ext b (Prod.ext c d))) e
  · rintro rfl; exact ⟨rfl, rfl, rfl, rfl, rfl⟩

theorem v4_shaped (q : Q) : shaped Try.prog 3 73 (v4 q) = true := by kernel_rfl
theorem t4_shaped (q : Q × Int) : shaped Try.prog 3 75 (t4 q) = true := by kernel_rfl

theorem eq73 {p q : Q} {c : Bool → Prop} (h : c (decide (p = q))) : eqAgg Try.prog 73 (v4 p) (v4 q) c :=
  eqAgg_of (m := 3) (D := 3) (by kernel_rfl) (v4_shaped p) (v4_shaped q) (by simp [v4_inj]) h
theorem eq75 {p q : Q × Int} {c : Bool → Prop} (h : c (decide (p = q))) : eqAgg Try.prog 75 (t4 p) (t4 q) c :=
  eqAgg_of (m := 3) (D := 3) (by kernel_rfl) (t4_shaped p) (t4_shaped q) (by simp [t4_inj]) h

/-! Class, the two addresses. -/
def isPort (x : Int) : Bool := decide (0 ≤ x ∧ x ≤ 65535)
def cls (x y : Int) : Bool := isPort x && isPort y && (decide (x < 1024) == decide (y < 1024)) && (x.tmod 2 == y.tmod 2)

theorem C74 {x : Int} {hp : HP} {K : Value → HP → Prop} (h : K (.bool (isPort x)) hp) : CF Try.prog 74 [.int .i64 x] hp K := by
  refine F74_ok x hp K ?_
  unfold F74
  unfold isPort at h
  by_cases h0 : 0 ≤ x
  · simpa [h0] using h
  · simpa [h0] using h

theorem C20 {x y : Int} {hp : HP} {K : Value → HP → Prop} (h : K (.bool (cls x y)) hp) : CF Try.prog 20 [.int .i64 x, .int .i64 y] hp K := by
  refine F20_ok x y hp K ?_
  unfold F20
  unfold cls at h
  refine C74 ?_
  simp only [boolV_bool]
  cases hx : isPort x
  · simpa [hx] using h
  · refine C74 ?_
    simp only [boolV_bool, ite2_true]
    cases hy : isPort y
    · simpa [hx, hy] using h
    · simp only [hx, hy, Bool.true_and] at h
      simp only [ite2_true]
      cases hz : (decide (x < 1024) == decide (y < 1024))
      · simpa [hz] using h
      · simpa [hz] using h

theorem C52 {hp : HP} {K : Value → HP → Prop} (h : K (.agg ⟨v4 (1, 0, 0, 1)⟩) hp) : CF Try.prog 52 [] hp K := F52_ok hp K h
theorem C53 {hp : HP} {K : Value → HP → Prop} (h : K (.agg ⟨v4 (1, 0, 0, 2)⟩) hp) : CF Try.prog 53 [] hp K := F53_ok hp K h

/-- Where an address is in a list, or -1. -/
def idx (q : Q) (l : List Q) : Int := if q ∈ l then (l.idxOf q : Int) else -1

theorem idx_none {q : Q} {l : List Q} (h : ∀ j : Nat, l[j]? ≠ some q) : idx q l = -1 := by
  have : q ∉ l := fun hm => by obtain ⟨j, hj⟩ := List.mem_iff_getElem?.1 hm; exact h j hj
  simp [idx, this]
theorem idx_at {q : Q} {l : List Q} {i : Nat} (h : l[i]? = some q) (hn : ∀ j : Nat, j < i → l[j]? ≠ some q) : idx q l = i := by
  have hm : q ∈ l := List.mem_iff_getElem?.2 ⟨i, h⟩
  have hlt : l.idxOf q < l.length := List.idxOf_lt_length_of_mem hm
  have h1 : l[l.idxOf q]? = some q := by rw [List.getElem?_eq_getElem hlt]; simp
  have h2 : ¬ l.idxOf q < i := fun h' => hn _ h' h1
  have h3 : ¬ i < l.idxOf q := fun h' => by
    have := List.not_of_lt_findIdx (xs := l) (p := (· == q)) (i := i) h'
    have hi : i < l.length := by omega
    rw [List.getElem?_eq_getElem hi] at h
    simp at this h
    exact this h
  simp only [idx, hm, if_true]
  omega

theorem C98 {a : Option Addr} {n c : Nat} {l : List Q} {q : Q} {hp : HP} {K : Value → HP → Prop} (hs : Shows hp a n 4 (l.flatMap v4)) (hl : l.length = n) (hn : n ≤ 9223372036854775806)
    (h : K (.int .i64 (idx q l)) hp) : CF Try.prog 98 [.slice a n c, .agg ⟨v4 q⟩] hp K := by
  refine F98_ok a n c (v4 q) hp K ?_
  unfold F98 F98_j1
  refine LoopP.by (J := fun k (x : Int) hp' => hp' = hp ∧ ∃ i : Nat, x = i ∧ i + k = n ∧ ∀ j : Nat, j < i → l[j]? ≠ some q) ?_ (n := n) ⟨rfl, 0, rfl, by omega, fun j hj => by omega⟩
  rintro I k x hp' ⟨rfl, i, rfl, hik, hnone⟩ hI
  unfold F98_l2
  by_cases hi : i < n
  · have hlt : decide ((i : Int) < (n : Int)) = true := by simpa using hi
    obtain ⟨b, o, rfl, hc⟩ := hs.get v4_len hl hi
    simp only [hlt, ite2_true, cellsN_all (v4_len q), ldL_some, ptrN_some, Int.toNat_natCast, hc]
    refine ⟨by omega, by omega, eq73 ?_⟩
    by_cases he : q = l[i]'(hl ▸ hi)
    · have : l[i]? = some q := by rw [List.getElem?_eq_getElem (hl ▸ hi), he]
      rw [idx_at this hnone] at h
      simpa [he] using h
    · simp only [he, decide_false, ite2_false]
      rw [w64 (by omega) (by omega)]
      refine hI (k - 1) _ _ (by omega) ⟨rfl, i + 1, by omega, by omega, fun j hj => ?_⟩
      by_cases hji : j = i
      · subst hji
        rw [List.getElem?_eq_getElem (hl ▸ hi)]
        intro hh
        exact he (Option.some.inj hh).symm
      · exact hnone j (by omega)
  · have hlt : decide ((i : Int) < (n : Int)) = false := by simpa using hi
    simp only [hlt, ite2_false]
    rw [idx_none] at h
    · exact h
    · intro j
      by_cases hj : j < i
      · exact hnone j hj
      · rw [List.getElem?_eq_none (by omega)]; simp

theorem C92 {a : Option Addr} {n c : Nat} {l : List Q} {q : Q} {hp : HP} {K : Value → HP → Prop} (hs : Shows hp a n 4 (l.flatMap v4)) (hl : l.length = n) (hn : n ≤ 9223372036854775806)
    (h : K (.bool (decide (q ∈ l))) hp) : CF Try.prog 92 [.slice a n c, .agg ⟨v4 q⟩] hp K := by
  refine F92_ok a n c (v4 q) hp K ?_
  unfold F92
  simp only [cellsN_all (v4_len q), ldL_some]
  refine C98 hs hl hn ?_
  simp only [intV_int]
  have : decide (idx q l ≥ 0) = decide (q ∈ l) := by
    unfold idx
    by_cases hm : q ∈ l <;> simp [hm]
  rw [this]; exact h

/-- Clone: a new row. -/
theorem C93 {a : Option Addr} {n c : Nat} {l : List Q} {hp : HP} {K : Value → HP → Prop} (hs : Shows hp a n 4 (l.flatMap v4)) (hl : l.length = n) (hn : n ≤ 10000000000)
    (h : ∀ s2 c2 hp', HSub hp hp' → Row hp' s2 n c2 73 4 (l.flatMap v4) → (∀ b, s2 = some ⟨b, 0, none⟩ → hp b = .none) → K (.slice s2 n c2) hp') : CF Try.prog 93 [.slice a n c] hp K := by
  refine F93_ok a n c hp K ?_
  unfold F93
  cases a with
  | none =>
    have hn0 : n = 0 := by
      rcases hs with h | ⟨b, o, h, _⟩
      · exact h.1
      · cases h
    subst hn0
    have : l = [] := List.eq_nil_of_length_eq_zero hl
    subst this
    simp only [Option.isNone_none, ite2_true]
    exact h none 0 hp (HSub.refl _) (.inl ⟨rfl, rfl, rfl, rfl⟩) (fun b hb => by cases hb)
  | some a =>
    simp only [Option.isNone_some, ite2_false]
    intro b hb
    have hsub := HSub.set_fresh hp (.cells 73 [] 0) hb
    refine opS_app (e := 73) (size := 4) (bytes := 4) (xs := []) (by kernel_rfl) (.inr ⟨b, rfl, Nat.le_refl _, by simp, by simp [HP.set_eq]⟩) (hs.sub hsub) (all_flat v4_one l) (by omega) (by omega) ?_
    intro s2 c2 hp' hrow hupd
    simp only [Nat.zero_add, List.nil_append, slcV_slice] at hrow ⊢
    have hsub' : HSub hp hp' ∧ ∀ b', s2 = some ⟨b', 0, none⟩ → hp b' = .none := by
      rcases hupd with ⟨rfl, rfl⟩ | ⟨b', e', rfl, hb', rfl⟩
      · exact ⟨hsub, fun b' e => by cases e; exact hb⟩
      · have hn' : hp b' = .none := by
          rcases hb' with hb' | hb'
          · exact hsub.none hb'
          · cases hb'; exact hb
        refine ⟨fun x => ?_, fun b'' e => by cases e; exact hn'⟩
        by_cases hx : x = b'
        · subst hx; exact .inl hn'
        · rw [HP.set_ne _ _ hx]; exact hsub x
    exact h s2 c2 hp' hsub'.1 hrow hsub'.2
end Go.Proofs
