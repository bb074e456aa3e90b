/- Parts of the proof of EPlaysProof: the logic of what is known of memory, functions' contracts. -/
import Derived.Test.YtidoceleobdkmaaQEPlaysProofC
import Derived.Test.YtidoceleobdkmaaHlLib
import Derived.Test.YtidoceleobdkmaaHlArg
import Derived.DataShut
import Derived.Test.YtidoceleobdkmaaHlAbb
import Derived.Test.YtidoceleobdkmaaProg
import Derived.Test.YtidoceleobdkmaaHlDec
set_option linter.unusedVariables false
set_option maxRecDepth 20000
namespace Go.Proofs
open Go Go.HL
open Go.Exp (Th tlt swo_tlt Ord setW dropW insW)

def i1 (x : Int) : List Value := [.int .i64 x]
theorem i1_len (x : Int) : (i1 x).length = 1 := rfl
theorem idv_i1 : ∀ w : List Th, w.flatMap idv = (w.map (·.1)).flatMap i1
  | [] => rfl
  | t :: w => by rw [List.flatMap_cons, List.map_cons, List.flatMap_cons, idv_i1 w]; rfl

/-- What lies beside stays. -/
abbrev Frm (hl hp hl' hp' : HP) : Prop := ∀ r, HSub r hp → Disj hl r → HSub r hp' ∧ Disj hl' r

def badDue (due : Int) : Prop := due < 0 ∨ due > 4611686018427387904

section
variable {hl hp : HP} {q : Nat} {w : List Th} {K : Value → HP → Prop}

theorem N29 (hk : ∀ q hl' hp', QW hl' q [] → HSub hl' hp' → (∀ r, HSub r hp → HSub r hp' ∧ Disj hl' r) → K (ptr q 0) hp') : CF Try.prog 29 [] hp K := by
  refine CF.loc (hq := fun _ => .none) (fun x => .inl rfl) (C29 (K := fun v h' => ∃ q, v = ptr q 0 ∧ QW h' q []) fun q hq' _ _ h => ⟨q, rfl, h⟩) ?_
  rintro v hl' hp' ⟨q, rfl, h⟩ hs hf
  exact hk q hl' hp' h hs fun r hr => hf r hr fun x => .inl rfl

theorem N30 {id due : Int} (sl : HSub hl hp) (h : QW hl q w) (hsz : w.length + 1 ≤ 1000000)
    (hk : ∀ (v : Int) hl' hp' w', (badDue due → v = 1 ∧ w' = w) → (¬ badDue due → v = 0 ∧ w' = setW id due w) → QW hl' q w' → HSub hl' hp' → Frm hl hp hl' hp' → K (.int .i64 v) hp') : CF Try.prog 30 [ptr q 0, .int .i64 id, .int .i64 due] hp K := by
  refine CF.loc sl (C30 (K := fun v h' => (badDue due ∧ v = .int .i64 1 ∧ QW h' q w) ∨ (¬ badDue due ∧ v = .int .i64 0 ∧ QW h' q (setW id due w))) h hsz (fun hb => .inl ⟨hb, rfl, h⟩) fun hb hq' hQ => .inr ⟨hb, rfl, hQ⟩) ?_
  rintro v hl' hp' (⟨hb, rfl, hQ⟩ | ⟨hb, rfl, hQ⟩) hs hf
  · exact hk 1 hl' hp' w (fun _ => ⟨rfl, rfl⟩) (fun hn => absurd hb hn) hQ hs hf
  · exact hk 0 hl' hp' _ (fun hn => absurd hn hb) (fun _ => ⟨rfl, rfl⟩) hQ hs hf

theorem N34 {id : Int} (sl : HSub hl hp) (h : QW hl q w) (hsz : w.length ≤ 1000000)
    (hk : ∀ hl' hp', QW hl' q (dropW id w) → HSub hl' hp' → Frm hl hp hl' hp' → K (.bool (getL id w).isSome) hp') : CF Try.prog 34 [ptr q 0, .int .i64 id] hp K := by
  refine CF.loc sl (C34 (K := fun v h' => v = .bool (getL id w).isSome ∧ QW h' q (dropW id w)) h hsz fun hq' hQ => ⟨rfl, hQ⟩) ?_
  rintro v hl' hp' ⟨rfl, hQ⟩ hs hf
  exact hk hl' hp' hQ hs hf

theorem N31 {now : Int} (sl : HSub hl hp) (h : QW hl q w) (hsz : w.length ≤ 1000000)
    (hk : ∀ (hl' hp' : HP) (s : Option Addr) (c : Nat), QW hl' q (w.dropWhile fun t => decide (t.2 ≤ now)) → HSub hl' hp' → Row hp' s (w.takeWhile fun t => decide (t.2 ≤ now)).length c 3 1 ((w.takeWhile fun t => decide (t.2 ≤ now)).flatMap idv) →
      (∀ b, s = some ⟨b, 0, none⟩ → hl' b = .none) → (∀ r, HSub r hp → Disj hl r → HSub r hp' ∧ Disj hl' r ∧ ∀ b, s = some ⟨b, 0, none⟩ → r b = .none) →
      K (.slice s (w.takeWhile fun t => decide (t.2 ≤ now)).length c) hp') : CF Try.prog 31 [ptr q 0, .int .i64 now] hp K := by
  refine CF.loc sl (C31 (K := fun v hx => ∃ (hl' : HP) (s : Option Addr) (c : Nat), v = .slice s (w.takeWhile fun t => decide (t.2 ≤ now)).length c ∧ HSub hl' hx ∧ QW hl' q (w.dropWhile fun t => decide (t.2 ≤ now)) ∧
    Row hx s (w.takeWhile fun t => decide (t.2 ≤ now)).length c 3 1 ((w.takeWhile fun t => decide (t.2 ≤ now)).flatMap idv) ∧ ∀ b, s = some ⟨b, 0, none⟩ → hl' b = .none) h hsz fun hx hl' s c h1 h2 h3 h4 => ⟨hl', s, c, rfl, h1, h2, h3, h4⟩) ?_
  rintro v hx hp' ⟨hl', s, c, rfl, h1, h2, h3, h4⟩ hs hf
  refine hk hl' hp' s c h2 (h1.trans hs) (h3.sub hs) h4 fun r hr hd => ?_
  obtain ⟨f1, f2⟩ := hf r hr hd
  refine ⟨f1, fun x => ?_, fun b hb => ?_⟩
  · rcases f2 x with e | e
    · exact .inl (h1.none e)
    · exact .inr e
  · rcases f2 b with e | e
    · rcases h3 with ⟨r1, _⟩ | ⟨b', r1, r2, r3, r4⟩
      · rw [r1] at hb; cases hb
      · rw [r1] at hb; cases hb; rw [r4] at e; cases e
    · exact e

theorem C32 {a b : Option Addr} {n m c c' : Nat} {xs ys : List Int} (ha : Shows hp a n 1 (xs.flatMap i1)) (hb : Shows hp b m 1 (ys.flatMap i1)) (hn : xs.length = n) (hm : ys.length = m) (hsz : n ≤ 1000000)
    (hK : K (.bool (decide (xs = ys))) hp) : CF Try.prog 32 [.slice a n c, .slice b m c'] hp K := by
  refine F32_ok a n c b m c' hp K ?_
  unfold F32
  by_cases hnm : n = m
  rotate_left
  · have e : (((n : Nat) : Int) != ((m : Nat) : Int)) = true := by rw [bne_iff_ne]; omega
    have : decide (xs = ys) = false := decide_eq_false fun h => hnm (by rw [← hn, ← hm, h])
    rw [e, ite2_true]
    rw [this] at hK; exact hK
  have e : (((n : Nat) : Int) != ((m : Nat) : Int)) = false := by rw [hnm]; simp
  rw [e, ite2_false]
  unfold F32_j1
  refine LoopP.by (J := fun k (x : Int) hp' => hp' = hp ∧ ∃ i : Nat, x = i ∧ i + k = n ∧ xs.take i = ys.take i) ?_ (n := n) ⟨rfl, 0, rfl, by omega, by simp⟩
  rintro I k x hp' ⟨rfl, i, rfl, hik, heq⟩ hI
  unfold F32_l2
  by_cases hi : i < n
  · obtain ⟨b1, o1, rfl, hc1⟩ := ha.get i1_len hn hi
    obtain ⟨b2, o2, rfl, hc2⟩ := hb.get i1_len hm (by omega : i < m)
    have g1 : hp'.cell b1 (o1 + i * 1) = some (.int .i64 (xs[i]'(hn ▸ hi))) := by have := HP.cell_cellN (j := 0) hc1 (v := .int .i64 (xs[i]'(hn ▸ hi))) rfl; simpa using this
    have g2 : hp'.cell b2 (o2 + i * 1) = some (.int .i64 (ys[i]'(by omega))) := by have := HP.cell_cellN (j := 0) hc2 (v := .int .i64 (ys[i]'(by omega))) rfl; simpa using this
    rw [decide_eq_true (by omega : (i : Int) < (n : Int)), ite2_true]
    simp only [ptrN_some, Int.toNat_natCast, g1, g2, ldV_some, intV_int]
    refine ⟨by omega, by omega, by omega, by omega, ?_⟩
    by_cases hxy : xs[i]'(hn ▸ hi) = ys[i]'(by omega)
    · have e : (xs[i]'(hn ▸ hi) != ys[i]'(by omega)) = false := by simpa using hxy
      have w : IntKind.wrap .i64 ((i : Int) + 1) = ((i + 1 : Nat) : Int) := wi (by omega) (by omega)
      rw [e, ite2_false, w]
      refine hI (k - 1) _ _ (by omega) ⟨rfl, i + 1, rfl, by omega, ?_⟩
      rw [List.take_succ_eq_append_getElem (by omega), List.take_succ_eq_append_getElem (by omega), heq, hxy]
    · have e : (xs[i]'(hn ▸ hi) != ys[i]'(by omega)) = true := by simpa using hxy
      have : decide (xs = ys) = false := decide_eq_false fun h => hxy (by subst h; rfl)
      rw [e, ite2_true]
      rw [this] at hK; exact hK
  · rw [decide_eq_false (by omega : ¬ (i : Int) < (n : Int)), ite2_false]
    have : xs = ys := by
      have e1 : xs.take i = xs := List.take_of_length_le (by omega)
      have e2 : ys.take i = ys := List.take_of_length_le (by omega)
      rw [e1, e2] at heq; exact heq
    rw [decide_eq_true this] at hK; exact hK

/-- The chapter's first example. -/
theorem C28 (hK : ∀ hp', HSub hp hp' → K (.bool true) hp') : CF Try.prog 28 [] hp K := by
  refine F28_ok hp K ?_
  unfold F28
  have pp : ∀ (p : Nat) (c : Option Addr → Prop), ptrV (ptr p 0) c = c (some ⟨p, 0, none⟩) := fun _ _ => rfl
  refine N29 fun q l1 hp1 hQ1 s1 f1 => ?_
  obtain ⟨g1, d1⟩ := f1 hp (HSub.refl _)
  rw [pp]
  refine N30 s1 hQ1 (by simp) fun v2 l2 hp2 w2 _ hg2 hQ2 s2 f2 => ?_
  obtain ⟨rfl, rfl⟩ := hg2 (by unfold badDue; omega)
  obtain ⟨g2, d2⟩ := f2 hp g1 d1
  rw [intV_int]
  refine N30 s2 hQ2 (by decide) fun v3 l3 hp3 w3 _ hg3 hQ3 s3 f3 => ?_
  obtain ⟨rfl, rfl⟩ := hg3 (by unfold badDue; omega)
  obtain ⟨g3, d3⟩ := f3 hp g2 d2
  rw [intV_int]
  refine N30 s3 hQ3 (by decide) fun v4 l4 hp4 w4 _ hg4 hQ4 s4 f4 => ?_
  obtain ⟨rfl, rfl⟩ := hg4 (by unfold badDue; omega)
  obtain ⟨g4, d4⟩ := f4 hp g3 d3
  rw [intV_int]
  have hw : setW 9 2 (setW 3 5 (setW 7 5 [])) = [(9, 2), (3, 5), (7, 5)] := by decide
  rw [hw] at hQ4
  refine C42 (hQ4.sub s4) ?_
  simp only [tup3V_mk, List.head?_cons, Option.map_some, Option.getD_some, Option.isSome_some, intV_int, boolV_bool]
  show ite2 true (ite2 true (ite2 true _ _) _) _
  rw [ite2_true, ite2_true, ite2_true]
  refine N31 s4 hQ4 (by simp) fun l5 hp5 s c hQ5 s5 hrow5 hfr5 f5 => ?_
  obtain ⟨g5, d5, _⟩ := f5 hp g4 d4
  have ht : ([(9, 2), (3, 5), (7, 5)] : List Th).takeWhile (fun t => decide (t.2 ≤ 4)) = [(9, 2)] := by decide
  have hd : ([(9, 2), (3, 5), (7, 5)] : List Th).dropWhile (fun t => decide (t.2 ≤ 4)) = [(3, 5), (7, 5)] := by decide
  rw [ht] at hrow5 ⊢
  rw [hd] at hQ5
  rw [slcV_slice]
  intro b6 hb6
  have s6 := HSub.set_fresh hp5 (.cells 3 [(Value.int .i64 9)] 0) hb6
  refine C32 (xs := [9]) (ys := [9]) ((hrow5.sub s6).shows) (.inr ⟨b6, 0, rfl, by rw [HP.cellN_of (HP.set_eq ..)]; rfl⟩) rfl rfl (by decide) ?_
  rw [boolV_bool]
  show ite2 true _ _
  rw [ite2_true]
  refine C33 (hQ5.sub (s5.trans s6)) (by decide) fun hp7 s7 c7 g7 hrow7 _ => ?_
  rw [slcV_slice]
  intro b8 hb8
  have s8 := HSub.set_fresh hp7 (.cells 3 [(Value.int .i64 3), (Value.int .i64 7)] 0) hb8
  refine C32 (xs := [3, 7]) (ys := [3, 7]) ((hrow7.sub s8).shows) (.inr ⟨b8, 0, rfl, by rw [HP.cellN_of (HP.set_eq ..)]; rfl⟩) rfl rfl (by decide) ?_
  rw [boolV_bool]
  exact hK _ (((g5.trans s6).trans g7).trans s8)

end
end Go.Proofs

set_option linter.unusedVariables false
namespace Go.Proofs
open Go Go.HL

/-- An address: four bytes. -/
abbrev Q := Int × Int × Int × Int
def v4 (q : Q) : List Value := [.int .u8 q.1, .int .u8 q.2.1, .int .u8 q.2.2.1, .int .u8 q.2.2.2]
def t4 (t : Q × Int) : List Value := [.int .u8 t.1.1, .int .u8 t.1.2.1, .int .u8 t.1.2.2.1, .int .u8 t.1.2.2.2, .int .i64 t.2]
theorem v4_len (q : Q) : (v4 q).length = 4 := rfl
theorem t4_len (q : Q × Int) : (t4 q).length = 5 := rfl
theorem v4_one (q : Q) : (v4 q).all one = true := rfl
theorem t4_one (q : Q × Int) : (t4 q).all one = true := rfl
theorem v4_inj {p q : Q} : v4 p = v4 q ↔ p = q := by
  simp only [v4, List.cons.injEq, Value.int.injEq, true_and, and_true]
  constructor
  · rintro ⟨a, b, c, d⟩; exact Prod.ext a (Prod.ext b (Prod.ext c d))
  · rintro rfl; exact ⟨rfl, rfl, rfl, rfl⟩
theorem t4_inj {p q : Q × Int} : t4 p = t4 q ↔ p = q := by
  simp only [t4, List.cons.injEq, Value.int.injEq, true_and, and_true]
  constructor
  · rintro ⟨a, b, c, d, e⟩; exact Prod.ext (Prod.ext a (Prod.ext b (Prod.ext c d))) e
  · rintro rfl; exact ⟨rfl, rfl, rfl, rfl, rfl⟩

theorem v4_shaped (q : Q) : shaped Try.prog 3 73 (v4 q) = true := by kernel_rfl
theorem t4_shaped (q : Q × Int) : shaped Try.prog 3 75 (t4 q) = true := by kernel_rfl

theorem eq73 {p q : Q} {c : Bool → Prop} (h : c (decide (p = q))) : eqAgg Try.prog 73 (v4 p) (v4 q) c :=
  eqAgg_of (m := 3) (D := 3) (by kernel_rfl) (v4_shaped p) (v4_shaped q) (by simp [v4_inj]) h
theorem eq75 {p q : Q × Int} {c : Bool → Prop} (h : c (decide (p = q))) : eqAgg Try.prog 75 (t4 p) (t4 q) c :=
  eqAgg_of (m := 3) (D := 3) (by kernel_rfl) (t4_shaped p) (t4_shaped q) (by simp [t4_inj]) h

/-! Class, the two addresses. -/
def isPort (x : Int) : Bool := decide (0 ≤ x ∧ x ≤ 65535)
def cls (x y : Int) : Bool := isPort x && isPort y && (decide (x < 1024) == decide (y < 1024)) && (x.tmod 2 == y.tmod 2)

/-- Where an address is in a list, or -1. -/
def idx (q : Q) (l : List Q) : Int := if q ∈ l then (l.idxOf q : Int) else -1

theorem idx_none {q : Q} {l : List Q} (h : ∀ j : Nat, l[j]? ≠ some q) : idx q l = -1 := by
  have : q ∉ l := fun hm => by obtain ⟨j, hj⟩ := List.mem_iff_getElem?.1 hm; exact h j hj
  simp [idx, this]
theorem idx_at {q : Q} {l : List Q} {i : Nat} (h : l[i]? = some q) (hn : ∀ j : Nat, j < i → l[j]? ≠ some q) : idx q l = i := by
  have hm : q ∈ l := List.mem_iff_getElem?.2 ⟨i, h⟩
  have hlt : l.idxOf q < l.length := List.idxOf_lt_length_of_mem hm
  have h1 : l[l.idxOf q]? = some q := by rw [List.getElem?_eq_getElem hlt]; simp
  have h2 : ¬ l.idxOf q < i := fun h' => hn _ h' h1
  have h3 : ¬ i < l.idxOf q := fun h' => by
    have := List.not_of_lt_findIdx (xs := l) (p := (· == q)) (i := i) h'
    have hi : i < l.length := by omega
    rw [List.getElem?_eq_getElem hi] at h
    simp at this h
    exact this h
  simp only [idx, hm, if_true]
  omega

end Go.Proofs

set_option linter.unusedVariables false
set_option maxRecDepth 20000
namespace Go.Proofs
open Go Go.HL

theorem dec5 {D : Nat} {cs : List Value} (h : wellS Try.prog D 5 cs = true) : ∃ n : Int, (0 ≤ n ∧ n ≤ 255) ∧ cs = [.int .u8 n] := by
  cases D with
  | zero => cases h
  | succ D =>
    unfold wellS at h
    rw [show Try.prog.underlying 5 = some (.int .u8) by kernel_rfl] at h
    simp only at h
    split at h
    · rename_i q n
      simp only [Bool.and_eq_true, decide_eq_true_eq] at h
      obtain ⟨rfl, hw⟩ := h
      exact ⟨n, (Go.Lit.wf_int_iff _ _).1 hw, rfl⟩
    · cases h
theorem dec3 {D : Nat} {cs : List Value} (h : wellS Try.prog D 3 cs = true) : ∃ n : Int, (-9223372036854775808 ≤ n ∧ n ≤ 9223372036854775807) ∧ cs = [.int .i64 n] := by
  cases D with
  | zero => cases h
  | succ D =>
    unfold wellS at h
    rw [show Try.prog.underlying 3 = some (.int .i64) by kernel_rfl] at h
    simp only at h
    split at h
    · rename_i q n
      simp only [Bool.and_eq_true, decide_eq_true_eq] at h
      obtain ⟨rfl, hw⟩ := h
      exact ⟨n, (Go.Lit.wf_int_iff _ _).1 hw, rfl⟩
    · cases h
theorem dec4 {D : Nat} {cs : List Value} (h : wellS Try.prog D 4 cs = true) : ∃ b : Bool, cs = [.bool b] := by
  cases D with
  | zero => cases h
  | succ D =>
    unfold wellS at h
    rw [show Try.prog.underlying 4 = some .bool by kernel_rfl] at h
    simp only at h
    split at h
    · exact ⟨_, rfl⟩
    · cases h

/-- Are the bytes of an address bytes? -/
def okQ (q : Q) : Prop := (0 ≤ q.1 ∧ q.1 ≤ 255) ∧ (0 ≤ q.2.1 ∧ q.2.1 ≤ 255) ∧ (0 ≤ q.2.2.1 ∧ q.2.2.1 ≤ 255) ∧ (0 ≤ q.2.2.2 ∧ q.2.2.2 ≤ 255)

theorem dec73 : ∀ (D : Nat) (cs : List Value), wellS Try.prog D 73 cs = true → ∃ q : Q, okQ q ∧ cs = v4 q := by
  intro D cs h
  cases D with
  | zero => cases h
  | succ D =>
    unfold wellS at h
    rw [show Try.prog.underlying 73 = some (.array 4 5) by kernel_rfl] at h
    simp only [show Try.prog.cellsOf 73 = 4 by kernel_rfl, show Try.prog.cellsOf 5 = 1 by kernel_rfl, Bool.and_eq_true, decide_eq_true_eq, List.all_eq_true, List.mem_range] at h
    obtain ⟨hl, he⟩ := h
    match cs, hl with
    | [c0, c1, c2, c3], _ =>
      obtain ⟨n0, r0, e0⟩ := dec5 (he 0 (by omega))
      obtain ⟨n1, r1, e1⟩ := dec5 (he 1 (by omega))
      obtain ⟨n2, r2, e2⟩ := dec5 (he 2 (by omega))
      obtain ⟨n3, r3, e3⟩ := dec5 (he 3 (by omega))
      simp at e0 e1 e2 e3
      subst e0; subst e1; subst e2; subst e3
      exact ⟨(n0, n1, n2, n3), ⟨r0, r1, r2, r3⟩, rfl⟩
end Go.Proofs

set_option linter.unusedVariables false
set_option maxRecDepth 20000
namespace Go.Proofs
open Go Go.HL
open Go.Exp (Th tlt swo_tlt Ord setW dropW insW takeWhile_two dropWhile_two)

theorem decI : ∀ (D : Nat) (cs : List Value), wellS Try.prog D 3 cs = true → ∃ x : Int, (-9223372036854775808 ≤ x ∧ x ≤ 9223372036854775807) ∧ cs = i1 x := fun D cs h => dec3 h
def okI (x : Int) : Prop := -9223372036854775808 ≤ x ∧ x ≤ 9223372036854775807

theorem row_frm {hl hp hl' hp' : HP} {s : Option Addr} {n c : Nat} {e : TypeId} {size : Nat} {xs : List Value} (hf : Frm hl hp hl' hp') (hrow : Row hp s n c e size xs) (hfr : ∀ b, s = some ⟨b, 0, none⟩ → hl b = .none) :
    Row hp' s n c e size xs ∧ ∀ b, s = some ⟨b, 0, none⟩ → hl' b = .none := by
  rcases hrow with ⟨r1, r2, r3, r4⟩ | ⟨b, r1, r2, r3, r4⟩
  · exact ⟨.inl ⟨r1, r2, r3, r4⟩, fun b e => by rw [r1] at e; cases e⟩
  · obtain ⟨f1, f2⟩ := hf (HP.only b _) (HSub.only r4) (Disj.only (hfr b r1))
    exact ⟨.inr ⟨b, r1, r2, r3, f1.of_only (by simp)⟩, fun b' e => by rw [r1] at e; cases e; exact f2.only_none (by simp)⟩

/-- More numbers behind. -/
theorem app_ints {hp : HP} {s a : Option Addr} {n c m c' : Nat} {xs ys : List Value} (hrow : Row hp s n c 3 1 xs) (ha : Shows hp a m 1 ys) (h1 : ys.all one = true) (hn : n + m ≤ 1000000) {K : Value → HP → Prop}
    (h : ∀ s2 c2 hp', Row hp' s2 (n + m) c2 3 1 (xs ++ ys) → (∀ h0 : HP, HSub h0 hp → (∀ b', s = some ⟨b', 0, none⟩ → h0 b' = .none) → HSub h0 hp' ∧ ∀ b', s2 = some ⟨b', 0, none⟩ → h0 b' = .none) → K (.slice s2 (n + m) c2) hp') :
    opS Try.prog (Builtin.append_ #[24, 24] 24 ⟨[.slice s n c, .slice a m c']⟩) hp K := by
  refine opS_app (e := 3) (size := 1) (bytes := 8) (by kernel_rfl) hrow ha h1 (by omega) (by omega) ?_
  intro s2 c2 hp' hrow' hup
  refine h s2 c2 hp' hrow' fun h0 hs0 hfr => ?_
  rcases hup with ⟨rfl, rfl⟩ | ⟨b', e', rfl, hb', rfl⟩
  · exact ⟨hs0, hfr⟩
  · have hn0 : h0 b' = .none := by
      rcases hb' with hb' | hb'
      · exact hs0.none hb'
      · exact hfr b' hb'
    exact ⟨hs0.up hn0 e', fun b'' e => by cases e; exact hn0⟩

theorem setW_len (id due : Int) (w : List Th) : (setW id due w).length ≤ w.length + 1 := by
  unfold setW
  rw [(Exp.insW_perm (id, due) (dropW id w)).length_eq, List.length_cons]
  have : (dropW id w).length ≤ w.length := List.length_filter_le _ _
  omega

section
variable {a0 a1 : Option Addr} {n0 c0 n1 c1 : Nat} {xs cs : List Int} {en : Int} {hp0 : HP} {K : Value → HP → Prop}

theorem int_at {hp : HP} {b o i : Nat} {x : Int} (h : hp.cellN b (o + i * 1) 1 = some (i1 x)) : hp.cell b (o + i * 1) = some (.int .i64 x) := by
  have := HP.cell_cellN (j := 0) h (v := .int .i64 x) rfl; simpa using this

end
end Go.Proofs

set_option linter.unusedVariables false
set_option maxRecDepth 20000
namespace Go.Proofs
open Go Go.HL
-- 37 interpreter/interpreterref20.Find
theorem F37_r0 (e : Env) (hp : HP) (K : Env → PV → HP → Prop) : RW Try.prog 20 [] (opsAt Try.f37 [0]) (List.range 1) e V0 hp K =
    (K (upd e 4 (sI (0))) V0 hp) := by kernel_rfl
theorem F37_r1 (e : Env) (x0a : Option Addr) (x0n : Nat) (x0c : Nat) (x5 : Int) (hp : HP) (K : Env → PV → HP → Prop) : RW Try.prog 20 [] (opsAt Try.f37 [1, 0, 1, 0, 0, 0, 0]) (List.range 4) (upd (upd e 5 (sI (x5))) 0 (sV (Value.slice x0a x0n x0c))) V0 hp K =
    (K (upd (upd (upd (upd (upd (upd e 5 (sI (x5))) 0 (sV (Value.slice x0a x0n x0c))) 6 (sI (x5))) 7 (sV (Value.slice x0a x0n x0c))) 8 (sI ((x0n : Nat)))) 9 (sB ((decide ((x5 : Int) < (x0n : Nat)))))) V0 hp) := by kernel_rfl
theorem F37_r2 (e : Env) (x0a : Option Addr) (x0n : Nat) (x0c : Nat) (x1 : Int) (x5 : Int) (hp : HP) (K : Env → PV → HP → Prop) : RW Try.prog 20 [] (opsAt Try.f37 [1, 0, 1, 0, 0, 1, 0, 0, 0]) (List.range 7) (upd (upd (upd e 5 (sI (x5))) 1 (sI (x1))) 0 (sV (Value.slice x0a x0n x0c))) V0 hp K =
    ((0 ≤ (x5 : Int)) ∧ ((x5 : Int) < (x0n : Nat)) ∧ (ptrN x0a fun b1 o2 => (ldV (HP.cell hp b1 ((o2 + Int.toNat x5 * 2) + 0)) fun v3 => (intV v3 .i64 fun i4 => (K (upd (upd (upd (upd (upd (upd (upd (upd (upd (upd e 5 (sI (x5))) 1 (sI (x1))) 0 (sV (Value.slice x0a x0n x0c))) 12 (sV (Value.slice x0a x0n x0c))) 13 (sI (x5))) 14 (sV (ptr b1 (o2 + Int.toNat x5 * 2)))) 15 (sV (ptr b1 ((o2 + Int.toNat x5 * 2) + 0)))) 16 (sI (i4))) 17 (sI (x1))) 18 (sB (((i4 : Int) == x1)))) V0 hp))))) := by kernel_rfl
theorem F37_r3 (e : Env) (x5 : Int) (hp : HP) (K : Env → PV → HP → Prop) : RW Try.prog 20 [] (opsAt Try.f37 [1, 0, 1, 0, 0, 1, 0, 0, 1, 0, 0]) (List.range 2) (upd e 5 (sI (x5))) V0 hp K =
    (K (upd (upd (upd e 5 (sI (x5))) 19 (sI (x5))) 4 (sI (x5))) V0 hp) := by kernel_rfl
theorem F37_r4 (e : Env) (x5 : Int) (hp : HP) (K : Env → PV → HP → Prop) : RW Try.prog 20 [] (opsAt Try.f37 [1, 0, 1, 0, 0, 1, 1]) (List.range 3) (upd e 5 (sI (x5))) V0 hp K =
    (K (upd (upd (upd (upd e 5 (sI (x5))) 10 (sI (x5))) 11 (sI ((IntKind.wrap .i64 (x5 + 1))))) 5 (sI ((IntKind.wrap .i64 (x5 + 1))))) V0 hp) := by kernel_rfl
theorem F37_r5 (e : Env) (hp : HP) (K : Env → PV → HP → Prop) : RW Try.prog 20 [] (opsAt Try.f37 [1, 1, 0]) (List.range 1) e V0 hp K =
    (K (upd e 4 (sI ((-1)))) V0 hp) := by kernel_rfl
def F37_l2 (x0a : Option Addr) (x0n : Nat) (x0c : Nat) (x1 : Int) (K : Value → HP → Prop) (I2 : (Int) → HP → Prop) (x5 : Int) (hp : HP) : Prop :=
  (ite2 (decide ((x5 : Int) < (x0n : Nat))) ((0 ≤ (x5 : Int)) ∧ ((x5 : Int) < (x0n : Nat)) ∧ (ptrN x0a fun b_1 o_2 => (ldV (HP.cell hp b_1 ((o_2 + Int.toNat x5 * 2) + 0)) fun v_3 => (intV v_3 .i64 fun i_4 => (ite2 ((i_4 : Int) == x1) (K (Value.int .i64 x5) hp) (I2 (IntKind.wrap .i64 (x5 + 1)) hp)))))) (K (Value.int .i64 (-1)) hp))
def F37_j1 (x0a : Option Addr) (x0n : Nat) (x0c : Nat) (x1 : Int) (x5 : Int) (hp : HP) (K : Value → HP → Prop) : Prop :=
  (LoopP (σ := Int) (fun I s hp => F37_l2 x0a x0n x0c x1  K I s hp) x5 hp)
theorem F37_r6 (e : Env) (hp : HP) (K : Env → PV → HP → Prop) : RW Try.prog 20 [] (opsAt Try.f37 [1, 0, 0]) (List.range 1) e V0 hp K =
    (K (upd e 5 (sI (0))) V0 hp) := by kernel_rfl
def F37 (x0a : Option Addr) (x0n : Nat) (x0c : Nat) (x1 : Int) (hp : HP) (K : Value → HP → Prop) : Prop :=
  (F37_j1 x0a x0n x0c x1 0 hp  K)
noncomputable def F37_code : Code := (.seq (.region 0 (opsAt Try.f37 [0]) false) (.seq (.seq (.region 1 (opsAt Try.f37 [1, 0, 0]) false) (.block 0 (.loop (.seq (.seq (.region 2 (opsAt Try.f37 [1, 0, 1, 0, 0, 0, 0]) false) (.cond (.tmp 9) .skip (.exit 0))) (.seq (.block 1 (.seq (.region 4 (opsAt Try.f37 [1, 0, 1, 0, 0, 1, 0, 0, 0]) false) (.cond (.tmp 18) (.seq (.region 5 (opsAt Try.f37 [1, 0, 1, 0, 0, 1, 0, 0, 1, 0, 0]) false) .ret) .skip))) (.region 3 (opsAt Try.f37 [1, 0, 1, 0, 0, 1, 1]) false)))))) (.seq (.region 6 (opsAt Try.f37 [1, 1, 0]) false) .ret)))
theorem F37_body : Try.f37.body = some F37_code := by kernel_rfl
theorem F37_ok (x0a : Option Addr) (x0n : Nat) (x0c : Nat) (x1 : Int) (hp : HP) (K : Value → HP → Prop) (h : F37 x0a x0n x0c x1 hp K) : CF Try.prog 37 [(Value.slice x0a x0n x0c), (Value.int .i64 x1)] hp K := by
 refine .inl ⟨by kernel_rfl, AC.intro (N := 20) Try.func37 F37_body rfl (Nat.le_of_ble_eq_true rfl) ?_⟩
 unfold F37 at h
 unfold F37_code
 refine AWP.seq' ?_
 refine AWP.rgn (F37_r0 (upd (upd E0 1 (sI (x1))) 0 (sV (Value.slice x0a x0n x0c)))  hp _) ?_ (Rv 0 _ (Rv 1 _ (Rn))) (Sc rfl (Sc rfl (Sn))) (Sn)
 refine AWP.seq' ?_
 refine AWP.seq (fun env pv hp => ∃ (x0a : Option Addr) (x0n : Nat) (x0c : Nat) (x1 : Int) (x5 : Int), Sub (upd (upd (upd E0 5 (sI (x5))) 1 (sI (x1))) 0 (sV (Value.slice x0a x0n x0c))) env ∧ Sub V0 pv ∧ (F37_j1 x0a x0n x0c x1 x5 hp  K)) ?_ ?_
 ·refine AWP.rgn (F37_r6 (upd (upd E0 1 (sI (x1))) 0 (sV (Value.slice x0a x0n x0c)))  hp _) ?_ (Rv 0 _ (Rv 1 _ (Rn))) (Sc rfl (Sc rfl (Sn))) (Sn)
  exact ⟨x0a, x0n, x0c, x1, 0, (Sc rfl (Sc rfl (Sc rfl (Sn)))), (Sn), h⟩
 ·rintro env pv hp ⟨x0a, x0n, x0c, x1, x5, he, hv, h⟩
  refine AWP.sub (env' := (upd (upd (upd E0 5 (sI (x5))) 1 (sI (x1))) 0 (sV (Value.slice x0a x0n x0c)))) (pv' := V0) ?_ (Rv 0 _ (Rv 1 _ (Rv 5 _ (Rn)))) he hv (HSub.refl _)
  clear he hv
  unfold F37_j1 at h
  refine AWP.block ?_
  refine AWP.loop (σ := Int) (fun I s hp => F37_l2 x0a x0n x0c x1  K I s hp) (fun s => (upd (upd (upd E0 5 (sI (s))) 1 (sI (x1))) 0 (sV (Value.slice x0a x0n x0c)))) (fun s => V0) x5 h (fun s => (Rv 0 _ (Rv 1 _ (Rv 5 _ (Rn))))) (Sc rfl (Sc rfl (Sc rfl (Sn)))) (Sn) ?_
  intro I2 s hp h
  obtain ⟨x5, hs⟩ : ∃ x, x = s := ⟨s, rfl⟩
  subst hs
  replace h : F37_l2 x0a x0n x0c x1  K I2 x5 hp := h
  unfold F37_l2 at h
  refine AWP.seq' ?_
  refine AWP.seq' ?_
  refine AWP.rgn (F37_r1 (upd E0 1 (sI (x1))) x0a x0n x0c x5 hp _) ?_ (Rv 0 _ (Rv 5 _ (Rv 1 _ (Rn)))) (Sc rfl (Sc rfl (Sc rfl (Sn)))) (Sn)
  refine AWP.cond (t := (decide ((x5 : Int) < (x0n : Nat)))) rfl (fun e => ?_) (fun e => ?_)
  ·replace h := ite2_t h e
   refine AWP.skip ?_
   refine AWP.seq' ?_
   refine AWP.block ?_
   refine AWP.seq' ?_
   refine AWP.rgn (F37_r2 E0 x0a x0n x0c x1 x5 hp _) ?_ (Rv 0 _ (Rv 1 _ (Rv 5 _ (Rn)))) (Sc rfl (Sc rfl (Sc rfl (Sn)))) (Sn)
   refine ⟨h.1, h.2.1, ?_⟩
   replace h := h.2.2
   refine ptrN_mono h (fun b_1 o_2 h => ?_)
   refine ldV_mono h (fun v_3 h => ?_)
   refine intV_mono h (fun i_4 h => ?_)
   refine AWP.cond (t := ((i_4 : Int) == x1)) rfl (fun e => ?_) (fun e => ?_)
   ·replace h := ite2_t h e
    refine AWP.seq' ?_
    refine AWP.rgn (F37_r3 E0 x5 hp _) ?_ (Rv 5 _ (Rn)) (Sc rfl (Sn)) (Sn)
    refine AWP.ret ?_
    exact h
   ·replace h := ite2_f h e
    refine AWP.skip ?_
    refine AWP.rgn (F37_r4 (upd (upd E0 1 (sI (x1))) 0 (sV (Value.slice x0a x0n x0c))) x5 hp _) ?_ (Rv 5 _ (Rv 0 _ (Rv 1 _ (Rn)))) (Sc rfl (Sc rfl (Sc rfl (Sn)))) (Sn)
    exact ⟨(IntKind.wrap .i64 (x5 + 1)), (Sc rfl (Sc rfl (Sc rfl (Sn)))), (Sn), h⟩
  ·replace h := ite2_f h e
   refine AWP.exit ?_
   refine AWP.seq' ?_
   refine AWP.rgn (F37_r5 E0  hp _) ?_ (Rn) (Sn) (Sn)
   refine AWP.ret ?_
   exact h
-- 39 interpreter/interpreterref20.Set
theorem F39_r0 (e : Env) (hp : HP) (K : Env → PV → HP → Prop) : RW Try.prog 61 [] (opsAt Try.f39 [0]) (List.range 1) e V0 hp K =
    (K (upd e 6 (sV (Value.slice none 0 0))) V0 hp) := by kernel_rfl
theorem F39_r1 (e : Env) (x0a : Option Addr) (x0n : Nat) (x0c : Nat) (x1 : Int) (hp : HP) (K : Env → PV → HP → Prop) : RW Try.prog 61 [] (opsAt Try.f39 [1, 0]) (List.range 4) (upd (upd e 1 (sI (x1))) 0 (sV (Value.slice x0a x0n x0c))) V0 hp K =
    (CF Try.prog 40 [(Value.slice x0a x0n x0c), (Value.int .i64 x1)] hp fun u1 h2 => (slcV u1 fun a3 n4 c5 => (K (upd (upd (upd (upd (upd (upd e 1 (sI (x1))) 0 (sV (Value.slice x0a x0n x0c))) 9 (sV (Value.slice x0a x0n x0c))) 10 (sI (x1))) 11 (sV (Value.slice a3 n4 c5))) 0 (sV (Value.slice a3 n4 c5))) V0 h2))) := by kernel_rfl
theorem F39_r2 (e : Env) (x0a : Option Addr) (x0n : Nat) (x0c : Nat) (x7 : Int) (hp : HP) (K : Env → PV → HP → Prop) : RW Try.prog 61 [] (opsAt Try.f39 [1, 1, 1, 1, 0]) (List.range 6) (upd (upd e 7 (sI (x7))) 0 (sV (Value.slice x0a x0n x0c))) V0 hp K =
    (∀ b1 : Nat, hp b1 = .none → ((0 ≤ (x7 : Int)) ∧ ((x7 : Int) ≤ (x0c : Nat)) ∧ (opS Try.prog (Builtin.append_ #[56, 56] 56 ⟨[(Value.slice (some ⟨b1, 0, none⟩) 0 0), (Value.slice x0a (Int.toNat x7) x0c)]⟩) (HP.set hp b1 (.cells 60 [] 0)) fun u2 h3 => (slcV u2 fun a4 n5 c6 => (K (upd (upd (upd (upd (upd (upd (upd (upd e 7 (sI (x7))) 0 (sV (Value.slice x0a x0n x0c))) 45 (sV (Value.slice (some ⟨b1, 0, none⟩) 0 0))) 46 (sV (Value.slice x0a x0n x0c))) 47 (sI (x7))) 48 (sV (Value.slice x0a (Int.toNat x7) x0c))) 49 (sV (Value.slice a4 n5 c6))) 8 (sV (Value.slice a4 n5 c6))) V0 h3))))) := by kernel_rfl
theorem F39_r3 (e : Env) (x1 : Int) (x2 : Int) (x8a : Option Addr) (x8n : Nat) (x8c : Nat) (hp : HP) (K : Env → PV → HP → Prop) : RW Try.prog 61 [] (opsAt Try.f39 [1, 1, 1, 1, 1, 0]) (List.range 7) (upd (upd (upd e 8 (sV (Value.slice x8a x8n x8c))) 2 (sI (x2))) 1 (sI (x1))) V0 hp K =
    (if List.length [(Value.int .i64 x1), (Value.int .i64 x2)] = 2 then (∀ b1 : Nat, hp b1 = .none → (opS Try.prog (Builtin.append_ #[56, 56] 56 ⟨[(Value.slice x8a x8n x8c), (Value.slice (some ⟨b1, 0, none⟩) 1 1)]⟩) (HP.set hp b1 (.cells 60 (splice [(Value.int .i64 0), (Value.int .i64 0)] 0 [(Value.int .i64 x1), (Value.int .i64 x2)]) 0)) fun u2 h3 => (slcV u2 fun a4 n5 c6 => (K (upd (upd (upd (upd (upd (upd (upd (upd (upd (upd e 8 (sV (Value.slice x8a x8n x8c))) 2 (sI (x2))) 1 (sI (x1))) 50 (sV (Value.slice x8a x8n x8c))) 51 (sI (x1))) 52 (sI (x2))) 53 (sV (Value.agg ⟨[(Value.int .i64 x1), (Value.int .i64 x2)]⟩))) 54 (sV (Value.slice (some ⟨b1, 0, none⟩) 1 1))) 55 (sV (Value.slice a4 n5 c6))) 8 (sV (Value.slice a4 n5 c6))) V0 h3)))) else False) := by kernel_rfl
theorem F39_r4 (e : Env) (x0a : Option Addr) (x0n : Nat) (x0c : Nat) (x7 : Int) (x8a : Option Addr) (x8n : Nat) (x8c : Nat) (hp : HP) (K : Env → PV → HP → Prop) : RW Try.prog 61 [] (opsAt Try.f39 [1, 1, 1, 1, 1, 1, 0]) (List.range 6) (upd (upd (upd e 8 (sV (Value.slice x8a x8n x8c))) 7 (sI (x7))) 0 (sV (Value.slice x0a x0n x0c))) V0 hp K =
    ((0 ≤ (x7 : Int)) ∧ ((x7 : Int) ≤ (x0n : Nat)) ∧ (x0n ≤ x0c) ∧ (opS Try.prog (Builtin.append_ #[56, 56] 56 ⟨[(Value.slice x8a x8n x8c), (Value.slice (sub0 x0a x0c (Int.toNat x7) 2) (x0n - Int.toNat x7) (x0c - Int.toNat x7))]⟩) hp fun u1 h2 => (slcV u1 fun a3 n4 c5 => (K (upd (upd (upd (upd (upd (upd (upd (upd (upd e 8 (sV (Value.slice x8a x8n x8c))) 7 (sI (x7))) 0 (sV (Value.slice x0a x0n x0c))) 56 (sV (Value.slice x8a x8n x8c))) 57 (sV (Value.slice x0a x0n x0c))) 58 (sI (x7))) 59 (sV (Value.slice (sub0 x0a x0c (Int.toNat x7) 2) (x0n - Int.toNat x7) (x0c - Int.toNat x7)))) 60 (sV (Value.slice a3 n4 c5))) 6 (sV (Value.slice a3 n4 c5))) V0 h2)))) := by kernel_rfl
def F39_j2 (x0a : Option Addr) (x0n : Nat) (x0c : Nat) (x1 : Int) (x2 : Int) (x7 : Int) (hp : HP) (K : Value → HP → Prop) : Prop :=
  (∀ b_6 : Nat, hp b_6 = .none → ((0 ≤ (x7 : Int)) ∧ ((x7 : Int) ≤ (x0c : Nat)) ∧ (opS Try.prog (Builtin.append_ #[56, 56] 56 ⟨[(Value.slice (some ⟨b_6, 0, none⟩) 0 0), (Value.slice x0a (Int.toNat x7) x0c)]⟩) (HP.set hp b_6 (.cells 60 [] 0)) fun u_7 h_8 => (slcV u_7 fun a_9 n_10 c_11 => (if List.length [(Value.int .i64 x1), (Value.int .i64 x2)] = 2 then (∀ b_12 : Nat, h_8 b_12 = .none → (opS Try.prog (Builtin.append_ #[56, 56] 56 ⟨[(Value.slice a_9 n_10 c_11), (Value.slice (some ⟨b_12, 0, none⟩) 1 1)]⟩) (HP.set h_8 b_12 (.cells 60 (splice [(Value.int .i64 0), (Value.int .i64 0)] 0 [(Value.int .i64 x1), (Value.int .i64 x2)]) 0)) fun u_13 h_14 => (slcV u_13 fun a_15 n_16 c_17 => ((0 ≤ (x7 : Int)) ∧ ((x7 : Int) ≤ (x0n : Nat)) ∧ (x0n ≤ x0c) ∧ (opS Try.prog (Builtin.append_ #[56, 56] 56 ⟨[(Value.slice a_15 n_16 c_17), (Value.slice (sub0 x0a x0c (Int.toNat x7) 2) (x0n - Int.toNat x7) (x0c - Int.toNat x7))]⟩) h_14 fun u_18 h_19 => (slcV u_18 fun a_20 n_21 c_22 => (K (Value.slice a_20 n_21 c_22) h_19))))))) else False)))))
theorem F39_r5 (e : Env) (x7 : Int) (hp : HP) (K : Env → PV → HP → Prop) : RW Try.prog 61 [] (opsAt Try.f39 [1, 1, 1, 0, 0, 0, 1, 0]) (List.range 3) (upd e 7 (sI (x7))) V0 hp K =
    (K (upd (upd (upd (upd e 7 (sI (x7))) 43 (sI (x7))) 44 (sI ((IntKind.wrap .i64 (x7 + 1))))) 7 (sI ((IntKind.wrap .i64 (x7 + 1))))) V0 hp) := by kernel_rfl
def F39_j4 (x0a : Option Addr) (x0n : Nat) (x0c : Nat) (x1 : Int) (x2 : Int) (x7 : Int) (x42 : Bool) (hp : HP) (I3 : (Int) → HP → Prop) (K : Value → HP → Prop) : Prop :=
  (ite2 x42 (I3 (IntKind.wrap .i64 (x7 + 1)) hp) (F39_j2 x0a x0n x0c x1 x2 x7 hp  K))
theorem F39_r6 (e : Env) (x0a : Option Addr) (x0n : Nat) (x0c : Nat) (x1 : Int) (x2 : Int) (x7 : Int) (hp : HP) (K : Env → PV → HP → Prop) : RW Try.prog 61 [] (opsAt Try.f39 [1, 1, 1, 0, 0, 0, 0, 0]) (List.range 31) (upd (upd (upd (upd e 7 (sI (x7))) 2 (sI (x2))) 1 (sI (x1))) 0 (sV (Value.slice x0a x0n x0c))) V0 hp K =
    (ite2 (decide ((x7 : Int) < (x0n : Nat))) ((0 ≤ (x7 : Int)) ∧ ((x7 : Int) < (x0n : Nat)) ∧ (ptrN x0a fun b1 o2 => (ldV (HP.cell hp b1 ((o2 + Int.toNat x7 * 2) + 1)) fun v3 => (intV v3 .i64 fun i4 => (ite2 (decide ((i4 : Int) < x2)) (K (upd (upd (upd (upd (upd (upd (upd (upd (upd (upd (upd (upd (upd (upd (upd (upd (upd (upd (upd (upd (upd (upd (upd (upd (upd (upd (upd (upd (upd (upd (upd (upd (upd (upd (upd e 7 (sI (x7))) 2 (sI (x2))) 1 (sI (x1))) 0 (sV (Value.slice x0a x0n x0c))) 12 (sI (x7))) 13 (sV (Value.slice x0a x0n x0c))) 14 (sI ((x0n : Nat)))) 15 (sB ((decide ((x7 : Int) < (x0n : Nat)))))) 16 (sB (true))) 17 (sV (Value.slice x0a x0n x0c))) 18 (sI (x7))) 19 (sV (ptr b1 (o2 + Int.toNat x7 * 2)))) 20 (sV (ptr b1 ((o2 + Int.toNat x7 * 2) + 1)))) 21 (sI (i4))) 22 (sI (x2))) 23 (sB ((decide ((i4 : Int) < x2))))) 24 (sB (true))) 25 (sV undef)) 26 (sV undef)) 27 (sV undef)) 28 (sV undef)) 29 (sV undef)) 30 (sV undef)) 31 (sV undef)) 32 (sV undef)) 33 (sV undef)) 34 (sV undef)) 35 (sV undef)) 36 (sV undef)) 37 (sV undef)) 38 (sV undef)) 39 (sV undef)) 40 (sV undef)) 41 (sB (true))) 42 (sB (true))) V0 hp) ((0 ≤ (x7 : Int)) ∧ ((x7 : Int) < (x0n : Nat)) ∧ (ptrN x0a fun b5 o6 => (ldV (HP.cell hp b5 ((o6 + Int.toNat x7 * 2) + 1)) fun v7 => (intV v7 .i64 fun i8 => (ite2 ((i8 : Int) == x2) ((0 ≤ (x7 : Int)) ∧ ((x7 : Int) < (x0n : Nat)) ∧ (ptrN x0a fun b9 o10 => (ldV (HP.cell hp b9 ((o10 + Int.toNat x7 * 2) + 0)) fun v11 => (intV v11 .i64 fun i12 => (K (upd (upd (upd (upd (upd (upd (upd (upd (upd (upd (upd (upd (upd (upd (upd (upd (upd (upd (upd (upd (upd (upd (upd (upd (upd (upd (upd (upd (upd (upd (upd (upd (upd (upd (upd e 7 (sI (x7))) 2 (sI (x2))) 1 (sI (x1))) 0 (sV (Value.slice x0a x0n x0c))) 12 (sI (x7))) 13 (sV (Value.slice x0a x0n x0c))) 14 (sI ((x0n : Nat)))) 15 (sB ((decide ((x7 : Int) < (x0n : Nat)))))) 16 (sB (true))) 17 (sV (Value.slice x0a x0n x0c))) 18 (sI (x7))) 19 (sV (ptr b1 (o2 + Int.toNat x7 * 2)))) 20 (sV (ptr b1 ((o2 + Int.toNat x7 * 2) + 1)))) 21 (sI (i4))) 22 (sI (x2))) 23 (sB ((decide ((i4 : Int) < x2))))) 24 (sB (false))) 25 (sV (Value.slice x0a x0n x0c))) 26 (sI (x7))) 27 (sV (ptr b5 (o6 + Int.toNat x7 * 2)))) 28 (sV (ptr b5 ((o6 + Int.toNat x7 * 2) + 1)))) 29 (sI (i8))) 30 (sI (x2))) 31 (sB (((i8 : Int) == x2)))) 32 (sB (true))) 33 (sV (Value.slice x0a x0n x0c))) 34 (sI (x7))) 35 (sV (ptr b9 (o10 + Int.toNat x7 * 2)))) 36 (sV (ptr b9 ((o10 + Int.toNat x7 * 2) + 0)))) 37 (sI (i12))) 38 (sI (x1))) 39 (sB ((decide ((i12 : Int) < x1))))) 40 (sB ((decide ((i12 : Int) < x1))))) 41 (sB ((decide ((i12 : Int) < x1))))) 42 (sB ((decide ((i12 : Int) < x1))))) V0 hp))))) (K (upd (upd (upd (upd (upd (upd (upd (upd (upd (upd (upd (upd (upd (upd (upd (upd (upd (upd (upd (upd (upd (upd (upd (upd (upd (upd (upd (upd (upd (upd (upd (upd (upd (upd (upd e 7 (sI (x7))) 2 (sI (x2))) 1 (sI (x1))) 0 (sV (Value.slice x0a x0n x0c))) 12 (sI (x7))) 13 (sV (Value.slice x0a x0n x0c))) 14 (sI ((x0n : Nat)))) 15 (sB ((decide ((x7 : Int) < (x0n : Nat)))))) 16 (sB (true))) 17 (sV (Value.slice x0a x0n x0c))) 18 (sI (x7))) 19 (sV (ptr b1 (o2 + Int.toNat x7 * 2)))) 20 (sV (ptr b1 ((o2 + Int.toNat x7 * 2) + 1)))) 21 (sI (i4))) 22 (sI (x2))) 23 (sB ((decide ((i4 : Int) < x2))))) 24 (sB (false))) 25 (sV (Value.slice x0a x0n x0c))) 26 (sI (x7))) 27 (sV (ptr b5 (o6 + Int.toNat x7 * 2)))) 28 (sV (ptr b5 ((o6 + Int.toNat x7 * 2) + 1)))) 29 (sI (i8))) 30 (sI (x2))) 31 (sB (((i8 : Int) == x2)))) 32 (sB (false))) 33 (sV undef)) 34 (sV undef)) 35 (sV undef)) 36 (sV undef)) 37 (sV undef)) 38 (sV undef)) 39 (sV undef)) 40 (sB (false))) 41 (sB (false))) 42 (sB (false))) V0 hp))))))))))) (K (upd (upd (upd (upd (upd (upd (upd (upd (upd (upd (upd (upd (upd (upd (upd (upd (upd (upd (upd (upd (upd (upd (upd (upd (upd (upd (upd (upd (upd (upd (upd (upd (upd (upd (upd e 7 (sI (x7))) 2 (sI (x2))) 1 (sI (x1))) 0 (sV (Value.slice x0a x0n x0c))) 12 (sI (x7))) 13 (sV (Value.slice x0a x0n x0c))) 14 (sI ((x0n : Nat)))) 15 (sB ((decide ((x7 : Int) < (x0n : Nat)))))) 16 (sB (false))) 17 (sV undef)) 18 (sV undef)) 19 (sV undef)) 20 (sV undef)) 21 (sV undef)) 22 (sV undef)) 23 (sV undef)) 24 (sV undef)) 25 (sV undef)) 26 (sV undef)) 27 (sV undef)) 28 (sV undef)) 29 (sV undef)) 30 (sV undef)) 31 (sV undef)) 32 (sV undef)) 33 (sV undef)) 34 (sV undef)) 35 (sV undef)) 36 (sV undef)) 37 (sV undef)) 38 (sV undef)) 39 (sV undef)) 40 (sV undef)) 41 (sV undef)) 42 (sB (false))) V0 hp)) := by kernel_rfl
def F39_l3 (x0a : Option Addr) (x0n : Nat) (x0c : Nat) (x1 : Int) (x2 : Int) (K : Value → HP → Prop) (I3 : (Int) → HP → Prop) (x7 : Int) (hp : HP) : Prop :=
  (ite2 (decide ((x7 : Int) < (x0n : Nat))) ((0 ≤ (x7 : Int)) ∧ ((x7 : Int) < (x0n : Nat)) ∧ (ptrN x0a fun b_23 o_24 => (ldV (HP.cell hp b_23 ((o_24 + Int.toNat x7 * 2) + 1)) fun v_25 => (intV v_25 .i64 fun i_26 => (ite2 (decide ((i_26 : Int) < x2)) (F39_j4 x0a x0n x0c x1 x2 x7 true hp I3 K) ((0 ≤ (x7 : Int)) ∧ ((x7 : Int) < (x0n : Nat)) ∧ (ptrN x0a fun b_27 o_28 => (ldV (HP.cell hp b_27 ((o_28 + Int.toNat x7 * 2) + 1)) fun v_29 => (intV v_29 .i64 fun i_30 => (ite2 ((i_30 : Int) == x2) ((0 ≤ (x7 : Int)) ∧ ((x7 : Int) < (x0n : Nat)) ∧ (ptrN x0a fun b_31 o_32 => (ldV (HP.cell hp b_31 ((o_32 + Int.toNat x7 * 2) + 0)) fun v_33 => (intV v_33 .i64 fun i_34 => (F39_j4 x0a x0n x0c x1 x2 x7 (decide ((i_34 : Int) < x1)) hp I3 K))))) (F39_j4 x0a x0n x0c x1 x2 x7 false hp I3 K))))))))))) (F39_j4 x0a x0n x0c x1 x2 x7 false hp I3 K))
def F39_j1 (x0a : Option Addr) (x0n : Nat) (x0c : Nat) (x1 : Int) (x2 : Int) (x7 : Int) (hp : HP) (K : Value → HP → Prop) : Prop :=
  (LoopP (σ := Int) (fun I s hp => F39_l3 x0a x0n x0c x1 x2  K I s hp) x7 hp)
theorem F39_r7 (e : Env) (hp : HP) (K : Env → PV → HP → Prop) : RW Try.prog 61 [] (opsAt Try.f39 [1, 1, 0]) (List.range 1) e V0 hp K =
    (K (upd e 7 (sI (0))) V0 hp) := by kernel_rfl
def F39 (x0a : Option Addr) (x0n : Nat) (x0c : Nat) (x1 : Int) (x2 : Int) (hp : HP) (K : Value → HP → Prop) : Prop :=
  (CF Try.prog 40 [(Value.slice x0a x0n x0c), (Value.int .i64 x1)] hp fun u_1 h_2 => (slcV u_1 fun a_3 n_4 c_5 => (F39_j1 a_3 n_4 c_5 x1 x2 0 h_2  K)))
noncomputable def F39_code : Code := (.seq (.region 0 (opsAt Try.f39 [0]) false) (.seq (.region 1 (opsAt Try.f39 [1, 0]) false) (.seq (.region 2 (opsAt Try.f39 [1, 1, 0]) false) (.seq (.block 0 (.loop (.seq (.seq (.region 3 (opsAt Try.f39 [1, 1, 1, 0, 0, 0, 0, 0]) false) (.cond (.tmp 42) .skip (.exit 0))) (.block 1 (.region 4 (opsAt Try.f39 [1, 1, 1, 0, 0, 0, 1, 0]) false))))) (.seq (.region 5 (opsAt Try.f39 [1, 1, 1, 1, 0]) false) (.seq (.region 6 (opsAt Try.f39 [1, 1, 1, 1, 1, 0]) false) (.seq (.region 7 (opsAt Try.f39 [1, 1, 1, 1, 1, 1, 0]) false) .ret)))))))
theorem F39_body : Try.f39.body = some F39_code := by kernel_rfl
theorem F39_ok (x0a : Option Addr) (x0n : Nat) (x0c : Nat) (x1 : Int) (x2 : Int) (hp : HP) (K : Value → HP → Prop) (h : F39 x0a x0n x0c x1 x2 hp K) : CF Try.prog 39 [(Value.slice x0a x0n x0c), (Value.int .i64 x1), (Value.int .i64 x2)] hp K := by
 refine .inl ⟨by kernel_rfl, AC.intro (N := 61) Try.func39 F39_body rfl (Nat.le_of_ble_eq_true rfl) ?_⟩
 unfold F39 at h
 unfold F39_code
 refine AWP.seq' ?_
 refine AWP.rgn (F39_r0 (upd (upd (upd E0 2 (sI (x2))) 1 (sI (x1))) 0 (sV (Value.slice x0a x0n x0c)))  hp _) ?_ (Rv 0 _ (Rv 1 _ (Rv 2 _ (Rn)))) (Sc rfl (Sc rfl (Sc rfl (Sn)))) (Sn)
 refine AWP.seq' ?_
 refine AWP.rgn (F39_r1 (upd E0 2 (sI (x2))) x0a x0n x0c x1 hp _) ?_ (Rv 0 _ (Rv 1 _ (Rv 2 _ (Rn)))) (Sc rfl (Sc rfl (Sc rfl (Sn)))) (Sn)
 refine CF_mono h (fun u_1 h_2 h => ?_)
 refine slcV_mono h (fun a_3 n_4 c_5 h => ?_)
 refine AWP.seq (fun env pv hp => ∃ (x0a : Option Addr) (x0n : Nat) (x0c : Nat) (x1 : Int) (x2 : Int) (x7 : Int), Sub (upd (upd (upd (upd E0 7 (sI (x7))) 2 (sI (x2))) 1 (sI (x1))) 0 (sV (Value.slice x0a x0n x0c))) env ∧ Sub V0 pv ∧ (F39_j1 x0a x0n x0c x1 x2 x7 hp  K)) ?_ ?_
 ·refine AWP.rgn (F39_r7 (upd (upd (upd E0 2 (sI (x2))) 1 (sI (x1))) 0 (sV (Value.slice a_3 n_4 c_5)))  h_2 _) ?_ (Rv 0 _ (Rv 1 _ (Rv 2 _ (Rn)))) (Sc rfl (Sc rfl (Sc rfl (Sn)))) (Sn)
  exact ⟨a_3, n_4, c_5, x1, x2, 0, (Sc rfl (Sc rfl (Sc rfl (Sc rfl (Sn))))), (Sn), h⟩
 ·rintro env pv hp ⟨x0a, x0n, x0c, x1, x2, x7, he, hv, h⟩
  refine AWP.sub (env' := (upd (upd (upd (upd E0 7 (sI (x7))) 2 (sI (x2))) 1 (sI (x1))) 0 (sV (Value.slice x0a x0n x0c)))) (pv' := V0) ?_ (Rv 0 _ (Rv 1 _ (Rv 2 _ (Rv 7 _ (Rn))))) he hv (HSub.refl _)
  clear he hv
  unfold F39_j1 at h
  refine AWP.seq (fun env pv hp => ∃ (x0a : Option Addr) (x0n : Nat) (x0c : Nat) (x1 : Int) (x2 : Int) (x7 : Int), Sub (upd (upd (upd (upd E0 7 (sI (x7))) 2 (sI (x2))) 1 (sI (x1))) 0 (sV (Value.slice x0a x0n x0c))) env ∧ Sub V0 pv ∧ (F39_j2 x0a x0n x0c x1 x2 x7 hp  K)) ?_ ?_
  ·refine AWP.block ?_
   refine AWP.loop (σ := Int) (fun I s hp => F39_l3 x0a x0n x0c x1 x2  K I s hp) (fun s => (upd (upd (upd (upd E0 7 (sI (s))) 2 (sI (x2))) 1 (sI (x1))) 0 (sV (Value.slice x0a x0n x0c)))) (fun s => V0) x7 h (fun s => (Rv 0 _ (Rv 1 _ (Rv 2 _ (Rv 7 _ (Rn)))))) (Sc rfl (Sc rfl (Sc rfl (Sc rfl (Sn))))) (Sn) ?_
   intro I3 s hp h
   obtain ⟨x7, hs⟩ : ∃ x, x = s := ⟨s, rfl⟩
   subst hs
   replace h : F39_l3 x0a x0n x0c x1 x2  K I3 x7 hp := h
   unfold F39_l3 at h
   refine AWP.seq' ?_
   refine AWP.seq (fun env pv hp => ∃ (x7 : Int) (x42 : Bool), Sub (upd (upd (upd (upd (upd E0 42 (sB (x42))) 7 (sI (x7))) 2 (sI (x2))) 1 (sI (x1))) 0 (sV (Value.slice x0a x0n x0c))) env ∧ Sub V0 pv ∧ (F39_j4 x0a x0n x0c x1 x2 x7 x42 hp I3 K)) ?_ ?_
   ·refine AWP.rgn (F39_r6 E0 x0a x0n x0c x1 x2 x7 hp _) ?_ (Rv 0 _ (Rv 1 _ (Rv 2 _ (Rv 7 _ (Rn))))) (Sc rfl (Sc rfl (Sc rfl (Sc rfl (Sn))))) (Sn)
    refine ite2_mono h (fun h => ?_) (fun h => ?_)
    ·refine ⟨h.1, h.2.1, ?_⟩
     replace h := h.2.2
     refine ptrN_mono h (fun b_23 o_24 h => ?_)
     refine ldV_mono h (fun v_25 h => ?_)
     refine intV_mono h (fun i_26 h => ?_)
     refine ite2_mono h (fun h => ?_) (fun h => ?_)
     ·exact ⟨x7, true, (Sc rfl (Sc rfl (Sc rfl (Sc rfl (Sc rfl (Sn)))))), (Sn), h⟩
     ·refine ⟨h.1, h.2.1, ?_⟩
      replace h := h.2.2
      refine ptrN_mono h (fun b_27 o_28 h => ?_)
      refine ldV_mono h (fun v_29 h => ?_)
      refine intV_mono h (fun i_30 h => ?_)
      refine ite2_mono h (fun h => ?_) (fun h => ?_)
      ·refine ⟨h.1, h.2.1, ?_⟩
       replace h := h.2.2
       refine ptrN_mono h (fun b_31 o_32 h => ?_)
       refine ldV_mono h (fun v_33 h => ?_)
       refine intV_mono h (fun i_34 h => ?_)
       exact ⟨x7, (decide ((i_34 : Int) < x1)), (Sc rfl (Sc rfl (Sc rfl (Sc rfl (Sc rfl (Sn)))))), (Sn), h⟩
      ·exact ⟨x7, false, (Sc rfl (Sc rfl (Sc rfl (Sc rfl (Sc rfl (Sn)))))), (Sn), h⟩
    ·exact ⟨x7, false, (Sc rfl (Sc rfl (Sc rfl (Sc rfl (Sc rfl (Sn)))))), (Sn), h⟩
   ·rintro env pv hp ⟨x7, x42, he, hv, h⟩
    refine AWP.sub (env' := (upd (upd (upd (upd (upd E0 42 (sB (x42))) 7 (sI (x7))) 2 (sI (x2))) 1 (sI (x1))) 0 (sV (Value.slice x0a x0n x0c)))) (pv' := V0) ?_ (Rv 0 _ (Rv 1 _ (Rv 2 _ (Rv 7 _ (Rv 42 _ (Rn)))))) he hv (HSub.refl _)
    clear he hv
    unfold F39_j4 at h
    refine AWP.cond (t := x42) rfl (fun e => ?_) (fun e => ?_)
    ·replace h := ite2_t h e
     refine AWP.skip ?_
     refine AWP.block ?_
     refine AWP.rgn (F39_r5 (upd (upd (upd E0 2 (sI (x2))) 1 (sI (x1))) 0 (sV (Value.slice x0a x0n x0c))) x7 hp _) ?_ (Rv 7 _ (Rv 0 _ (Rv 1 _ (Rv 2 _ (Rn))))) (Sc rfl (Sc rfl (Sc rfl (Sc rfl (Sn))))) (Sn)
     exact ⟨(IntKind.wrap .i64 (x7 + 1)), (Sc rfl (Sc rfl (Sc rfl (Sc rfl (Sn))))), (Sn), h⟩
    ·replace h := ite2_f h e
     refine AWP.exit ?_
     exact ⟨x0a, x0n, x0c, x1, x2, x7, (Sc rfl (Sc rfl (Sc rfl (Sc rfl (Sn))))), (Sn), h⟩
  ·rintro env pv hp ⟨x0a, x0n, x0c, x1, x2, x7, he, hv, h⟩
   refine AWP.sub (env' := (upd (upd (upd (upd E0 7 (sI (x7))) 2 (sI (x2))) 1 (sI (x1))) 0 (sV (Value.slice x0a x0n x0c)))) (pv' := V0) ?_ (Rv 0 _ (Rv 1 _ (Rv 2 _ (Rv 7 _ (Rn))))) he hv (HSub.refl _)
   clear he hv
   unfold F39_j2 at h
   refine AWP.seq' ?_
   refine AWP.rgn (F39_r2 (upd (upd E0 2 (sI (x2))) 1 (sI (x1))) x0a x0n x0c x7 hp _) ?_ (Rv 0 _ (Rv 7 _ (Rv 1 _ (Rv 2 _ (Rn))))) (Sc rfl (Sc rfl (Sc rfl (Sc rfl (Sn))))) (Sn)
   refine fun b_6 hb_b_6 => ?_
   replace h := h b_6 hb_b_6
   refine ⟨h.1, h.2.1, ?_⟩
   replace h := h.2.2
   refine opS_mono h (fun u_7 h_8 h => ?_)
   refine slcV_mono h (fun a_9 n_10 c_11 h => ?_)
   refine AWP.seq' ?_
   refine AWP.rgn (F39_r3 (upd (upd E0 7 (sI (x7))) 0 (sV (Value.slice x0a x0n x0c))) x1 x2 a_9 n_10 c_11 h_8 _) ?_ (Rv 1 _ (Rv 2 _ (Rv 8 _ (Rv 0 _ (Rv 7 _ (Rn)))))) (Sc rfl (Sc rfl (Sc rfl (Sc rfl (Sc rfl (Sn)))))) (Sn)
   refine if_mono h (fun h => ?_)
   refine fun b_12 hb_b_12 => ?_
   replace h := h b_12 hb_b_12
   refine opS_mono h (fun u_13 h_14 h => ?_)
   refine slcV_mono h (fun a_15 n_16 c_17 h => ?_)
   refine AWP.seq' ?_
   refine AWP.rgn (F39_r4 E0 x0a x0n x0c x7 a_15 n_16 c_17 h_14 _) ?_ (Rv 0 _ (Rv 7 _ (Rv 8 _ (Rn)))) (Sc rfl (Sc rfl (Sc rfl (Sn)))) (Sn)
   refine ⟨h.1, h.2.1, h.2.2.1, ?_⟩
   replace h := h.2.2.2
   refine opS_mono h (fun u_18 h_19 h => ?_)
   refine slcV_mono h (fun a_20 n_21 c_22 h => ?_)
   refine AWP.ret ?_
   exact h
-- 40 interpreter/interpreterref20.Drop
theorem F40_r0 (e : Env) (hp : HP) (K : Env → PV → HP → Prop) : RW Try.prog 28 [] (opsAt Try.f40 [0]) (List.range 1) e V0 hp K =
    (K (upd e 4 (sV (Value.slice none 0 0))) V0 hp) := by kernel_rfl
theorem F40_r1 (e : Env) (hp : HP) (K : Env → PV → HP → Prop) : RW Try.prog 28 [] (opsAt Try.f40 [1, 0]) (List.range 1) e V0 hp K =
    (K (upd e 5 (sV (Value.slice none 0 0))) V0 hp) := by kernel_rfl
theorem F40_r2 (e : Env) (x5a : Option Addr) (x5n : Nat) (x5c : Nat) (hp : HP) (K : Env → PV → HP → Prop) : RW Try.prog 28 [] (opsAt Try.f40 [1, 1, 1, 0]) (List.range 2) (upd e 5 (sV (Value.slice x5a x5n x5c))) V0 hp K =
    (K (upd (upd (upd e 5 (sV (Value.slice x5a x5n x5c))) 27 (sV (Value.slice x5a x5n x5c))) 4 (sV (Value.slice x5a x5n x5c))) V0 hp) := by kernel_rfl
def F40_j1 (x5a : Option Addr) (x5n : Nat) (x5c : Nat) (hp : HP) (K : Value → HP → Prop) : Prop :=
  (K (Value.slice x5a x5n x5c) hp)
theorem F40_r3 (e : Env) (x0a : Option Addr) (x0n : Nat) (x0c : Nat) (x6 : Int) (hp : HP) (K : Env → PV → HP → Prop) : RW Try.prog 28 [] (opsAt Try.f40 [1, 1, 0, 1, 0, 0, 0, 0]) (List.range 4) (upd (upd e 6 (sI (x6))) 0 (sV (Value.slice x0a x0n x0c))) V0 hp K =
    (K (upd (upd (upd (upd (upd (upd e 6 (sI (x6))) 0 (sV (Value.slice x0a x0n x0c))) 7 (sI (x6))) 8 (sV (Value.slice x0a x0n x0c))) 9 (sI ((x0n : Nat)))) 10 (sB ((decide ((x6 : Int) < (x0n : Nat)))))) V0 hp) := by kernel_rfl
theorem F40_r4 (e : Env) (x6 : Int) (hp : HP) (K : Env → PV → HP → Prop) : RW Try.prog 28 [] (opsAt Try.f40 [1, 1, 0, 1, 0, 0, 1, 1]) (List.range 3) (upd e 6 (sI (x6))) V0 hp K =
    (K (upd (upd (upd (upd e 6 (sI (x6))) 11 (sI (x6))) 12 (sI ((IntKind.wrap .i64 (x6 + 1))))) 6 (sI ((IntKind.wrap .i64 (x6 + 1))))) V0 hp) := by kernel_rfl
def F40_j4 (x0a : Option Addr) (x0n : Nat) (x0c : Nat) (x1 : Int) (x5a : Option Addr) (x5n : Nat) (x5c : Nat) (x6 : Int) (hp : HP) (I3 : ((Option Addr) × Nat × Nat × Int) → HP → Prop) (K : Value → HP → Prop) : Prop :=
  (I3 (x5a, x5n, x5c, (IntKind.wrap .i64 (x6 + 1))) hp)
theorem F40_r5 (e : Env) (x0a : Option Addr) (x0n : Nat) (x0c : Nat) (x1 : Int) (x6 : Int) (hp : HP) (K : Env → PV → HP → Prop) : RW Try.prog 28 [] (opsAt Try.f40 [1, 1, 0, 1, 0, 0, 1, 0, 0, 0]) (List.range 7) (upd (upd (upd e 6 (sI (x6))) 1 (sI (x1))) 0 (sV (Value.slice x0a x0n x0c))) V0 hp K =
    ((0 ≤ (x6 : Int)) ∧ ((x6 : Int) < (x0n : Nat)) ∧ (ptrN x0a fun b1 o2 => (ldV (HP.cell hp b1 ((o2 + Int.toNat x6 * 2) + 0)) fun v3 => (intV v3 .i64 fun i4 => (K (upd (upd (upd (upd (upd (upd (upd (upd (upd (upd e 6 (sI (x6))) 1 (sI (x1))) 0 (sV (Value.slice x0a x0n x0c))) 13 (sV (Value.slice x0a x0n x0c))) 14 (sI (x6))) 15 (sV (ptr b1 (o2 + Int.toNat x6 * 2)))) 16 (sV (ptr b1 ((o2 + Int.toNat x6 * 2) + 0)))) 17 (sI (i4))) 18 (sI (x1))) 19 (sB (((i4 : Int) != x1)))) V0 hp))))) := by kernel_rfl
theorem F40_r6 (e : Env) (x0a : Option Addr) (x0n : Nat) (x0c : Nat) (x5a : Option Addr) (x5n : Nat) (x5c : Nat) (x6 : Int) (hp : HP) (K : Env → PV → HP → Prop) : RW Try.prog 28 [] (opsAt Try.f40 [1, 1, 0, 1, 0, 0, 1, 0, 0, 1, 0]) (List.range 8) (upd (upd (upd e 6 (sI (x6))) 5 (sV (Value.slice x5a x5n x5c))) 0 (sV (Value.slice x0a x0n x0c))) V0 hp K =
    ((0 ≤ (x6 : Int)) ∧ ((x6 : Int) < (x0n : Nat)) ∧ (ptrN x0a fun b1 o2 => (ldL (HP.cellN hp b1 (o2 + Int.toNat x6 * 2) 2) fun l3 => (if List.length l3 = 2 then (∀ b4 : Nat, hp b4 = .none → (opS Try.prog (Builtin.append_ #[56, 56] 56 ⟨[(Value.slice x5a x5n x5c), (Value.slice (some ⟨b4, 0, none⟩) 1 1)]⟩) (HP.set hp b4 (.cells 60 (splice [(Value.int .i64 0), (Value.int .i64 0)] 0 l3) 0)) fun u5 h6 => (slcV u5 fun a7 n8 c9 => (K (upd (upd (upd (upd (upd (upd (upd (upd (upd (upd (upd e 6 (sI (x6))) 5 (sV (Value.slice x5a x5n x5c))) 0 (sV (Value.slice x0a x0n x0c))) 20 (sV (Value.slice x5a x5n x5c))) 21 (sV (Value.slice x0a x0n x0c))) 22 (sI (x6))) 23 (sV (ptr b1 (o2 + Int.toNat x6 * 2)))) 24 (sV (Value.agg ⟨l3⟩))) 25 (sV (Value.slice (some ⟨b4, 0, none⟩) 1 1))) 26 (sV (Value.slice a7 n8 c9))) 5 (sV (Value.slice a7 n8 c9))) V0 h6)))) else False)))) := by kernel_rfl
def F40_l3 (x0a : Option Addr) (x0n : Nat) (x0c : Nat) (x1 : Int) (K : Value → HP → Prop) (I3 : ((Option Addr) × Nat × Nat × Int) → HP → Prop) (x5a : Option Addr) (x5n : Nat) (x5c : Nat) (x6 : Int) (hp : HP) : Prop :=
  (ite2 (decide ((x6 : Int) < (x0n : Nat))) ((0 ≤ (x6 : Int)) ∧ ((x6 : Int) < (x0n : Nat)) ∧ (ptrN x0a fun b_1 o_2 => (ldV (HP.cell hp b_1 ((o_2 + Int.toNat x6 * 2) + 0)) fun v_3 => (intV v_3 .i64 fun i_4 => (ite2 ((i_4 : Int) != x1) ((0 ≤ (x6 : Int)) ∧ ((x6 : Int) < (x0n : Nat)) ∧ (ptrN x0a fun b_5 o_6 => (ldL (HP.cellN hp b_5 (o_6 + Int.toNat x6 * 2) 2) fun l_7 => (if List.length l_7 = 2 then (∀ b_8 : Nat, hp b_8 = .none → (opS Try.prog (Builtin.append_ #[56, 56] 56 ⟨[(Value.slice x5a x5n x5c), (Value.slice (some ⟨b_8, 0, none⟩) 1 1)]⟩) (HP.set hp b_8 (.cells 60 (splice [(Value.int .i64 0), (Value.int .i64 0)] 0 l_7) 0)) fun u_9 h_10 => (slcV u_9 fun a_11 n_12 c_13 => (F40_j4 x0a x0n x0c x1 a_11 n_12 c_13 x6 h_10 I3 K)))) else False)))) (F40_j4 x0a x0n x0c x1 x5a x5n x5c x6 hp I3 K)))))) (F40_j1 x5a x5n x5c hp  K))
def F40_j2 (x0a : Option Addr) (x0n : Nat) (x0c : Nat) (x1 : Int) (x5a : Option Addr) (x5n : Nat) (x5c : Nat) (x6 : Int) (hp : HP) (K : Value → HP → Prop) : Prop :=
  (LoopP (σ := (Option Addr) × Nat × Nat × Int) (fun I s hp => F40_l3 x0a x0n x0c x1  K I s.1 s.2.1 s.2.2.1 s.2.2.2 hp) (x5a, x5n, x5c, x6) hp)
theorem F40_r7 (e : Env) (hp : HP) (K : Env → PV → HP → Prop) : RW Try.prog 28 [] (opsAt Try.f40 [1, 1, 0, 0]) (List.range 1) e V0 hp K =
    (K (upd e 6 (sI (0))) V0 hp) := by kernel_rfl
def F40 (x0a : Option Addr) (x0n : Nat) (x0c : Nat) (x1 : Int) (hp : HP) (K : Value → HP → Prop) : Prop :=
  (F40_j2 x0a x0n x0c x1 none 0 0 0 hp  K)
noncomputable def F40_code : Code := (.seq (.region 0 (opsAt Try.f40 [0]) false) (.seq (.region 1 (opsAt Try.f40 [1, 0]) false) (.seq (.seq (.region 2 (opsAt Try.f40 [1, 1, 0, 0]) false) (.block 0 (.loop (.seq (.seq (.region 3 (opsAt Try.f40 [1, 1, 0, 1, 0, 0, 0, 0]) false) (.cond (.tmp 10) .skip (.exit 0))) (.seq (.block 1 (.seq (.region 5 (opsAt Try.f40 [1, 1, 0, 1, 0, 0, 1, 0, 0, 0]) false) (.cond (.tmp 19) (.region 6 (opsAt Try.f40 [1, 1, 0, 1, 0, 0, 1, 0, 0, 1, 0]) false) .skip))) (.region 4 (opsAt Try.f40 [1, 1, 0, 1, 0, 0, 1, 1]) false)))))) (.seq (.region 7 (opsAt Try.f40 [1, 1, 1, 0]) false) .ret))))
theorem F40_body : Try.f40.body = some F40_code := by kernel_rfl
theorem F40_ok (x0a : Option Addr) (x0n : Nat) (x0c : Nat) (x1 : Int) (hp : HP) (K : Value → HP → Prop) (h : F40 x0a x0n x0c x1 hp K) : CF Try.prog 40 [(Value.slice x0a x0n x0c), (Value.int .i64 x1)] hp K := by
 refine .inl ⟨by kernel_rfl, AC.intro (N := 28) Try.func40 F40_body rfl (Nat.le_of_ble_eq_true rfl) ?_⟩
 unfold F40 at h
 unfold F40_code
 refine AWP.seq' ?_
 refine AWP.rgn (F40_r0 (upd (upd E0 1 (sI (x1))) 0 (sV (Value.slice x0a x0n x0c)))  hp _) ?_ (Rv 0 _ (Rv 1 _ (Rn))) (Sc rfl (Sc rfl (Sn))) (Sn)
 refine AWP.seq' ?_
 refine AWP.rgn (F40_r1 (upd (upd E0 1 (sI (x1))) 0 (sV (Value.slice x0a x0n x0c)))  hp _) ?_ (Rv 0 _ (Rv 1 _ (Rn))) (Sc rfl (Sc rfl (Sn))) (Sn)
 refine AWP.seq (fun env pv hp => ∃ (x5a : Option Addr) (x5n : Nat) (x5c : Nat), Sub (upd E0 5 (sV (Value.slice x5a x5n x5c))) env ∧ Sub V0 pv ∧ (F40_j1 x5a x5n x5c hp  K)) ?_ ?_
 ·refine AWP.seq (fun env pv hp => ∃ (x0a : Option Addr) (x0n : Nat) (x0c : Nat) (x1 : Int) (x5a : Option Addr) (x5n : Nat) (x5c : Nat) (x6 : Int), Sub (upd (upd (upd (upd E0 6 (sI (x6))) 5 (sV (Value.slice x5a x5n x5c))) 1 (sI (x1))) 0 (sV (Value.slice x0a x0n x0c))) env ∧ Sub V0 pv ∧ (F40_j2 x0a x0n x0c x1 x5a x5n x5c x6 hp  K)) ?_ ?_
  ·refine AWP.rgn (F40_r7 (upd (upd (upd E0 5 (sV (Value.slice none 0 0))) 1 (sI (x1))) 0 (sV (Value.slice x0a x0n x0c)))  hp _) ?_ (Rv 0 _ (Rv 1 _ (Rv 5 _ (Rn)))) (Sc rfl (Sc rfl (Sc rfl (Sn)))) (Sn)
   exact ⟨x0a, x0n, x0c, x1, none, 0, 0, 0, (Sc rfl (Sc rfl (Sc rfl (Sc rfl (Sn))))), (Sn), h⟩
  ·rintro env pv hp ⟨x0a, x0n, x0c, x1, x5a, x5n, x5c, x6, he, hv, h⟩
   refine AWP.sub (env' := (upd (upd (upd (upd E0 6 (sI (x6))) 5 (sV (Value.slice x5a x5n x5c))) 1 (sI (x1))) 0 (sV (Value.slice x0a x0n x0c)))) (pv' := V0) ?_ (Rv 0 _ (Rv 1 _ (Rv 5 _ (Rv 6 _ (Rn))))) he hv (HSub.refl _)
   clear he hv
   unfold F40_j2 at h
   refine AWP.block ?_
   refine AWP.loop (σ := (Option Addr) × Nat × Nat × Int) (fun I s hp => F40_l3 x0a x0n x0c x1  K I s.1 s.2.1 s.2.2.1 s.2.2.2 hp) (fun s => (upd (upd (upd (upd E0 6 (sI (s.2.2.2))) 5 (sV (Value.slice s.1 s.2.1 s.2.2.1))) 1 (sI (x1))) 0 (sV (Value.slice x0a x0n x0c)))) (fun s => V0) (x5a, x5n, x5c, x6) h (fun s => (Rv 0 _ (Rv 1 _ (Rv 5 _ (Rv 6 _ (Rn)))))) (Sc rfl (Sc rfl (Sc rfl (Sc rfl (Sn))))) (Sn) ?_
   intro I3 s hp h
   obtain ⟨x5a, x5n, x5c, x6⟩ := s
   replace h : F40_l3 x0a x0n x0c x1  K I3 x5a x5n x5c x6 hp := h
   unfold F40_l3 at h
   refine AWP.seq' ?_
   refine AWP.seq' ?_
   refine AWP.rgn (F40_r3 (upd (upd E0 5 (sV (Value.slice x5a x5n x5c))) 1 (sI (x1))) x0a x0n x0c x6 hp _) ?_ (Rv 0 _ (Rv 6 _ (Rv 1 _ (Rv 5 _ (Rn))))) (Sc rfl (Sc rfl (Sc rfl (Sc rfl (Sn))))) (Sn)
   refine AWP.cond (t := (decide ((x6 : Int) < (x0n : Nat)))) rfl (fun e => ?_) (fun e => ?_)
   ·replace h := ite2_t h e
    refine AWP.skip ?_
    refine AWP.seq (fun env pv hp => ∃ (x5a : Option Addr) (x5n : Nat) (x5c : Nat) (x6 : Int), Sub (upd (upd (upd (upd E0 6 (sI (x6))) 5 (sV (Value.slice x5a x5n x5c))) 1 (sI (x1))) 0 (sV (Value.slice x0a x0n x0c))) env ∧ Sub V0 pv ∧ (F40_j4 x0a x0n x0c x1 x5a x5n x5c x6 hp I3 K)) ?_ ?_
    ·refine AWP.block ?_
     refine AWP.seq' ?_
     refine AWP.rgn (F40_r5 (upd E0 5 (sV (Value.slice x5a x5n x5c))) x0a x0n x0c x1 x6 hp _) ?_ (Rv 0 _ (Rv 1 _ (Rv 6 _ (Rv 5 _ (Rn))))) (Sc rfl (Sc rfl (Sc rfl (Sc rfl (Sn))))) (Sn)
     refine ⟨h.1, h.2.1, ?_⟩
     replace h := h.2.2
     refine ptrN_mono h (fun b_1 o_2 h => ?_)
     refine ldV_mono h (fun v_3 h => ?_)
     refine intV_mono h (fun i_4 h => ?_)
     refine AWP.cond (t := ((i_4 : Int) != x1)) rfl (fun e => ?_) (fun e => ?_)
     ·replace h := ite2_t h e
      refine AWP.rgn (F40_r6 (upd E0 1 (sI (x1))) x0a x0n x0c x5a x5n x5c x6 hp _) ?_ (Rv 0 _ (Rv 5 _ (Rv 6 _ (Rv 1 _ (Rn))))) (Sc rfl (Sc rfl (Sc rfl (Sc rfl (Sn))))) (Sn)
      refine ⟨h.1, h.2.1, ?_⟩
      replace h := h.2.2
      refine ptrN_mono h (fun b_5 o_6 h => ?_)
      refine ldL_mono h (fun l_7 h => ?_)
      refine if_mono h (fun h => ?_)
      refine fun b_8 hb_b_8 => ?_
      replace h := h b_8 hb_b_8
      refine opS_mono h (fun u_9 h_10 h => ?_)
      refine slcV_mono h (fun a_11 n_12 c_13 h => ?_)
      exact ⟨a_11, n_12, c_13, x6, (Sc rfl (Sc rfl (Sc rfl (Sc rfl (Sn))))), (Sn), h⟩
     ·replace h := ite2_f h e
      refine AWP.skip ?_
      exact ⟨x5a, x5n, x5c, x6, (Sc rfl (Sc rfl (Sc rfl (Sc rfl (Sn))))), (Sn), h⟩
    ·rintro env pv hp ⟨x5a, x5n, x5c, x6, he, hv, h⟩
     refine AWP.sub (env' := (upd (upd (upd (upd E0 6 (sI (x6))) 5 (sV (Value.slice x5a x5n x5c))) 1 (sI (x1))) 0 (sV (Value.slice x0a x0n x0c)))) (pv' := V0) ?_ (Rv 0 _ (Rv 1 _ (Rv 5 _ (Rv 6 _ (Rn))))) he hv (HSub.refl _)
     clear he hv
     unfold F40_j4 at h
     refine AWP.rgn (F40_r4 (upd (upd (upd E0 5 (sV (Value.slice x5a x5n x5c))) 1 (sI (x1))) 0 (sV (Value.slice x0a x0n x0c))) x6 hp _) ?_ (Rv 6 _ (Rv 0 _ (Rv 1 _ (Rv 5 _ (Rn))))) (Sc rfl (Sc rfl (Sc rfl (Sc rfl (Sn))))) (Sn)
     exact ⟨(x5a, x5n, x5c, (IntKind.wrap .i64 (x6 + 1))), (Sc rfl (Sc rfl (Sc rfl (Sc rfl (Sn))))), (Sn), h⟩
   ·replace h := ite2_f h e
    refine AWP.exit ?_
    exact ⟨x5a, x5n, x5c, (Sc rfl (Sn)), (Sn), h⟩
 ·rintro env pv hp ⟨x5a, x5n, x5c, he, hv, h⟩
  refine AWP.sub (env' := (upd E0 5 (sV (Value.slice x5a x5n x5c)))) (pv' := V0) ?_ (Rv 5 _ (Rn)) he hv (HSub.refl _)
  clear he hv
  unfold F40_j1 at h
  refine AWP.seq' ?_
  refine AWP.rgn (F40_r2 E0 x5a x5n x5c hp _) ?_ (Rv 5 _ (Rn)) (Sc rfl (Sn)) (Sn)
  refine AWP.ret ?_
  exact h
end Go.Proofs

set_option linter.unusedVariables false
set_option maxRecDepth 20000
namespace Go.HL
open Go
/-- An append, and what it leaves as it was. -/
theorem opS_app_fr {P : Program} {hp : HP} {t e ty size bytes : Nat} (hok : elemOk P t e size bytes = true) {s : Option Addr} {n c : Nat} {xs : List Value} (hs : Row hp s n c e size xs) {a : Option Addr} {m c' : Nat} {ys : List Value}
    (ha : Shows hp a m size ys) (h1 : ys.all one = true) (hb : (n + m) * bytes ≤ 140737488355328) (h63 : n + m ≤ 9223372036854775807) {K : Value → HP → Prop}
    (h : ∀ s2 c2 hp', Row hp' s2 (n + m) c2 e size (xs ++ ys) → (∀ h0 : HP, HSub h0 hp → (∀ b', s = some ⟨b', 0, none⟩ → h0 b' = .none) → HSub h0 hp' ∧ ∀ b', s2 = some ⟨b', 0, none⟩ → h0 b' = .none) → K (.slice s2 (n + m) c2) hp') :
    opS P (Builtin.append_ #[t, t] ty ⟨[.slice s n c, .slice a m c']⟩) hp K := by
  refine opS_app hok hs ha h1 hb h63 ?_
  intro s2 c2 hp' hrow' hup
  refine h s2 c2 hp' hrow' fun h0 hs0 hfr => ?_
  rcases hup with ⟨rfl, rfl⟩ | ⟨b', e', rfl, hb', rfl⟩
  · exact ⟨hs0, hfr⟩
  · have hn0 : h0 b' = .none := by
      rcases hb' with hb' | hb'
      · exact hs0.none hb'
      · exact hfr b' hb'
    exact ⟨hs0.up hn0 e', fun b'' e => by cases e; exact hn0⟩

theorem Shows.sub0 {α : Type} {enc : α → List Value} {size : Nat} {hp : HP} {s : Option Addr} {n c i : Nat} {l : List α} (h : Shows hp s n size (l.flatMap enc)) (he : ∀ x, (enc x).length = size) (hl : l.length = n) (hc : n ≤ c) (hi : i ≤ n) :
    Shows hp (sub0 s c i size) (n - i) size ((l.drop i).flatMap enc) := by
  unfold HL.sub0
  by_cases hin : i = n
  · left
    have : l.drop i = [] := List.drop_of_length_le (by omega)
    exact ⟨by omega, by rw [this]; rfl⟩
  rw [if_neg (by omega)]
  rcases h with ⟨h1, h2⟩ | ⟨b, o, h1, h2⟩
  · omega
  · right
    refine ⟨b, o + i * size, by rw [h1, Option.map_some, add_eq], ?_⟩
    have hle : i * size + (n - i) * size = n * size := by rw [← Nat.add_mul]; congr 1; omega
    rw [cellN_cellN h2 (by omega), cellsN_of (by rw [flat_len he, hl]; omega), flat_drop he]
    have : ((l.drop i).flatMap enc).length = (n - i) * size := by rw [flat_len he, List.length_drop, hl]
    rw [List.take_of_length_le (by omega)]
end Go.HL
namespace Go.Proofs
open Go Go.HL
open Go.Exp (Th tlt swo_tlt Ord setW dropW insW)

section
variable {hp : HP} {s : Option Addr} {n c : Nat} {w : List Th} {K : Value → HP → Prop}

theorem th_at {hp : HP} {b o : Nat} {t : Th} (h : hp.cellN b o 2 = some (th t)) : hp.cell b (o + 0) = some (.int .i64 t.1) ∧ hp.cell b (o + 1) = some (.int .i64 t.2) := ⟨HP.cell_cellN h rfl, HP.cell_cellN h rfl⟩

theorem C41 (hs : Shows hp s n 2 (w.flatMap th)) (hl : w.length = n) (hn : n ≤ 500000)
    (hK : ∀ (hp' : HP) (s' : Option Addr) (c' : Nat), HSub hp hp' → Row hp' s' n c' 3 1 (w.flatMap idv) → (∀ b, s' = some ⟨b, 0, none⟩ → hp b = .none) → K (.slice s' n c') hp') : CF Try.prog 41 [.slice s n c] hp K := by
  refine F41_ok s n c hp K ?_
  unfold F41 F41_j2
  refine LoopP.by (J := fun k (st : Option Addr × Nat × Nat × Int) hp' => ∃ i : Nat, st.2.2.2 = i ∧ i + k = n ∧ HSub hp hp' ∧ Row hp' st.1 st.2.1 st.2.2.1 3 1 ((w.take i).flatMap idv) ∧ st.2.1 = i ∧ ∀ b, st.1 = some ⟨b, 0, none⟩ → hp b = .none) ?_
    (n := n) ⟨0, rfl, by omega, HSub.refl _, .inl ⟨rfl, rfl, rfl, by simp⟩, rfl, (fun b e => by cases e)⟩
  rintro I k ⟨s5, i, c5, x5⟩ hp5 ⟨i', hx, hik, hs5, hrow5, hn5, hfr5⟩ hI
  simp only at hx hrow5 hn5 hfr5
  subst hx hn5
  unfold F41_l3
  simp only []
  by_cases hi : i < n
  · rw [decide_eq_true (by omega : (i : Int) < (n : Int)), ite2_true]
    obtain ⟨b, o, rfl, hc⟩ := (hs.sub hs5).get th_len hl hi
    obtain ⟨g0, g1⟩ := th_at hc
    simp only [ptrN_some, Int.toNat_natCast, g0, ldV_some, intV_int]
    refine ⟨by omega, by omega, ?_⟩
    intro b5 hb5
    refine app_one hrow5 (by omega) hb5 ?_
    intro s6 c6 hp6 hrow6 hf6
    obtain ⟨k1, k2⟩ := hf6 hp hs5 hfr5
    have w1 : IntKind.wrap .i64 ((i : Int) + 1) = ((i + 1 : Nat) : Int) := wi (by omega) (by omega)
    rw [slcV_slice, w1]
    refine hI (k - 1) _ _ (by omega) ⟨i + 1, rfl, by omega, k1, ?_, rfl, k2⟩
    have e : (w.take (i + 1)).flatMap idv = (w.take i).flatMap idv ++ [.int .i64 (w[i]'(hl ▸ hi)).1] := by
      rw [List.take_succ_eq_append_getElem (hl ▸ hi), List.flatMap_append]; simp [idv]
    rw [e]; exact hrow6
  · rw [decide_eq_false (by omega : ¬ (i : Int) < (n : Int)), ite2_false]
    unfold F41_j1
    have hin : i = n := by omega
    subst hin
    rw [← hl, List.take_length, hl] at hrow5
    exact hK hp5 s5 c5 hs5 hrow5 hfr5

theorem C37 {id : Int} (hs : Shows hp s n 2 (w.flatMap th)) (hl : w.length = n) (hn : n ≤ 500000)
    (hK : ∀ v : Int, (v = -1 ∧ getL id w = none) ∨ (∃ (j : Nat) (hj : j < w.length), v = j ∧ getL id w = some w[j].2) → K (.int .i64 v) hp) : CF Try.prog 37 [.slice s n c, .int .i64 id] hp K := by
  refine F37_ok s n c id hp K ?_
  unfold F37 F37_j1
  refine LoopP.by (J := fun k (x : Int) hp' => hp' = hp ∧ ∃ i : Nat, x = i ∧ i + k = n ∧ getL id w = getL id (w.drop i)) ?_ (n := n) ⟨rfl, 0, rfl, by omega, by simp⟩
  rintro I k x hp' ⟨rfl, i, rfl, hik, hg⟩ hI
  unfold F37_l2
  by_cases hi : i < n
  · rw [decide_eq_true (by omega : (i : Int) < (n : Int)), ite2_true]
    obtain ⟨b, o, rfl, hc⟩ := hs.get th_len hl hi
    obtain ⟨g0, g1⟩ := th_at hc
    simp only [ptrN_some, Int.toNat_natCast, g0, ldV_some, intV_int]
    refine ⟨by omega, by omega, ?_⟩
    have hiw : i < w.length := by omega
    rw [List.drop_eq_getElem_cons hiw] at hg
    by_cases he : (w[i]'hiw).1 = id
    · have e : ((w[i]'hiw).1 == id) = true := by simpa using he
      rw [e, ite2_true]
      refine hK _ (.inr ⟨i, hiw, rfl, ?_⟩)
      rw [hg, getL, if_pos he.symm]
    · have e : ((w[i]'hiw).1 == id) = false := by simpa using he
      have w1 : IntKind.wrap .i64 ((i : Int) + 1) = ((i + 1 : Nat) : Int) := wi (by omega) (by omega)
      rw [e, ite2_false, w1]
      refine hI (k - 1) _ _ (by omega) ⟨rfl, i + 1, rfl, by omega, ?_⟩
      rw [hg, getL, if_neg (fun e' => he e'.symm)]
  · rw [decide_eq_false (by omega : ¬ (i : Int) < (n : Int)), ite2_false]
    refine hK _ (.inl ⟨rfl, ?_⟩)
    rw [hg, List.drop_of_length_le (by omega)]; rfl

theorem C40 {id : Int} (hs : Shows hp s n 2 (w.flatMap th)) (hl : w.length = n) (hn : n ≤ 500000)
    (hK : ∀ (hp' : HP) (s' : Option Addr) (c' : Nat), HSub hp hp' → Row hp' s' (dropW id w).length c' 60 2 ((dropW id w).flatMap th) → (∀ b, s' = some ⟨b, 0, none⟩ → hp b = .none) → K (.slice s' (dropW id w).length c') hp') : CF Try.prog 40 [.slice s n c, .int .i64 id] hp K := by
  refine F40_ok s n c id hp K ?_
  unfold F40 F40_j2
  refine LoopP.by (J := fun k (st : Option Addr × Nat × Nat × Int) hp' => ∃ i : Nat, st.2.2.2 = i ∧ i + k = n ∧ HSub hp hp' ∧ Row hp' st.1 st.2.1 st.2.2.1 60 2 ((dropW id (w.take i)).flatMap th) ∧ st.2.1 = (dropW id (w.take i)).length ∧ ∀ b, st.1 = some ⟨b, 0, none⟩ → hp b = .none) ?_
    (n := n) ⟨0, rfl, by omega, HSub.refl _, .inl ⟨rfl, rfl, rfl, by simp [dropW]⟩, by simp [dropW], (fun b e => by cases e)⟩
  rintro I k ⟨s5, n5, c5, x5⟩ hp5 ⟨i, hx, hik, hs5, hrow5, hn5, hfr5⟩ hI
  simp only at hx hrow5 hn5 hfr5
  subst hx hn5
  unfold F40_l3
  simp only []
  have w1 : i < n → IntKind.wrap .i64 ((i : Int) + 1) = ((i + 1 : Nat) : Int) := fun _ => wi (by omega) (by omega)
  have hlen : (dropW id (w.take i)).length ≤ i := by
    have h1 : (dropW id (w.take i)).length ≤ (w.take i).length := List.length_filter_le _ _
    rw [List.length_take] at h1; omega
  by_cases hi : i < n
  · rw [decide_eq_true (by omega : (i : Int) < (n : Int)), ite2_true]
    obtain ⟨b, o, rfl, hc⟩ := (hs.sub hs5).get th_len hl hi
    obtain ⟨g0, g1⟩ := th_at hc
    simp only [ptrN_some, Int.toNat_natCast, g0, ldV_some, intV_int]
    refine ⟨by omega, by omega, ?_⟩
    have hiw : i < w.length := by omega
    by_cases he : (w[i]'hiw).1 = id
    · have e : ((w[i]'hiw).1 != id) = false := by simpa using he
      rw [e, ite2_false]
      unfold F40_j4
      rw [w1 hi]
      have hd : dropW id (w.take (i + 1)) = dropW id (w.take i) := by
        rw [List.take_succ_eq_append_getElem hiw]; unfold dropW; rw [List.filter_append]; simp [he]
      exact hI (k - 1) _ _ (by omega) ⟨i + 1, rfl, by omega, hs5, by rw [hd]; exact hrow5, by rw [hd], hfr5⟩
    · have e : ((w[i]'hiw).1 != id) = true := by simpa using he
      rw [e, ite2_true, hc, ldL_some]
      refine ⟨by omega, by omega, ?_⟩
      refine ifI (th_len _) ?_
      intro b8 hb8
      have hsp : splice [Value.int .i64 0, .int .i64 0] 0 (th (w[i]'hiw)) = th (w[i]'hiw) := splice_all rfl
      rw [hsp]
      have sb := HSub.set_fresh hp5 (.cells 60 (th (w[i]'hiw)) 0) hb8
      refine opS_app_fr (e := 60) (size := 2) (bytes := 16) (by kernel_rfl) (hrow5.sub sb) (.inr ⟨b8, 0, rfl, by rw [HP.cellN_of (HP.set_eq ..)]; exact cellsN_all rfl⟩) (th_one _) (by omega) (by omega) ?_
      intro s6 c6 hp6 hrow6 hf6
      obtain ⟨k1, k2⟩ := hf6 hp (hs5.trans sb) hfr5
      rw [slcV_slice]
      unfold F40_j4
      rw [w1 hi]
      have hd : dropW id (w.take (i + 1)) = dropW id (w.take i) ++ [w[i]'hiw] := by
        rw [List.take_succ_eq_append_getElem hiw]; unfold dropW; rw [List.filter_append]; simp [he]
      refine hI (k - 1) _ _ (by omega) ⟨i + 1, rfl, by omega, k1, ?_, by rw [hd]; simp, k2⟩
      rw [hd, List.flatMap_append]
      have : ([w[i]'hiw]).flatMap th = th (w[i]'hiw) := by simp
      rw [this]; exact hrow6
  · rw [decide_eq_false (by omega : ¬ (i : Int) < (n : Int)), ite2_false]
    unfold F40_j1
    have hin : w.take i = w := List.take_of_length_le (by omega)
    rw [hin] at hrow5 ⊢
    exact hK hp5 s5 c5 hs5 hrow5 hfr5

theorem tw_split {p : Th → Bool} {v : List Th} {i : Nat} (hi : i ≤ v.length) (h1 : ∀ (j : Nat) (hj : j < v.length), j < i → p v[j] = true) (h2 : ∀ (hi : i < v.length), p v[i] = false) : v.takeWhile p = v.take i ∧ v.dropWhile p = v.drop i := by
  have e : v = v.take i ++ v.drop i := (List.take_append_drop i v).symm
  have hd : ∀ x ∈ v.take i, p x = true := fun x hx => by
    obtain ⟨j, hj, rfl⟩ := List.getElem_of_mem hx
    rw [List.length_take] at hj
    rw [List.getElem_take]; exact h1 j (by omega) (by omega)
  have hr : ∀ x, (v.drop i).head? = some x → p x = false := fun x hx => by
    by_cases hlt : i < v.length
    · rw [List.drop_eq_getElem_cons hlt] at hx
      simp only [List.head?_cons, Option.some.injEq] at hx
      subst hx; exact h2 hlt
    · rw [List.drop_of_length_le (by omega)] at hx; cases hx
  obtain ⟨a, b⟩ := Exp.take_of_split hd hr
  rw [← e] at a b
  exact ⟨a, b⟩

theorem C39 {id due : Int} (hs : Shows hp s n 2 (w.flatMap th)) (hl : w.length = n) (hn : n ≤ 400000)
    (hK : ∀ (hp' : HP) (s' : Option Addr) (c' : Nat), HSub hp hp' → Row hp' s' (setW id due w).length c' 60 2 ((setW id due w).flatMap th) → (∀ b, s' = some ⟨b, 0, none⟩ → hp b = .none) → K (.slice s' (setW id due w).length c') hp') : CF Try.prog 39 [.slice s n c, .int .i64 id, .int .i64 due] hp K := by
  refine F39_ok s n c id due hp K ?_
  unfold F39
  refine C40 hs hl (by omega) fun hp1 s1 c1 hs1 hrow1 hfr1 => ?_
  rw [slcV_slice]
  have hvl : (dropW id w).length ≤ n := by
    have h1 : (dropW id w).length ≤ w.length := List.length_filter_le _ _
    omega
  have hsw : setW id due w = insW (id, due) (dropW id w) := rfl
  generalize hv : dropW id w = v at *
  have hvc : v.length ≤ c1 := by
    rcases hrow1 with ⟨_, h0, _, _⟩ | ⟨_, _, h1, _, _⟩
    · rw [h0]; exact Nat.zero_le _
    · exact h1
  unfold F39_j1
  refine LoopP.by (J := fun k (x : Int) hp' => hp' = hp1 ∧ ∃ i : Nat, x = i ∧ i + k = v.length ∧ ∀ (j : Nat) (hj : j < v.length), j < i → tlt v[j] (id, due) = true) ?_ (n := v.length) ⟨rfl, 0, rfl, by omega, fun j hj h => by omega⟩
  rintro I k x hp' ⟨rfl, i, rfl, hik, hlt⟩ hI
  unfold F39_l3
  -- there it is put
  have put : (∀ (hi : i < v.length), tlt v[i] (id, due) = false) → F39_j2 s1 v.length c1 id due i hp' K := by
    intro hstop
    obtain ⟨e1, e2⟩ := tw_split (p := fun t => tlt t (id, due)) (by omega) hlt hstop
    have hins : insW (id, due) v = (v.take i ++ [(id, due)]) ++ v.drop i := by
      unfold insW; rw [e1, e2]; simp
    unfold F39_j2
    intro b6 hb6
    refine ⟨by omega, by omega, ?_⟩
    have s6 := HSub.set_fresh hp' (.cells 60 [] 0) hb6
    have r0 : Row (hp'.set b6 (.cells 60 [] 0)) (some ⟨b6, 0, none⟩) 0 0 60 2 [] := .inr ⟨b6, rfl, Nat.le_refl _, by simp, by simp [HP.set_eq]⟩
    have hrow1' := hrow1.sub s6
    have hn0 : hp b6 = .none := hs1.none hb6
    rw [Int.toNat_natCast]
    refine opS_app_fr (e := 60) (size := 2) (bytes := 16) (by kernel_rfl) r0 (hrow1'.shows.take th_len rfl (by omega)) (all_flat th_one _) (by omega) (by omega) ?_
    intro s7 c7 hp7 hrow7 hf7
    obtain ⟨k1, k2⟩ := hf7 hp' s6 (fun b e => by cases e; exact hb6)
    rw [slcV_slice]
    rw [Nat.zero_add, List.nil_append] at hrow7
    rw [Nat.zero_add]
    refine ifI rfl ?_
    intro b12 hb12
    have hth : [(Value.int .i64 id), (Value.int .i64 due)] = th (id, due) := rfl
    have hsp : splice [Value.int .i64 0, .int .i64 0] 0 (th (id, due)) = th (id, due) := splice_all rfl
    rw [hth, hsp]
    have s12 := HSub.set_fresh hp7 (.cells 60 (th (id, due)) 0) hb12
    refine opS_app_fr (e := 60) (size := 2) (bytes := 16) (by kernel_rfl) (hrow7.sub s12) (.inr ⟨b12, 0, rfl, by rw [HP.cellN_of (HP.set_eq ..)]; exact cellsN_all rfl⟩) (th_one _) (by omega) (by omega) ?_
    intro s8 c8 hp8 hrow8 hf8
    obtain ⟨k3, k4⟩ := hf8 hp' (k1.trans s12) k2
    rw [slcV_slice]
    refine ⟨by omega, by omega, by omega, ?_⟩
    have sh := ((hrow1.sub k3).shows).sub0 (c := c1) (i := i) th_len rfl hvc (by omega)
    refine opS_app_fr (e := 60) (size := 2) (bytes := 16) (by kernel_rfl) hrow8 sh (all_flat th_one _) (by omega) (by omega) ?_
    intro s9 c9 hp9 hrow9 hf9
    obtain ⟨k5, k6⟩ := hf9 hp' k3 k4
    rw [slcV_slice]
    have hlen : i + 1 + (v.length - i) = (setW id due w).length := by
      rw [hsw, hins]; simp; omega
    have hfl : (v.take i).flatMap th ++ th (id, due) ++ (v.drop i).flatMap th = (setW id due w).flatMap th := by
      rw [hsw, hins, List.flatMap_append, List.flatMap_append]; simp
    rw [hfl, hlen] at hrow9
    rw [hlen]
    exact hK hp9 s9 c9 (hs1.trans k5) hrow9 fun b e => hs1.none (k6 b e)
  by_cases hi : i < v.length
  · rw [decide_eq_true (by omega : (i : Int) < ((v.length : Nat) : Int)), ite2_true]
    obtain ⟨b, o, hs1e, hc⟩ := hrow1.shows.get th_len rfl hi
    obtain ⟨g0, g1⟩ := th_at hc
    rw [hs1e]
    simp only [ptrN_some, Int.toNat_natCast, g0, g1, ldV_some, intV_int]
    rw [← hs1e]
    have w1 : IntKind.wrap .i64 ((i : Int) + 1) = ((i + 1 : Nat) : Int) := wi (by omega) (by omega)
    have more : tlt v[i] (id, due) = true → F39_j4 s1 v.length c1 id due i true hp' I K := by
      intro h
      unfold F39_j4
      rw [ite2_true, w1]
      refine hI (k - 1) _ _ (by omega) ⟨rfl, i + 1, rfl, by omega, fun j hj hj' => ?_⟩
      by_cases hji : j = i
      · subst hji; exact h
      · exact hlt j hj (by omega)
    have stop : tlt v[i] (id, due) = false → F39_j4 s1 v.length c1 id due i false hp' I K := by
      intro h
      unfold F39_j4
      rw [ite2_false]
      exact put fun _ => h
    refine ⟨by omega, by omega, ?_⟩
    by_cases hd : v[i].2 < due
    · rw [decide_eq_true hd, ite2_true]
      exact more (Exp.tlt_iff.2 (.inl hd))
    rw [decide_eq_false hd, ite2_false]
    refine ⟨by omega, by omega, ?_⟩
    by_cases hde : v[i].2 = due
    · have e : (v[i].2 == due) = true := by simpa using hde
      rw [e, ite2_true]
      refine ⟨by omega, by omega, ?_⟩
      by_cases hid : v[i].1 < id
      · rw [decide_eq_true hid]; exact more (Exp.tlt_iff.2 (.inr ⟨hde, hid⟩))
      · rw [decide_eq_false hid]; exact stop (Exp.tlt_false.2 (by rintro (h | ⟨_, h⟩); exact hd h; exact hid h))
    · have e : (v[i].2 == due) = false := by simpa using hde
      rw [e, ite2_false]
      exact stop (Exp.tlt_false.2 (by rintro (h | ⟨h, _⟩); exact hd h; exact hde h))
  · rw [decide_eq_false (by omega : ¬ (i : Int) < ((v.length : Nat) : Int)), ite2_false]
    unfold F39_j4
    rw [ite2_false]
    exact put fun h => absurd h hi
end
end Go.Proofs

set_option linter.unusedVariables false
set_option maxRecDepth 20000
namespace Go.Proofs
open Go Go.HL
-- 7 interpreter/interpreterlaw20.ExpiryPlays
theorem F7_r0 (e : Env) (hp : HP) (K : Env → PV → HP → Prop) : RW Try.prog 195 [6, 31, 36, 65, 70, 72, 75, 79, 86, 88, 96, 103, 118, 125] (opsAt Try.f7 [0]) (List.range 1) e V0 hp K =
    (K (upd e 2 (sB (false))) V0 hp) := by kernel_rfl
theorem F7_r1 (e : Env) (x0a : Option Addr) (x0n : Nat) (x0c : Nat) (hp : HP) (K : Env → PV → HP → Prop) : RW Try.prog 195 [6, 31, 36, 65, 70, 72, 75, 79, 86, 88, 96, 103, 118, 125] (opsAt Try.f7 [1, 0, 0]) (List.range 3) (upd e 0 (sV (Value.slice x0a x0n x0c))) V0 hp K =
    (K (upd (upd (upd (upd e 0 (sV (Value.slice x0a x0n x0c))) 15 (sV (Value.slice x0a x0n x0c))) 16 (sI ((x0n : Nat)))) 17 (sB ((decide (((x0n : Nat) : Int) > 200))))) V0 hp) := by kernel_rfl
theorem F7_r2 (e : Env) (hp : HP) (K : Env → PV → HP → Prop) : RW Try.prog 195 [6, 31, 36, 65, 70, 72, 75, 79, 86, 88, 96, 103, 118, 125] (opsAt Try.f7 [1, 0, 1, 0, 0]) (List.range 2) e V0 hp K =
    (CF Try.prog 28 [] hp fun u1 h2 => (boolV u1 fun q3 => (K (upd (upd e 18 (sB (q3))) 2 (sB (q3))) V0 h2))) := by kernel_rfl
theorem F7_r3 (e : Env) (hp : HP) (K : Env → PV → HP → Prop) : RW Try.prog 195 [6, 31, 36, 65, 70, 72, 75, 79, 86, 88, 96, 103, 118, 125] (opsAt Try.f7 [1, 1, 0]) (List.range 2) e V0 hp K =
    (CF Try.prog 29 [] hp fun u1 h2 => (ptrV u1 fun p3 => (K (upd (upd e 19 (sV (Value.pointer p3))) 3 (sV (Value.pointer p3))) V0 h2))) := by kernel_rfl
theorem F7_r4 (e : Env) (hp : HP) (K : Env → PV → HP → Prop) : RW Try.prog 195 [6, 31, 36, 65, 70, 72, 75, 79, 86, 88, 96, 103, 118, 125] (opsAt Try.f7 [1, 1, 1, 0]) (List.range 1) e V0 hp K =
    (K (upd e 4 (sV (Value.slice none 0 0))) V0 hp) := by kernel_rfl
theorem F7_r5 (e : Env) (hp : HP) (K : Env → PV → HP → Prop) : RW Try.prog 195 [6, 31, 36, 65, 70, 72, 75, 79, 86, 88, 96, 103, 118, 125] (opsAt Try.f7 [1, 1, 1, 1, 1, 0]) (List.range 2) e V0 hp K =
    (CF Try.prog 28 [] hp fun u1 h2 => (boolV u1 fun q3 => (K (upd (upd e 194 (sB (q3))) 2 (sB (q3))) V0 h2))) := by kernel_rfl
def F7_j1 (hp : HP) (K : Value → HP → Prop) : Prop :=
  (CF Try.prog 28 [] hp fun u_7 h_8 => (boolV u_7 fun q_9 => (K (Value.bool q_9) h_8)))
theorem F7_r6 (e : Env) (x0a : Option Addr) (x0n : Nat) (x0c : Nat) (x5 : Int) (hp : HP) (K : Env → PV → HP → Prop) : RW Try.prog 195 [6, 31, 36, 65, 70, 72, 75, 79, 86, 88, 96, 103, 118, 125] (opsAt Try.f7 [1, 1, 1, 1, 0, 1, 0, 0, 0, 0]) (List.range 4) (upd (upd e 5 (sI (x5))) 0 (sV (Value.slice x0a x0n x0c))) V0 hp K =
    (K (upd (upd (upd (upd (upd (upd e 5 (sI (x5))) 0 (sV (Value.slice x0a x0n x0c))) 20 (sI (x5))) 21 (sV (Value.slice x0a x0n x0c))) 22 (sI ((x0n : Nat)))) 23 (sB ((decide ((x5 : Int) < (x0n : Nat)))))) V0 hp) := by kernel_rfl
theorem F7_r7 (e : Env) (x5 : Int) (hp : HP) (K : Env → PV → HP → Prop) : RW Try.prog 195 [6, 31, 36, 65, 70, 72, 75, 79, 86, 88, 96, 103, 118, 125] (opsAt Try.f7 [1, 1, 1, 1, 0, 1, 0, 0, 1, 1]) (List.range 3) (upd e 5 (sI (x5))) V0 hp K =
    (K (upd (upd (upd (upd e 5 (sI (x5))) 24 (sI (x5))) 25 (sI ((IntKind.wrap .i64 (x5 + 1))))) 5 (sI ((IntKind.wrap .i64 (x5 + 1))))) V0 hp) := by kernel_rfl
def F7_j4 (x0a : Option Addr) (x0n : Nat) (x0c : Nat) (x3 : Option Addr) (x4a : Option Addr) (x4n : Nat) (x4c : Nat) (x5 : Int) (hp : HP) (I3 : ((Option Addr) × Nat × Nat × Int) → HP → Prop) (K : Value → HP → Prop) : Prop :=
  (I3 (x4a, x4n, x4c, (IntKind.wrap .i64 (x5 + 1))) hp)
theorem F7_r8 (e : Env) (x0a : Option Addr) (x0n : Nat) (x0c : Nat) (x5 : Int) (hp : HP) (K : Env → PV → HP → Prop) : RW Try.prog 195 [6, 31, 36, 65, 70, 72, 75, 79, 86, 88, 96, 103, 118, 125] (opsAt Try.f7 [1, 1, 1, 1, 0, 1, 0, 0, 1, 0, 0, 0]) (List.range 6) (upd (upd e 5 (sI (x5))) 0 (sV (Value.slice x0a x0n x0c))) V0 hp K =
    ((0 ≤ (x5 : Int)) ∧ ((x5 : Int) < (x0n : Nat)) ∧ (ptrN x0a fun b1 o2 => (ldL (HP.cellN hp b1 (o2 + Int.toNat x5 * 3) 3) fun l3 => (if List.length l3 = 3 then (if List.all l3 one = true then (if 0 + List.length l3 ≤ List.length [(Value.int .u8 0), (Value.int .i64 0), (Value.int .i64 0)] then (K (upd (upd (upd (upd (upd (upd (upd e 5 (sI (x5))) 0 (sV (Value.slice x0a x0n x0c))) 26 (sV (Value.slice x0a x0n x0c))) 27 (sI (x5))) 28 (sV (ptr b1 (o2 + Int.toNat x5 * 3)))) 29 (sV (Value.agg ⟨l3⟩))) 6 (SV.priv 6 0)) (upd (upd V0 6 (51, [(Value.int .u8 0), (Value.int .i64 0), (Value.int .i64 0)])) 6 (51, (splice [(Value.int .u8 0), (Value.int .i64 0), (Value.int .i64 0)] 0 l3))) hp) else False) else False) else False)))) := by kernel_rfl
theorem F7_r9 (e : Env) (x4a : Option Addr) (x4n : Nat) (x4c : Nat) (k6 : List Value) (hp : HP) (K : Env → PV → HP → Prop) : RW Try.prog 195 [6, 31, 36, 65, 70, 72, 75, 79, 86, 88, 96, 103, 118, 125] (opsAt Try.f7 [1, 1, 1, 1, 0, 1, 0, 0, 1, 0, 0, 1, 0]) (List.range 5) (upd (upd e 6 (SV.priv 6 0)) 4 (sV (Value.slice x4a x4n x4c))) (upd V0 6 (51, k6)) hp K =
    (ldV (k6)[1]? fun v1 => (intV v1 .i64 fun i2 => (CF Try.prog 37 [(Value.slice x4a x4n x4c), (Value.int .i64 i2)] hp fun u3 h4 => (intV u3 .i64 fun i5 => (K (upd (upd (upd (upd (upd (upd (upd e 6 (SV.priv 6 0)) 4 (sV (Value.slice x4a x4n x4c))) 30 (sV (Value.slice x4a x4n x4c))) 31 (SV.priv 6 1)) 32 (sI (i2))) 33 (sI (i5))) 7 (sI (i5))) (upd V0 6 (51, k6)) h4))))) := by kernel_rfl
theorem F7_r10 (e : Env) (x3 : Option Addr) (k6 : List Value) (hp : HP) (K : Env → PV → HP → Prop) : RW Try.prog 195 [6, 31, 36, 65, 70, 72, 75, 79, 86, 88, 96, 103, 118, 125] (opsAt Try.f7 [1, 1, 1, 1, 0, 1, 0, 0, 1, 0, 0, 1, 1, 0]) (List.range 9) (upd (upd e 6 (SV.priv 6 0)) 3 (sV (Value.pointer x3))) (upd V0 6 (51, k6)) hp K =
    (ldV (k6)[1]? fun v1 => (intV v1 .i64 fun i2 => (CF Try.prog 38 [(Value.pointer x3), (Value.int .i64 i2)] hp fun u3 h4 => (tup2V u3 fun u5 u6 => (intV u5 .i64 fun i7 => (boolV u6 fun q8 => (K (upd (upd (upd (upd (upd (upd (upd (upd (upd (upd (upd e 6 (SV.priv 6 0)) 3 (sV (Value.pointer x3))) 35 (sV (Value.pointer x3))) 36 (SV.priv 6 1)) 37 (sI (i2))) 38 (sV (Value.tuple ⟨[(Value.int .i64 i7), (Value.bool q8)]⟩))) 34 (sV (Value.tuple ⟨[(Value.int .i64 i7), (Value.bool q8)]⟩))) 39 (sI (i7))) 40 (sB (q8))) 8 (sI (i7))) 9 (sB (q8))) (upd V0 6 (51, k6)) h4))))))) := by kernel_rfl
theorem F7_r11 (e : Env) (hp : HP) (K : Env → PV → HP → Prop) : RW Try.prog 195 [6, 31, 36, 65, 70, 72, 75, 79, 86, 88, 96, 103, 118, 125] (opsAt Try.f7 [1, 1, 1, 1, 0, 1, 0, 0, 1, 0, 0, 1, 1, 1, 0, 1, 0, 0]) (List.range 1) e V0 hp K =
    (K (upd e 2 (sB (false))) V0 hp) := by kernel_rfl
theorem F7_r12 (e : Env) (x3 : Option Addr) (hp : HP) (K : Env → PV → HP → Prop) : RW Try.prog 195 [6, 31, 36, 65, 70, 72, 75, 79, 86, 88, 96, 103, 118, 125] (opsAt Try.f7 [1, 1, 1, 1, 0, 1, 0, 0, 1, 0, 0, 1, 1, 1, 1, 1, 0]) (List.range 9) (upd e 3 (sV (Value.pointer x3))) V0 hp K =
    (CF Try.prog 42 [(Value.pointer x3)] hp fun u1 h2 => (tup3V u1 fun u3 u4 u5 => (intV u3 .i64 fun i6 => (intV u4 .i64 fun i7 => (boolV u5 fun q8 => (K (upd (upd (upd (upd (upd (upd (upd (upd (upd (upd e 3 (sV (Value.pointer x3))) 138 (sV (Value.pointer x3))) 139 (sV (Value.tuple ⟨[(Value.int .i64 i6), (Value.int .i64 i7), (Value.bool q8)]⟩))) 137 (sV (Value.tuple ⟨[(Value.int .i64 i6), (Value.int .i64 i7), (Value.bool q8)]⟩))) 140 (sI (i6))) 141 (sI (i7))) 142 (sB (q8))) 12 (sI (i6))) 13 (sI (i7))) 14 (sB (q8))) V0 h2)))))) := by kernel_rfl
theorem F7_r13 (e : Env) (hp : HP) (K : Env → PV → HP → Prop) : RW Try.prog 195 [6, 31, 36, 65, 70, 72, 75, 79, 86, 88, 96, 103, 118, 125] (opsAt Try.f7 [1, 1, 1, 1, 0, 1, 0, 0, 1, 0, 0, 1, 1, 1, 1, 1, 1, 1, 0, 0]) (List.range 1) e V0 hp K =
    (K (upd e 2 (sB (false))) V0 hp) := by kernel_rfl
def F7_j7 (x0a : Option Addr) (x0n : Nat) (x0c : Nat) (x3 : Option Addr) (x4a : Option Addr) (x4n : Nat) (x4c : Nat) (x5 : Int) (x193 : Bool) (hp : HP) (I3 : ((Option Addr) × Nat × Nat × Int) → HP → Prop) (K : Value → HP → Prop) : Prop :=
  (ite2 x193 (K (Value.bool false) hp) (F7_j4 x0a x0n x0c x3 x4a x4n x4c x5 hp I3 K))
theorem F7_r14 (e : Env) (x3 : Option Addr) (x4a : Option Addr) (x4n : Nat) (x4c : Nat) (x12 : Int) (x13 : Int) (x14 : Bool) (hp : HP) (K : Env → PV → HP → Prop) : RW Try.prog 195 [6, 31, 36, 65, 70, 72, 75, 79, 86, 88, 96, 103, 118, 125] (opsAt Try.f7 [1, 1, 1, 1, 0, 1, 0, 0, 1, 0, 0, 1, 1, 1, 1, 1, 1, 0]) (List.range 51) (upd (upd (upd (upd (upd e 14 (sB (x14))) 13 (sI (x13))) 12 (sI (x12))) 4 (sV (Value.slice x4a x4n x4c))) 3 (sV (Value.pointer x3))) V0 hp K =
    (CF Try.prog 36 [(Value.pointer x3)] hp fun u1 h2 => (intV u1 .i64 fun i3 => (ite2 ((i3 : Int) != (x4n : Nat)) (K (upd (upd (upd (upd (upd (upd (upd (upd (upd (upd (upd (upd (upd (upd (upd (upd (upd (upd (upd (upd (upd (upd (upd (upd (upd (upd (upd (upd (upd (upd (upd (upd (upd (upd (upd (upd (upd (upd (upd (upd (upd (upd (upd (upd (upd (upd (upd (upd (upd (upd (upd (upd (upd (upd (upd (upd e 14 (sB (x14))) 13 (sI (x13))) 12 (sI (x12))) 4 (sV (Value.slice x4a x4n x4c))) 3 (sV (Value.pointer x3))) 143 (sV (Value.pointer x3))) 144 (sI (i3))) 145 (sV (Value.slice x4a x4n x4c))) 146 (sI ((x4n : Nat)))) 147 (sB (((i3 : Int) != (x4n : Nat))))) 148 (sB (true))) 149 (sV undef)) 150 (sV undef)) 151 (sV undef)) 152 (sV undef)) 153 (sV undef)) 154 (sV undef)) 155 (sB (true))) 156 (sB (true))) 157 (sV undef)) 158 (sV undef)) 159 (sV undef)) 160 (sV undef)) 161 (sV undef)) 162 (sB (true))) 163 (sB (true))) 164 (sV undef)) 165 (sV undef)) 166 (sV undef)) 167 (sV undef)) 168 (sV undef)) 169 (sV undef)) 170 (sV undef)) 171 (sV undef)) 172 (sV undef)) 173 (sV undef)) 174 (sV undef)) 175 (sV undef)) 176 (sV undef)) 177 (sV undef)) 178 (sV undef)) 179 (sV undef)) 180 (sV undef)) 181 (sB (true))) 182 (sB (true))) 183 (sV undef)) 184 (sV undef)) 185 (sV undef)) 186 (sV undef)) 187 (sV undef)) 188 (sV undef)) 189 (sV undef)) 190 (sV undef)) 191 (sV undef)) 192 (sV undef)) 193 (sB (true))) V0 h2) (CF Try.prog 33 [(Value.pointer x3)] h2 fun u4 h5 => (slcV u4 fun a6 n7 c8 => (CF Try.prog 41 [(Value.slice x4a x4n x4c)] h5 fun u9 h10 => (slcV u9 fun a11 n12 c13 => (CF Try.prog 32 [(Value.slice a6 n7 c8), (Value.slice a11 n12 c13)] h10 fun u14 h15 => (boolV u14 fun q16 => (ite2 (!q16) (K (upd (upd (upd (upd (upd (upd (upd (upd (upd (upd (upd (upd (upd (upd (upd (upd (upd (upd (upd (upd (upd (upd (upd (upd (upd (upd (upd (upd (upd (upd (upd (upd (upd (upd (upd (upd (upd (upd (upd (upd (upd (upd (upd (upd (upd (upd (upd (upd (upd (upd (upd (upd (upd (upd (upd (upd e 14 (sB (x14))) 13 (sI (x13))) 12 (sI (x12))) 4 (sV (Value.slice x4a x4n x4c))) 3 (sV (Value.pointer x3))) 143 (sV (Value.pointer x3))) 144 (sI (i3))) 145 (sV (Value.slice x4a x4n x4c))) 146 (sI ((x4n : Nat)))) 147 (sB (((i3 : Int) != (x4n : Nat))))) 148 (sB (false))) 149 (sV (Value.pointer x3))) 150 (sV (Value.slice a6 n7 c8))) 151 (sV (Value.slice x4a x4n x4c))) 152 (sV (Value.slice a11 n12 c13))) 153 (sB (q16))) 154 (sB ((!q16)))) 155 (sB ((!q16)))) 156 (sB (true))) 157 (sV undef)) 158 (sV undef)) 159 (sV undef)) 160 (sV undef)) 161 (sV undef)) 162 (sB (true))) 163 (sB (true))) 164 (sV undef)) 165 (sV undef)) 166 (sV undef)) 167 (sV undef)) 168 (sV undef)) 169 (sV undef)) 170 (sV undef)) 171 (sV undef)) 172 (sV undef)) 173 (sV undef)) 174 (sV undef)) 175 (sV undef)) 176 (sV undef)) 177 (sV undef)) 178 (sV undef)) 179 (sV undef)) 180 (sV undef)) 181 (sB (true))) 182 (sB (true))) 183 (sV undef)) 184 (sV undef)) 185 (sV undef)) 186 (sV undef)) 187 (sV undef)) 188 (sV undef)) 189 (sV undef)) 190 (sV undef)) 191 (sV undef)) 192 (sV undef)) 193 (sB (true))) V0 h15) (ite2 (!(x14 == (decide (((x4n : Nat) : Int) > 0)))) (K (upd (upd (upd (upd (upd (upd (upd (upd (upd (upd (upd (upd (upd (upd (upd (upd (upd (upd (upd (upd (upd (upd (upd (upd (upd (upd (upd (upd (upd (upd (upd (upd (upd (upd (upd (upd (upd (upd (upd (upd (upd (upd (upd (upd (upd (upd (upd (upd (upd (upd (upd (upd (upd (upd (upd (upd e 14 (sB (x14))) 13 (sI (x13))) 12 (sI (x12))) 4 (sV (Value.slice x4a x4n x4c))) 3 (sV (Value.pointer x3))) 143 (sV (Value.pointer x3))) 144 (sI (i3))) 145 (sV (Value.slice x4a x4n x4c))) 146 (sI ((x4n : Nat)))) 147 (sB (((i3 : Int) != (x4n : Nat))))) 148 (sB (false))) 149 (sV (Value.pointer x3))) 150 (sV (Value.slice a6 n7 c8))) 151 (sV (Value.slice x4a x4n x4c))) 152 (sV (Value.slice a11 n12 c13))) 153 (sB (q16))) 154 (sB ((!q16)))) 155 (sB ((!q16)))) 156 (sB (false))) 157 (sB (x14))) 158 (sV (Value.slice x4a x4n x4c))) 159 (sI ((x4n : Nat)))) 160 (sB ((decide (((x4n : Nat) : Int) > 0))))) 161 (sB ((!(x14 == (decide (((x4n : Nat) : Int) > 0))))))) 162 (sB ((!(x14 == (decide (((x4n : Nat) : Int) > 0))))))) 163 (sB (true))) 164 (sV undef)) 165 (sV undef)) 166 (sV undef)) 167 (sV undef)) 168 (sV undef)) 169 (sV undef)) 170 (sV undef)) 171 (sV undef)) 172 (sV undef)) 173 (sV undef)) 174 (sV undef)) 175 (sV undef)) 176 (sV undef)) 177 (sV undef)) 178 (sV undef)) 179 (sV undef)) 180 (sV undef)) 181 (sB (true))) 182 (sB (true))) 183 (sV undef)) 184 (sV undef)) 185 (sV undef)) 186 (sV undef)) 187 (sV undef)) 188 (sV undef)) 189 (sV undef)) 190 (sV undef)) 191 (sV undef)) 192 (sV undef)) 193 (sB (true))) V0 h15) (ite2 x14 ((0 ≤ (0 : Int)) ∧ ((0 : Int) < (x4n : Nat)) ∧ (ptrN x4a fun b17 o18 => (ldV (HP.cell h15 b17 ((o18 + Int.toNat 0 * 2) + 0)) fun v19 => (intV v19 .i64 fun i20 => (ite2 ((x12 : Int) != i20) (K (upd (upd (upd (upd (upd (upd (upd (upd (upd (upd (upd (upd (upd (upd (upd (upd (upd (upd (upd (upd (upd (upd (upd (upd (upd (upd (upd (upd (upd (upd (upd (upd (upd (upd (upd (upd (upd (upd (upd (upd (upd (upd (upd (upd (upd (upd (upd (upd (upd (upd (upd (upd (upd (upd (upd (upd e 14 (sB (x14))) 13 (sI (x13))) 12 (sI (x12))) 4 (sV (Value.slice x4a x4n x4c))) 3 (sV (Value.pointer x3))) 143 (sV (Value.pointer x3))) 144 (sI (i3))) 145 (sV (Value.slice x4a x4n x4c))) 146 (sI ((x4n : Nat)))) 147 (sB (((i3 : Int) != (x4n : Nat))))) 148 (sB (false))) 149 (sV (Value.pointer x3))) 150 (sV (Value.slice a6 n7 c8))) 151 (sV (Value.slice x4a x4n x4c))) 152 (sV (Value.slice a11 n12 c13))) 153 (sB (q16))) 154 (sB ((!q16)))) 155 (sB ((!q16)))) 156 (sB (false))) 157 (sB (x14))) 158 (sV (Value.slice x4a x4n x4c))) 159 (sI ((x4n : Nat)))) 160 (sB ((decide (((x4n : Nat) : Int) > 0))))) 161 (sB ((!(x14 == (decide (((x4n : Nat) : Int) > 0))))))) 162 (sB ((!(x14 == (decide (((x4n : Nat) : Int) > 0))))))) 163 (sB (false))) 164 (sB (x14))) 165 (sB (true))) 166 (sI (x12))) 167 (sV (Value.slice x4a x4n x4c))) 168 (sV (ptr b17 (o18 + Int.toNat 0 * 2)))) 169 (sV (ptr b17 ((o18 + Int.toNat 0 * 2) + 0)))) 170 (sI (i20))) 171 (sB (((x12 : Int) != i20)))) 172 (sB (true))) 173 (sV undef)) 174 (sV undef)) 175 (sV undef)) 176 (sV undef)) 177 (sV undef)) 178 (sV undef)) 179 (sB (true))) 180 (sB (true))) 181 (sB (true))) 182 (sB (true))) 183 (sV undef)) 184 (sV undef)) 185 (sV undef)) 186 (sV undef)) 187 (sV undef)) 188 (sV undef)) 189 (sV undef)) 190 (sV undef)) 191 (sV undef)) 192 (sV undef)) 193 (sB (true))) V0 h15) ((0 ≤ (0 : Int)) ∧ ((0 : Int) < (x4n : Nat)) ∧ (ptrN x4a fun b21 o22 => (ldV (HP.cell h15 b21 ((o22 + Int.toNat 0 * 2) + 1)) fun v23 => (intV v23 .i64 fun i24 => (ite2 ((x13 : Int) != i24) (K (upd (upd (upd (upd (upd (upd (upd (upd (upd (upd (upd (upd (upd (upd (upd (upd (upd (upd (upd (upd (upd (upd (upd (upd (upd (upd (upd (upd (upd (upd (upd (upd (upd (upd (upd (upd (upd (upd (upd (upd (upd (upd (upd (upd (upd (upd (upd (upd (upd (upd (upd (upd (upd (upd (upd (upd e 14 (sB (x14))) 13 (sI (x13))) 12 (sI (x12))) 4 (sV (Value.slice x4a x4n x4c))) 3 (sV (Value.pointer x3))) 143 (sV (Value.pointer x3))) 144 (sI (i3))) 145 (sV (Value.slice x4a x4n x4c))) 146 (sI ((x4n : Nat)))) 147 (sB (((i3 : Int) != (x4n : Nat))))) 148 (sB (false))) 149 (sV (Value.pointer x3))) 150 (sV (Value.slice a6 n7 c8))) 151 (sV (Value.slice x4a x4n x4c))) 152 (sV (Value.slice a11 n12 c13))) 153 (sB (q16))) 154 (sB ((!q16)))) 155 (sB ((!q16)))) 156 (sB (false))) 157 (sB (x14))) 158 (sV (Value.slice x4a x4n x4c))) 159 (sI ((x4n : Nat)))) 160 (sB ((decide (((x4n : Nat) : Int) > 0))))) 161 (sB ((!(x14 == (decide (((x4n : Nat) : Int) > 0))))))) 162 (sB ((!(x14 == (decide (((x4n : Nat) : Int) > 0))))))) 163 (sB (false))) 164 (sB (x14))) 165 (sB (true))) 166 (sI (x12))) 167 (sV (Value.slice x4a x4n x4c))) 168 (sV (ptr b17 (o18 + Int.toNat 0 * 2)))) 169 (sV (ptr b17 ((o18 + Int.toNat 0 * 2) + 0)))) 170 (sI (i20))) 171 (sB (((x12 : Int) != i20)))) 172 (sB (false))) 173 (sI (x13))) 174 (sV (Value.slice x4a x4n x4c))) 175 (sV (ptr b21 (o22 + Int.toNat 0 * 2)))) 176 (sV (ptr b21 ((o22 + Int.toNat 0 * 2) + 1)))) 177 (sI (i24))) 178 (sB (((x13 : Int) != i24)))) 179 (sB (((x13 : Int) != i24)))) 180 (sB (((x13 : Int) != i24)))) 181 (sB (((x13 : Int) != i24)))) 182 (sB (true))) 183 (sV undef)) 184 (sV undef)) 185 (sV undef)) 186 (sV undef)) 187 (sV undef)) 188 (sV undef)) 189 (sV undef)) 190 (sV undef)) 191 (sV undef)) 192 (sV undef)) 193 (sB (true))) V0 h15) (ite2 (!x14) (ite2 ((x12 : Int) != 0) (K (upd (upd (upd (upd (upd (upd (upd (upd (upd (upd (upd (upd (upd (upd (upd (upd (upd (upd (upd (upd (upd (upd (upd (upd (upd (upd (upd (upd (upd (upd (upd (upd (upd (upd (upd (upd (upd (upd (upd (upd (upd (upd (upd (upd (upd (upd (upd (upd (upd (upd (upd (upd (upd (upd (upd (upd e 14 (sB (x14))) 13 (sI (x13))) 12 (sI (x12))) 4 (sV (Value.slice x4a x4n x4c))) 3 (sV (Value.pointer x3))) 143 (sV (Value.pointer x3))) 144 (sI (i3))) 145 (sV (Value.slice x4a x4n x4c))) 146 (sI ((x4n : Nat)))) 147 (sB (((i3 : Int) != (x4n : Nat))))) 148 (sB (false))) 149 (sV (Value.pointer x3))) 150 (sV (Value.slice a6 n7 c8))) 151 (sV (Value.slice x4a x4n x4c))) 152 (sV (Value.slice a11 n12 c13))) 153 (sB (q16))) 154 (sB ((!q16)))) 155 (sB ((!q16)))) 156 (sB (false))) 157 (sB (x14))) 158 (sV (Value.slice x4a x4n x4c))) 159 (sI ((x4n : Nat)))) 160 (sB ((decide (((x4n : Nat) : Int) > 0))))) 161 (sB ((!(x14 == (decide (((x4n : Nat) : Int) > 0))))))) 162 (sB ((!(x14 == (decide (((x4n : Nat) : Int) > 0))))))) 163 (sB (false))) 164 (sB (x14))) 165 (sB (true))) 166 (sI (x12))) 167 (sV (Value.slice x4a x4n x4c))) 168 (sV (ptr b17 (o18 + Int.toNat 0 * 2)))) 169 (sV (ptr b17 ((o18 + Int.toNat 0 * 2) + 0)))) 170 (sI (i20))) 171 (sB (((x12 : Int) != i20)))) 172 (sB (false))) 173 (sI (x13))) 174 (sV (Value.slice x4a x4n x4c))) 175 (sV (ptr b21 (o22 + Int.toNat 0 * 2)))) 176 (sV (ptr b21 ((o22 + Int.toNat 0 * 2) + 1)))) 177 (sI (i24))) 178 (sB (((x13 : Int) != i24)))) 179 (sB (((x13 : Int) != i24)))) 180 (sB (((x13 : Int) != i24)))) 181 (sB (((x13 : Int) != i24)))) 182 (sB (false))) 183 (sB (x14))) 184 (sB ((!x14)))) 185 (sB (true))) 186 (sI (x12))) 187 (sB (((x12 : Int) != 0)))) 188 (sB (true))) 189 (sV undef)) 190 (sV undef)) 191 (sB (true))) 192 (sB (true))) 193 (sB (true))) V0 h15) (K (upd (upd (upd (upd (upd (upd (upd (upd (upd (upd (upd (upd (upd (upd (upd (upd (upd (upd (upd (upd (upd (upd (upd (upd (upd (upd (upd (upd (upd (upd (upd (upd (upd (upd (upd (upd (upd (upd (upd (upd (upd (upd (upd (upd (upd (upd (upd (upd (upd (upd (upd (upd (upd (upd (upd (upd e 14 (sB (x14))) 13 (sI (x13))) 12 (sI (x12))) 4 (sV (Value.slice x4a x4n x4c))) 3 (sV (Value.pointer x3))) 143 (sV (Value.pointer x3))) 144 (sI (i3))) 145 (sV (Value.slice x4a x4n x4c))) 146 (sI ((x4n : Nat)))) 147 (sB (((i3 : Int) != (x4n : Nat))))) 148 (sB (false))) 149 (sV (Value.pointer x3))) 150 (sV (Value.slice a6 n7 c8))) 151 (sV (Value.slice x4a x4n x4c))) 152 (sV (Value.slice a11 n12 c13))) 153 (sB (q16))) 154 (sB ((!q16)))) 155 (sB ((!q16)))) 156 (sB (false))) 157 (sB (x14))) 158 (sV (Value.slice x4a x4n x4c))) 159 (sI ((x4n : Nat)))) 160 (sB ((decide (((x4n : Nat) : Int) > 0))))) 161 (sB ((!(x14 == (decide (((x4n : Nat) : Int) > 0))))))) 162 (sB ((!(x14 == (decide (((x4n : Nat) : Int) > 0))))))) 163 (sB (false))) 164 (sB (x14))) 165 (sB (true))) 166 (sI (x12))) 167 (sV (Value.slice x4a x4n x4c))) 168 (sV (ptr b17 (o18 + Int.toNat 0 * 2)))) 169 (sV (ptr b17 ((o18 + Int.toNat 0 * 2) + 0)))) 170 (sI (i20))) 171 (sB (((x12 : Int) != i20)))) 172 (sB (false))) 173 (sI (x13))) 174 (sV (Value.slice x4a x4n x4c))) 175 (sV (ptr b21 (o22 + Int.toNat 0 * 2)))) 176 (sV (ptr b21 ((o22 + Int.toNat 0 * 2) + 1)))) 177 (sI (i24))) 178 (sB (((x13 : Int) != i24)))) 179 (sB (((x13 : Int) != i24)))) 180 (sB (((x13 : Int) != i24)))) 181 (sB (((x13 : Int) != i24)))) 182 (sB (false))) 183 (sB (x14))) 184 (sB ((!x14)))) 185 (sB (true))) 186 (sI (x12))) 187 (sB (((x12 : Int) != 0)))) 188 (sB (false))) 189 (sI (x13))) 190 (sB (((x13 : Int) != 0)))) 191 (sB (((x13 : Int) != 0)))) 192 (sB (((x13 : Int) != 0)))) 193 (sB (((x13 : Int) != 0)))) V0 h15)) (K (upd (upd (upd (upd (upd (upd (upd (upd (upd (upd (upd (upd (upd (upd (upd (upd (upd (upd (upd (upd (upd (upd (upd (upd (upd (upd (upd (upd (upd (upd (upd (upd (upd (upd (upd (upd (upd (upd (upd (upd (upd (upd (upd (upd (upd (upd (upd (upd (upd (upd (upd (upd (upd (upd (upd (upd e 14 (sB (x14))) 13 (sI (x13))) 12 (sI (x12))) 4 (sV (Value.slice x4a x4n x4c))) 3 (sV (Value.pointer x3))) 143 (sV (Value.pointer x3))) 144 (sI (i3))) 145 (sV (Value.slice x4a x4n x4c))) 146 (sI ((x4n : Nat)))) 147 (sB (((i3 : Int) != (x4n : Nat))))) 148 (sB (false))) 149 (sV (Value.pointer x3))) 150 (sV (Value.slice a6 n7 c8))) 151 (sV (Value.slice x4a x4n x4c))) 152 (sV (Value.slice a11 n12 c13))) 153 (sB (q16))) 154 (sB ((!q16)))) 155 (sB ((!q16)))) 156 (sB (false))) 157 (sB (x14))) 158 (sV (Value.slice x4a x4n x4c))) 159 (sI ((x4n : Nat)))) 160 (sB ((decide (((x4n : Nat) : Int) > 0))))) 161 (sB ((!(x14 == (decide (((x4n : Nat) : Int) > 0))))))) 162 (sB ((!(x14 == (decide (((x4n : Nat) : Int) > 0))))))) 163 (sB (false))) 164 (sB (x14))) 165 (sB (true))) 166 (sI (x12))) 167 (sV (Value.slice x4a x4n x4c))) 168 (sV (ptr b17 (o18 + Int.toNat 0 * 2)))) 169 (sV (ptr b17 ((o18 + Int.toNat 0 * 2) + 0)))) 170 (sI (i20))) 171 (sB (((x12 : Int) != i20)))) 172 (sB (false))) 173 (sI (x13))) 174 (sV (Value.slice x4a x4n x4c))) 175 (sV (ptr b21 (o22 + Int.toNat 0 * 2)))) 176 (sV (ptr b21 ((o22 + Int.toNat 0 * 2) + 1)))) 177 (sI (i24))) 178 (sB (((x13 : Int) != i24)))) 179 (sB (((x13 : Int) != i24)))) 180 (sB (((x13 : Int) != i24)))) 181 (sB (((x13 : Int) != i24)))) 182 (sB (false))) 183 (sB (x14))) 184 (sB ((!x14)))) 185 (sB (false))) 186 (sV undef)) 187 (sV undef)) 188 (sV undef)) 189 (sV undef)) 190 (sV undef)) 191 (sV undef)) 192 (sB (false))) 193 (sB (false))) V0 h15)))))))))))) (ite2 (!x14) (ite2 ((x12 : Int) != 0) (K (upd (upd (upd (upd (upd (upd (upd (upd (upd (upd (upd (upd (upd (upd (upd (upd (upd (upd (upd (upd (upd (upd (upd (upd (upd (upd (upd (upd (upd (upd (upd (upd (upd (upd (upd (upd (upd (upd (upd (upd (upd (upd (upd (upd (upd (upd (upd (upd (upd (upd (upd (upd (upd (upd (upd (upd e 14 (sB (x14))) 13 (sI (x13))) 12 (sI (x12))) 4 (sV (Value.slice x4a x4n x4c))) 3 (sV (Value.pointer x3))) 143 (sV (Value.pointer x3))) 144 (sI (i3))) 145 (sV (Value.slice x4a x4n x4c))) 146 (sI ((x4n : Nat)))) 147 (sB (((i3 : Int) != (x4n : Nat))))) 148 (sB (false))) 149 (sV (Value.pointer x3))) 150 (sV (Value.slice a6 n7 c8))) 151 (sV (Value.slice x4a x4n x4c))) 152 (sV (Value.slice a11 n12 c13))) 153 (sB (q16))) 154 (sB ((!q16)))) 155 (sB ((!q16)))) 156 (sB (false))) 157 (sB (x14))) 158 (sV (Value.slice x4a x4n x4c))) 159 (sI ((x4n : Nat)))) 160 (sB ((decide (((x4n : Nat) : Int) > 0))))) 161 (sB ((!(x14 == (decide (((x4n : Nat) : Int) > 0))))))) 162 (sB ((!(x14 == (decide (((x4n : Nat) : Int) > 0))))))) 163 (sB (false))) 164 (sB (x14))) 165 (sB (false))) 166 (sV undef)) 167 (sV undef)) 168 (sV undef)) 169 (sV undef)) 170 (sV undef)) 171 (sV undef)) 172 (sV undef)) 173 (sV undef)) 174 (sV undef)) 175 (sV undef)) 176 (sV undef)) 177 (sV undef)) 178 (sV undef)) 179 (sV undef)) 180 (sB (false))) 181 (sB (false))) 182 (sB (false))) 183 (sB (x14))) 184 (sB ((!x14)))) 185 (sB (true))) 186 (sI (x12))) 187 (sB (((x12 : Int) != 0)))) 188 (sB (true))) 189 (sV undef)) 190 (sV undef)) 191 (sB (true))) 192 (sB (true))) 193 (sB (true))) V0 h15) (K (upd (upd (upd (upd (upd (upd (upd (upd (upd (upd (upd (upd (upd (upd (upd (upd (upd (upd (upd (upd (upd (upd (upd (upd (upd (upd (upd (upd (upd (upd (upd (upd (upd (upd (upd (upd (upd (upd (upd (upd (upd (upd (upd (upd (upd (upd (upd (upd (upd (upd (upd (upd (upd (upd (upd (upd e 14 (sB (x14))) 13 (sI (x13))) 12 (sI (x12))) 4 (sV (Value.slice x4a x4n x4c))) 3 (sV (Value.pointer x3))) 143 (sV (Value.pointer x3))) 144 (sI (i3))) 145 (sV (Value.slice x4a x4n x4c))) 146 (sI ((x4n : Nat)))) 147 (sB (((i3 : Int) != (x4n : Nat))))) 148 (sB (false))) 149 (sV (Value.pointer x3))) 150 (sV (Value.slice a6 n7 c8))) 151 (sV (Value.slice x4a x4n x4c))) 152 (sV (Value.slice a11 n12 c13))) 153 (sB (q16))) 154 (sB ((!q16)))) 155 (sB ((!q16)))) 156 (sB (false))) 157 (sB (x14))) 158 (sV (Value.slice x4a x4n x4c))) 159 (sI ((x4n : Nat)))) 160 (sB ((decide (((x4n : Nat) : Int) > 0))))) 161 (sB ((!(x14 == (decide (((x4n : Nat) : Int) > 0))))))) 162 (sB ((!(x14 == (decide (((x4n : Nat) : Int) > 0))))))) 163 (sB (false))) 164 (sB (x14))) 165 (sB (false))) 166 (sV undef)) 167 (sV undef)) 168 (sV undef)) 169 (sV undef)) 170 (sV undef)) 171 (sV undef)) 172 (sV undef)) 173 (sV undef)) 174 (sV undef)) 175 (sV undef)) 176 (sV undef)) 177 (sV undef)) 178 (sV undef)) 179 (sV undef)) 180 (sB (false))) 181 (sB (false))) 182 (sB (false))) 183 (sB (x14))) 184 (sB ((!x14)))) 185 (sB (true))) 186 (sI (x12))) 187 (sB (((x12 : Int) != 0)))) 188 (sB (false))) 189 (sI (x13))) 190 (sB (((x13 : Int) != 0)))) 191 (sB (((x13 : Int) != 0)))) 192 (sB (((x13 : Int) != 0)))) 193 (sB (((x13 : Int) != 0)))) V0 h15)) (K (upd (upd (upd (upd (upd (upd (upd (upd (upd (upd (upd (upd (upd (upd (upd (upd (upd (upd (upd (upd (upd (upd (upd (upd (upd (upd (upd (upd (upd (upd (upd (upd (upd (upd (upd (upd (upd (upd (upd (upd (upd (upd (upd (upd (upd (upd (upd (upd (upd (upd (upd (upd (upd (upd (upd (upd e 14 (sB (x14))) 13 (sI (x13))) 12 (sI (x12))) 4 (sV (Value.slice x4a x4n x4c))) 3 (sV (Value.pointer x3))) 143 (sV (Value.pointer x3))) 144 (sI (i3))) 145 (sV (Value.slice x4a x4n x4c))) 146 (sI ((x4n : Nat)))) 147 (sB (((i3 : Int) != (x4n : Nat))))) 148 (sB (false))) 149 (sV (Value.pointer x3))) 150 (sV (Value.slice a6 n7 c8))) 151 (sV (Value.slice x4a x4n x4c))) 152 (sV (Value.slice a11 n12 c13))) 153 (sB (q16))) 154 (sB ((!q16)))) 155 (sB ((!q16)))) 156 (sB (false))) 157 (sB (x14))) 158 (sV (Value.slice x4a x4n x4c))) 159 (sI ((x4n : Nat)))) 160 (sB ((decide (((x4n : Nat) : Int) > 0))))) 161 (sB ((!(x14 == (decide (((x4n : Nat) : Int) > 0))))))) 162 (sB ((!(x14 == (decide (((x4n : Nat) : Int) > 0))))))) 163 (sB (false))) 164 (sB (x14))) 165 (sB (false))) 166 (sV undef)) 167 (sV undef)) 168 (sV undef)) 169 (sV undef)) 170 (sV undef)) 171 (sV undef)) 172 (sV undef)) 173 (sV undef)) 174 (sV undef)) 175 (sV undef)) 176 (sV undef)) 177 (sV undef)) 178 (sV undef)) 179 (sV undef)) 180 (sB (false))) 181 (sB (false))) 182 (sB (false))) 183 (sB (x14))) 184 (sB ((!x14)))) 185 (sB (false))) 186 (sV undef)) 187 (sV undef)) 188 (sV undef)) 189 (sV undef)) 190 (sV undef)) 191 (sV undef)) 192 (sB (false))) 193 (sB (false))) V0 h15)))))))))))))) := by kernel_rfl
def F7_j6 (x0a : Option Addr) (x0n : Nat) (x0c : Nat) (x3 : Option Addr) (x4a : Option Addr) (x4n : Nat) (x4c : Nat) (x5 : Int) (hp : HP) (I3 : ((Option Addr) × Nat × Nat × Int) → HP → Prop) (K : Value → HP → Prop) : Prop :=
  (CF Try.prog 42 [(Value.pointer x3)] hp fun u_26 h_27 => (tup3V u_26 fun u_28 u_29 u_30 => (intV u_28 .i64 fun i_31 => (intV u_29 .i64 fun i_32 => (boolV u_30 fun q_33 => (CF Try.prog 36 [(Value.pointer x3)] h_27 fun u_34 h_35 => (intV u_34 .i64 fun i_36 => (ite2 ((i_36 : Int) != (x4n : Nat)) (F7_j7 x0a x0n x0c x3 x4a x4n x4c x5 true h_35 I3 K) (CF Try.prog 33 [(Value.pointer x3)] h_35 fun u_37 h_38 => (slcV u_37 fun a_39 n_40 c_41 => (CF Try.prog 41 [(Value.slice x4a x4n x4c)] h_38 fun u_42 h_43 => (slcV u_42 fun a_44 n_45 c_46 => (CF Try.prog 32 [(Value.slice a_39 n_40 c_41), (Value.slice a_44 n_45 c_46)] h_43 fun u_47 h_48 => (boolV u_47 fun q_49 => (ite2 (!q_49) (F7_j7 x0a x0n x0c x3 x4a x4n x4c x5 true h_48 I3 K) (ite2 (!(q_33 == (decide (((x4n : Nat) : Int) > 0)))) (F7_j7 x0a x0n x0c x3 x4a x4n x4c x5 true h_48 I3 K) (ite2 q_33 ((0 ≤ (0 : Int)) ∧ ((0 : Int) < (x4n : Nat)) ∧ (ptrN x4a fun b_50 o_51 => (ldV (HP.cell h_48 b_50 ((o_51 + Int.toNat 0 * 2) + 0)) fun v_52 => (intV v_52 .i64 fun i_53 => (ite2 ((i_31 : Int) != i_53) (F7_j7 x0a x0n x0c x3 x4a x4n x4c x5 true h_48 I3 K) ((0 ≤ (0 : Int)) ∧ ((0 : Int) < (x4n : Nat)) ∧ (ptrN x4a fun b_54 o_55 => (ldV (HP.cell h_48 b_54 ((o_55 + Int.toNat 0 * 2) + 1)) fun v_56 => (intV v_56 .i64 fun i_57 => (ite2 ((i_32 : Int) != i_57) (F7_j7 x0a x0n x0c x3 x4a x4n x4c x5 true h_48 I3 K) (ite2 (!q_33) (ite2 ((i_31 : Int) != 0) (F7_j7 x0a x0n x0c x3 x4a x4n x4c x5 true h_48 I3 K) (F7_j7 x0a x0n x0c x3 x4a x4n x4c x5 ((i_32 : Int) != 0) h_48 I3 K)) (F7_j7 x0a x0n x0c x3 x4a x4n x4c x5 false h_48 I3 K)))))))))))) (ite2 (!q_33) (ite2 ((i_31 : Int) != 0) (F7_j7 x0a x0n x0c x3 x4a x4n x4c x5 true h_48 I3 K) (F7_j7 x0a x0n x0c x3 x4a x4n x4c x5 ((i_32 : Int) != 0) h_48 I3 K)) (F7_j7 x0a x0n x0c x3 x4a x4n x4c x5 false h_48 I3 K)))))))))))))))))))
theorem F7_r15 (e : Env) (k6 : List Value) (hp : HP) (K : Env → PV → HP → Prop) : RW Try.prog 195 [6, 31, 36, 65, 70, 72, 75, 79, 86, 88, 96, 103, 118, 125] (opsAt Try.f7 [1, 1, 1, 1, 0, 1, 0, 0, 1, 0, 0, 1, 1, 1, 1, 0, 0]) (List.range 2) (upd e 6 (SV.priv 6 0)) (upd V0 6 (51, k6)) hp K =
    (ldV (k6)[0]? fun v1 => (intV v1 .u8 fun i2 => (K (upd (upd (upd e 6 (SV.priv 6 0)) 65 (SV.priv 6 0)) 66 (sV (Value.int .u8 i2))) (upd V0 6 (51, k6)) hp))) := by kernel_rfl
theorem F7_r16 (e : Env) (x66 : Int) (k6 : List Value) (hp : HP) (K : Env → PV → HP → Prop) : RW Try.prog 195 [6, 31, 36, 65, 70, 72, 75, 79, 86, 88, 96, 103, 118, 125] (opsAt Try.f7 [1, 1, 1, 1, 0, 1, 0, 0, 1, 0, 0, 1, 1, 1, 1, 0, 1, 0, 0]) (List.range 2) (upd e 66 (sV (Value.int .u8 x66))) (upd V0 6 (51, k6)) hp K =
    (K (upd (upd (upd e 66 (sV (Value.int .u8 x66))) 68 (sB (((x66 : Int) == 0)))) 67 (sB (((x66 : Int) == 0)))) (upd V0 6 (51, k6)) hp) := by kernel_rfl
theorem F7_r17 (e : Env) (x3 : Option Addr) (k6 : List Value) (hp : HP) (K : Env → PV → HP → Prop) : RW Try.prog 195 [6, 31, 36, 65, 70, 72, 75, 79, 86, 88, 96, 103, 118, 125] (opsAt Try.f7 [1, 1, 1, 1, 0, 1, 0, 0, 1, 0, 0, 1, 1, 1, 1, 0, 1, 0, 1, 0, 0]) (List.range 7) (upd (upd e 6 (SV.priv 6 0)) 3 (sV (Value.pointer x3))) (upd V0 6 (51, k6)) hp K =
    (ldV (k6)[1]? fun v1 => (intV v1 .i64 fun i2 => (ldV (k6)[2]? fun v3 => (intV v3 .i64 fun i4 => (CF Try.prog 30 [(Value.pointer x3), (Value.int .i64 i2), (Value.int .i64 i4)] hp fun u5 h6 => (intV u5 .i64 fun i7 => (K (upd (upd (upd (upd (upd (upd (upd (upd (upd e 6 (SV.priv 6 0)) 3 (sV (Value.pointer x3))) 69 (sV (Value.pointer x3))) 70 (SV.priv 6 1)) 71 (sI (i2))) 72 (SV.priv 6 2)) 73 (sI (i4))) 74 (sI (i7))) 10 (sI (i7))) (upd V0 6 (51, k6)) h6))))))) := by kernel_rfl
theorem F7_r18 (e : Env) (x10 : Int) (hp : HP) (K : Env → PV → HP → Prop) : RW Try.prog 195 [6, 31, 36, 65, 70, 72, 75, 79, 86, 88, 96, 103, 118, 125] (opsAt Try.f7 [1, 1, 1, 1, 0, 1, 0, 0, 1, 0, 0, 1, 1, 1, 1, 0, 1, 0, 1, 0, 1, 0, 1, 0, 0, 0]) (List.range 2) (upd e 10 (sI (x10))) V0 hp K =
    (K (upd (upd (upd e 10 (sI (x10))) 83 (sI (x10))) 84 (sB (((x10 : Int) != 1)))) V0 hp) := by kernel_rfl
theorem F7_r19 (e : Env) (hp : HP) (K : Env → PV → HP → Prop) : RW Try.prog 195 [6, 31, 36, 65, 70, 72, 75, 79, 86, 88, 96, 103, 118, 125] (opsAt Try.f7 [1, 1, 1, 1, 0, 1, 0, 0, 1, 0, 0, 1, 1, 1, 1, 0, 1, 0, 1, 0, 1, 0, 1, 0, 0, 1, 0, 0]) (List.range 1) e V0 hp K =
    (K (upd e 2 (sB (false))) V0 hp) := by kernel_rfl
theorem F7_r20 (e : Env) (x4a : Option Addr) (x4n : Nat) (x4c : Nat) (k6 : List Value) (hp : HP) (K : Env → PV → HP → Prop) : RW Try.prog 195 [6, 31, 36, 65, 70, 72, 75, 79, 86, 88, 96, 103, 118, 125] (opsAt Try.f7 [1, 1, 1, 1, 0, 1, 0, 0, 1, 0, 0, 1, 1, 1, 1, 0, 1, 0, 1, 0, 1, 1, 0]) (List.range 7) (upd (upd e 6 (SV.priv 6 0)) 4 (sV (Value.slice x4a x4n x4c))) (upd V0 6 (51, k6)) hp K =
    (ldV (k6)[1]? fun v1 => (intV v1 .i64 fun i2 => (ldV (k6)[2]? fun v3 => (intV v3 .i64 fun i4 => (CF Try.prog 39 [(Value.slice x4a x4n x4c), (Value.int .i64 i2), (Value.int .i64 i4)] hp fun u5 h6 => (slcV u5 fun a7 n8 c9 => (K (upd (upd (upd (upd (upd (upd (upd (upd (upd e 6 (SV.priv 6 0)) 4 (sV (Value.slice x4a x4n x4c))) 85 (sV (Value.slice x4a x4n x4c))) 86 (SV.priv 6 1)) 87 (sI (i2))) 88 (SV.priv 6 2)) 89 (sI (i4))) 90 (sV (Value.slice a7 n8 c9))) 4 (sV (Value.slice a7 n8 c9))) (upd V0 6 (51, k6)) h6))))))) := by kernel_rfl
theorem F7_r21 (e : Env) (x10 : Int) (hp : HP) (K : Env → PV → HP → Prop) : RW Try.prog 195 [6, 31, 36, 65, 70, 72, 75, 79, 86, 88, 96, 103, 118, 125] (opsAt Try.f7 [1, 1, 1, 1, 0, 1, 0, 0, 1, 0, 0, 1, 1, 1, 1, 0, 1, 0, 1, 0, 1, 1, 1, 0]) (List.range 2) (upd e 10 (sI (x10))) V0 hp K =
    (K (upd (upd (upd e 10 (sI (x10))) 91 (sI (x10))) 92 (sB (((x10 : Int) != 0)))) V0 hp) := by kernel_rfl
theorem F7_r22 (e : Env) (hp : HP) (K : Env → PV → HP → Prop) : RW Try.prog 195 [6, 31, 36, 65, 70, 72, 75, 79, 86, 88, 96, 103, 118, 125] (opsAt Try.f7 [1, 1, 1, 1, 0, 1, 0, 0, 1, 0, 0, 1, 1, 1, 1, 0, 1, 0, 1, 0, 1, 1, 1, 1, 0, 0]) (List.range 1) e V0 hp K =
    (K (upd e 2 (sB (false))) V0 hp) := by kernel_rfl
def F7_j8 (x0a : Option Addr) (x0n : Nat) (x0c : Nat) (x3 : Option Addr) (x4a : Option Addr) (x4n : Nat) (x4c : Nat) (x5 : Int) (x10 : Int) (x82 : Bool) (k6 : List Value) (hp : HP) (I3 : ((Option Addr) × Nat × Nat × Int) → HP → Prop) (K : Value → HP → Prop) : Prop :=
  (ite2 x82 (ite2 ((x10 : Int) != 1) (K (Value.bool false) hp) (F7_j6 x0a x0n x0c x3 x4a x4n x4c x5 hp I3 K)) (ldV (k6)[1]? fun v_67 => (intV v_67 .i64 fun i_68 => (ldV (k6)[2]? fun v_69 => (intV v_69 .i64 fun i_70 => (CF Try.prog 39 [(Value.slice x4a x4n x4c), (Value.int .i64 i_68), (Value.int .i64 i_70)] hp fun u_71 h_72 => (slcV u_71 fun a_73 n_74 c_75 => (ite2 ((x10 : Int) != 0) (K (Value.bool false) h_72) (F7_j6 x0a x0n x0c x3 a_73 n_74 c_75 x5 h_72 I3 K)))))))))
theorem F7_r23 (e : Env) (k6 : List Value) (hp : HP) (K : Env → PV → HP → Prop) : RW Try.prog 195 [6, 31, 36, 65, 70, 72, 75, 79, 86, 88, 96, 103, 118, 125] (opsAt Try.f7 [1, 1, 1, 1, 0, 1, 0, 0, 1, 0, 0, 1, 1, 1, 1, 0, 1, 0, 1, 0, 1, 0, 0]) (List.range 8) (upd e 6 (SV.priv 6 0)) (upd V0 6 (51, k6)) hp K =
    (ldV (k6)[2]? fun v1 => (intV v1 .i64 fun i2 => (ite2 (decide ((i2 : Int) < 0)) (K (upd (upd (upd (upd (upd (upd (upd (upd (upd e 6 (SV.priv 6 0)) 75 (SV.priv 6 2)) 76 (sI (i2))) 77 (sB ((decide ((i2 : Int) < 0))))) 78 (sB (true))) 79 (sV undef)) 80 (sV undef)) 81 (sV undef)) 82 (sB (true))) (upd V0 6 (51, k6)) hp) (ldV (k6)[2]? fun v3 => (intV v3 .i64 fun i4 => (K (upd (upd (upd (upd (upd (upd (upd (upd (upd e 6 (SV.priv 6 0)) 75 (SV.priv 6 2)) 76 (sI (i2))) 77 (sB ((decide ((i2 : Int) < 0))))) 78 (sB (false))) 79 (SV.priv 6 2)) 80 (sI (i4))) 81 (sB ((decide ((i4 : Int) > 4611686018427387904))))) 82 (sB ((decide ((i4 : Int) > 4611686018427387904))))) (upd V0 6 (51, k6)) hp)))))) := by kernel_rfl
theorem F7_r24 (e : Env) (x66 : Int) (k6 : List Value) (hp : HP) (K : Env → PV → HP → Prop) : RW Try.prog 195 [6, 31, 36, 65, 70, 72, 75, 79, 86, 88, 96, 103, 118, 125] (opsAt Try.f7 [1, 1, 1, 1, 0, 1, 0, 0, 1, 0, 0, 1, 1, 1, 1, 0, 1, 0, 1, 1, 0]) (List.range 2) (upd e 66 (sV (Value.int .u8 x66))) (upd V0 6 (51, k6)) hp K =
    (K (upd (upd (upd e 66 (sV (Value.int .u8 x66))) 94 (sB (((x66 : Int) == 1)))) 93 (sB (((x66 : Int) == 1)))) (upd V0 6 (51, k6)) hp) := by kernel_rfl
theorem F7_r25 (e : Env) (x3 : Option Addr) (x7 : Int) (k6 : List Value) (hp : HP) (K : Env → PV → HP → Prop) : RW Try.prog 195 [6, 31, 36, 65, 70, 72, 75, 79, 86, 88, 96, 103, 118, 125] (opsAt Try.f7 [1, 1, 1, 1, 0, 1, 0, 0, 1, 0, 0, 1, 1, 1, 1, 0, 1, 0, 1, 1, 1, 0, 0, 0]) (List.range 7) (upd (upd (upd e 7 (sI (x7))) 6 (SV.priv 6 0)) 3 (sV (Value.pointer x3))) (upd V0 6 (51, k6)) hp K =
    (ldV (k6)[1]? fun v1 => (intV v1 .i64 fun i2 => (CF Try.prog 34 [(Value.pointer x3), (Value.int .i64 i2)] hp fun u3 h4 => (boolV u3 fun q5 => (K (upd (upd (upd (upd (upd (upd (upd (upd (upd (upd e 7 (sI (x7))) 6 (SV.priv 6 0)) 3 (sV (Value.pointer x3))) 95 (sV (Value.pointer x3))) 96 (SV.priv 6 1)) 97 (sI (i2))) 98 (sB (q5))) 99 (sI (x7))) 100 (sB ((decide ((x7 : Int) ≥ 0))))) 101 (sB ((!(q5 == (decide ((x7 : Int) ≥ 0))))))) (upd V0 6 (51, k6)) h4))))) := by kernel_rfl
theorem F7_r26 (e : Env) (hp : HP) (K : Env → PV → HP → Prop) : RW Try.prog 195 [6, 31, 36, 65, 70, 72, 75, 79, 86, 88, 96, 103, 118, 125] (opsAt Try.f7 [1, 1, 1, 1, 0, 1, 0, 0, 1, 0, 0, 1, 1, 1, 1, 0, 1, 0, 1, 1, 1, 0, 0, 1, 0, 0]) (List.range 1) e V0 hp K =
    (K (upd e 2 (sB (false))) V0 hp) := by kernel_rfl
theorem F7_r27 (e : Env) (x4a : Option Addr) (x4n : Nat) (x4c : Nat) (k6 : List Value) (hp : HP) (K : Env → PV → HP → Prop) : RW Try.prog 195 [6, 31, 36, 65, 70, 72, 75, 79, 86, 88, 96, 103, 118, 125] (opsAt Try.f7 [1, 1, 1, 1, 0, 1, 0, 0, 1, 0, 0, 1, 1, 1, 1, 0, 1, 0, 1, 1, 1, 0, 1]) (List.range 5) (upd (upd e 6 (SV.priv 6 0)) 4 (sV (Value.slice x4a x4n x4c))) (upd V0 6 (51, k6)) hp K =
    (ldV (k6)[1]? fun v1 => (intV v1 .i64 fun i2 => (CF Try.prog 40 [(Value.slice x4a x4n x4c), (Value.int .i64 i2)] hp fun u3 h4 => (slcV u3 fun a5 n6 c7 => (K (upd (upd (upd (upd (upd (upd (upd e 6 (SV.priv 6 0)) 4 (sV (Value.slice x4a x4n x4c))) 102 (sV (Value.slice x4a x4n x4c))) 103 (SV.priv 6 1)) 104 (sI (i2))) 105 (sV (Value.slice a5 n6 c7))) 4 (sV (Value.slice a5 n6 c7))) (upd V0 6 (51, k6)) h4))))) := by kernel_rfl
theorem F7_r28 (e : Env) (x66 : Int) (k6 : List Value) (hp : HP) (K : Env → PV → HP → Prop) : RW Try.prog 195 [6, 31, 36, 65, 70, 72, 75, 79, 86, 88, 96, 103, 118, 125] (opsAt Try.f7 [1, 1, 1, 1, 0, 1, 0, 0, 1, 0, 0, 1, 1, 1, 1, 0, 1, 0, 1, 1, 1, 1, 0]) (List.range 2) (upd e 66 (sV (Value.int .u8 x66))) (upd V0 6 (51, k6)) hp K =
    (K (upd (upd (upd e 66 (sV (Value.int .u8 x66))) 107 (sB (((x66 : Int) == 2)))) 106 (sB (((x66 : Int) == 2)))) (upd V0 6 (51, k6)) hp) := by kernel_rfl
theorem F7_r29 (e : Env) (x3 : Option Addr) (x4a : Option Addr) (x4n : Nat) (x4c : Nat) (x11 : Int) (k6 : List Value) (hp : HP) (K : Env → PV → HP → Prop) : RW Try.prog 195 [6, 31, 36, 65, 70, 72, 75, 79, 86, 88, 96, 103, 118, 125] (opsAt Try.f7 [1, 1, 1, 1, 0, 1, 0, 0, 1, 0, 0, 1, 1, 1, 1, 0, 1, 0, 1, 1, 1, 1, 1, 0, 1, 1, 0, 0]) (List.range 10) (upd (upd (upd (upd e 11 (sI (x11))) 6 (SV.priv 6 0)) 4 (sV (Value.slice x4a x4n x4c))) 3 (sV (Value.pointer x3))) (upd V0 6 (51, k6)) hp K =
    (ldV (k6)[2]? fun v1 => (intV v1 .i64 fun i2 => (CF Try.prog 31 [(Value.pointer x3), (Value.int .i64 i2)] hp fun u3 h4 => (slcV u3 fun a5 n6 c7 => ((0 ≤ (x11 : Int)) ∧ ((x11 : Int) ≤ (x4c : Nat)) ∧ (CF Try.prog 41 [(Value.slice x4a (Int.toNat x11) x4c)] h4 fun u8 h9 => (slcV u8 fun a10 n11 c12 => (CF Try.prog 32 [(Value.slice a5 n6 c7), (Value.slice a10 n11 c12)] h9 fun u13 h14 => (boolV u13 fun q15 => (K (upd (upd (upd (upd (upd (upd (upd (upd (upd (upd (upd (upd (upd (upd e 11 (sI (x11))) 6 (SV.priv 6 0)) 4 (sV (Value.slice x4a x4n x4c))) 3 (sV (Value.pointer x3))) 124 (sV (Value.pointer x3))) 125 (SV.priv 6 2)) 126 (sI (i2))) 127 (sV (Value.slice a5 n6 c7))) 128 (sV (Value.slice x4a x4n x4c))) 129 (sI (x11))) 130 (sV (Value.slice x4a (Int.toNat x11) x4c))) 131 (sV (Value.slice a10 n11 c12))) 132 (sB (q15))) 133 (sB ((!q15)))) (upd V0 6 (51, k6)) h14)))))))))) := by kernel_rfl
theorem F7_r30 (e : Env) (hp : HP) (K : Env → PV → HP → Prop) : RW Try.prog 195 [6, 31, 36, 65, 70, 72, 75, 79, 86, 88, 96, 103, 118, 125] (opsAt Try.f7 [1, 1, 1, 1, 0, 1, 0, 0, 1, 0, 0, 1, 1, 1, 1, 0, 1, 0, 1, 1, 1, 1, 1, 0, 1, 1, 0, 1, 0, 0]) (List.range 1) e V0 hp K =
    (K (upd e 2 (sB (false))) V0 hp) := by kernel_rfl
theorem F7_r31 (e : Env) (x4a : Option Addr) (x4n : Nat) (x4c : Nat) (x11 : Int) (hp : HP) (K : Env → PV → HP → Prop) : RW Try.prog 195 [6, 31, 36, 65, 70, 72, 75, 79, 86, 88, 96, 103, 118, 125] (opsAt Try.f7 [1, 1, 1, 1, 0, 1, 0, 0, 1, 0, 0, 1, 1, 1, 1, 0, 1, 0, 1, 1, 1, 1, 1, 0, 1, 1, 1]) (List.range 4) (upd (upd e 11 (sI (x11))) 4 (sV (Value.slice x4a x4n x4c))) V0 hp K =
    ((0 ≤ (x11 : Int)) ∧ ((x11 : Int) ≤ (x4n : Nat)) ∧ (x4n ≤ x4c) ∧ (K (upd (upd (upd (upd (upd (upd e 11 (sI (x11))) 4 (sV (Value.slice x4a x4n x4c))) 134 (sV (Value.slice x4a x4n x4c))) 135 (sI (x11))) 136 (sV (Value.slice (sub0 x4a x4c (Int.toNat x11) 2) (x4n - Int.toNat x11) (x4c - Int.toNat x11)))) 4 (sV (Value.slice (sub0 x4a x4c (Int.toNat x11) 2) (x4n - Int.toNat x11) (x4c - Int.toNat x11)))) V0 hp)) := by kernel_rfl
def F7_j10 (x0a : Option Addr) (x0n : Nat) (x0c : Nat) (x3 : Option Addr) (x4a : Option Addr) (x4n : Nat) (x4c : Nat) (x5 : Int) (x11 : Int) (k6 : List Value) (hp : HP) (I3 : ((Option Addr) × Nat × Nat × Int) → HP → Prop) (K : Value → HP → Prop) : Prop :=
  (ldV (k6)[2]? fun v_92 => (intV v_92 .i64 fun i_93 => (CF Try.prog 31 [(Value.pointer x3), (Value.int .i64 i_93)] hp fun u_94 h_95 => (slcV u_94 fun a_96 n_97 c_98 => ((0 ≤ (x11 : Int)) ∧ ((x11 : Int) ≤ (x4c : Nat)) ∧ (CF Try.prog 41 [(Value.slice x4a (Int.toNat x11) x4c)] h_95 fun u_99 h_100 => (slcV u_99 fun a_101 n_102 c_103 => (CF Try.prog 32 [(Value.slice a_96 n_97 c_98), (Value.slice a_101 n_102 c_103)] h_100 fun u_104 h_105 => (boolV u_104 fun q_106 => (ite2 (!q_106) (K (Value.bool false) h_105) ((0 ≤ (x11 : Int)) ∧ ((x11 : Int) ≤ (x4n : Nat)) ∧ (x4n ≤ x4c) ∧ (F7_j6 x0a x0n x0c x3 (sub0 x4a x4c (Int.toNat x11) 2) (x4n - Int.toNat x11) (x4c - Int.toNat x11) x5 h_105 I3 K))))))))))))
theorem F7_r32 (e : Env) (x11 : Int) (k6 : List Value) (hp : HP) (K : Env → PV → HP → Prop) : RW Try.prog 195 [6, 31, 36, 65, 70, 72, 75, 79, 86, 88, 96, 103, 118, 125] (opsAt Try.f7 [1, 1, 1, 1, 0, 1, 0, 0, 1, 0, 0, 1, 1, 1, 1, 0, 1, 0, 1, 1, 1, 1, 1, 0, 1, 0, 0, 0, 1, 0]) (List.range 3) (upd e 11 (sI (x11))) (upd V0 6 (51, k6)) hp K =
    (K (upd (upd (upd (upd e 11 (sI (x11))) 122 (sI (x11))) 123 (sI ((IntKind.wrap .i64 (x11 + 1))))) 11 (sI ((IntKind.wrap .i64 (x11 + 1))))) (upd V0 6 (51, k6)) hp) := by kernel_rfl
def F7_j12 (x0a : Option Addr) (x0n : Nat) (x0c : Nat) (x3 : Option Addr) (x4a : Option Addr) (x4n : Nat) (x4c : Nat) (x5 : Int) (x11 : Int) (x121 : Bool) (k6 : List Value) (hp : HP) (I3 : ((Option Addr) × Nat × Nat × Int) → HP → Prop) (I11 : (Int) → HP → Prop) (K : Value → HP → Prop) : Prop :=
  (ite2 x121 (I11 (IntKind.wrap .i64 (x11 + 1)) hp) (F7_j10 x0a x0n x0c x3 x4a x4n x4c x5 x11 k6 hp I3 K))
theorem F7_r33 (e : Env) (x4a : Option Addr) (x4n : Nat) (x4c : Nat) (x11 : Int) (k6 : List Value) (hp : HP) (K : Env → PV → HP → Prop) : RW Try.prog 195 [6, 31, 36, 65, 70, 72, 75, 79, 86, 88, 96, 103, 118, 125] (opsAt Try.f7 [1, 1, 1, 1, 0, 1, 0, 0, 1, 0, 0, 1, 1, 1, 1, 0, 1, 0, 1, 1, 1, 1, 1, 0, 1, 0, 0, 0, 0, 0]) (List.range 14) (upd (upd (upd e 11 (sI (x11))) 6 (SV.priv 6 0)) 4 (sV (Value.slice x4a x4n x4c))) (upd V0 6 (51, k6)) hp K =
    (ite2 (decide ((x11 : Int) < (x4n : Nat))) ((0 ≤ (x11 : Int)) ∧ ((x11 : Int) < (x4n : Nat)) ∧ (ptrN x4a fun b1 o2 => (ldV (HP.cell hp b1 ((o2 + Int.toNat x11 * 2) + 1)) fun v3 => (intV v3 .i64 fun i4 => (ldV (k6)[2]? fun v5 => (intV v5 .i64 fun i6 => (K (upd (upd (upd (upd (upd (upd (upd (upd (upd (upd (upd (upd (upd (upd (upd (upd (upd e 11 (sI (x11))) 6 (SV.priv 6 0)) 4 (sV (Value.slice x4a x4n x4c))) 108 (sI (x11))) 109 (sV (Value.slice x4a x4n x4c))) 110 (sI ((x4n : Nat)))) 111 (sB ((decide ((x11 : Int) < (x4n : Nat)))))) 112 (sB (true))) 113 (sV (Value.slice x4a x4n x4c))) 114 (sI (x11))) 115 (sV (ptr b1 (o2 + Int.toNat x11 * 2)))) 116 (sV (ptr b1 ((o2 + Int.toNat x11 * 2) + 1)))) 117 (sI (i4))) 118 (SV.priv 6 2)) 119 (sI (i6))) 120 (sB ((decide ((i4 : Int) ≤ i6))))) 121 (sB ((decide ((i4 : Int) ≤ i6))))) (upd V0 6 (51, k6)) hp))))))) (K (upd (upd (upd (upd (upd (upd (upd (upd (upd (upd (upd (upd (upd (upd (upd (upd (upd e 11 (sI (x11))) 6 (SV.priv 6 0)) 4 (sV (Value.slice x4a x4n x4c))) 108 (sI (x11))) 109 (sV (Value.slice x4a x4n x4c))) 110 (sI ((x4n : Nat)))) 111 (sB ((decide ((x11 : Int) < (x4n : Nat)))))) 112 (sB (false))) 113 (sV undef)) 114 (sV undef)) 115 (sV undef)) 116 (sV undef)) 117 (sV undef)) 118 (sV undef)) 119 (sV undef)) 120 (sV undef)) 121 (sB (false))) (upd V0 6 (51, k6)) hp)) := by kernel_rfl
def F7_l11 (x0a : Option Addr) (x0n : Nat) (x0c : Nat) (x3 : Option Addr) (x4a : Option Addr) (x4n : Nat) (x4c : Nat) (x5 : Int) (k6 : List Value) (I3 : ((Option Addr) × Nat × Nat × Int) → HP → Prop) (K : Value → HP → Prop) (I11 : (Int) → HP → Prop) (x11 : Int) (hp : HP) : Prop :=
  (ite2 (decide ((x11 : Int) < (x4n : Nat))) ((0 ≤ (x11 : Int)) ∧ ((x11 : Int) < (x4n : Nat)) ∧ (ptrN x4a fun b_107 o_108 => (ldV (HP.cell hp b_107 ((o_108 + Int.toNat x11 * 2) + 1)) fun v_109 => (intV v_109 .i64 fun i_110 => (ldV (k6)[2]? fun v_111 => (intV v_111 .i64 fun i_112 => (F7_j12 x0a x0n x0c x3 x4a x4n x4c x5 x11 (decide ((i_110 : Int) ≤ i_112)) k6 hp I3 I11 K))))))) (F7_j12 x0a x0n x0c x3 x4a x4n x4c x5 x11 false k6 hp I3 I11 K))
def F7_j9 (x0a : Option Addr) (x0n : Nat) (x0c : Nat) (x3 : Option Addr) (x4a : Option Addr) (x4n : Nat) (x4c : Nat) (x5 : Int) (x11 : Int) (k6 : List Value) (hp : HP) (I3 : ((Option Addr) × Nat × Nat × Int) → HP → Prop) (K : Value → HP → Prop) : Prop :=
  (LoopP (σ := Int) (fun I s hp => F7_l11 x0a x0n x0c x3 x4a x4n x4c x5 k6 I3 K I s hp) x11 hp)
theorem F7_r34 (e : Env) (k6 : List Value) (hp : HP) (K : Env → PV → HP → Prop) : RW Try.prog 195 [6, 31, 36, 65, 70, 72, 75, 79, 86, 88, 96, 103, 118, 125] (opsAt Try.f7 [1, 1, 1, 1, 0, 1, 0, 0, 1, 0, 0, 1, 1, 1, 1, 0, 1, 0, 1, 1, 1, 1, 1, 0, 0]) (List.range 1) e (upd V0 6 (51, k6)) hp K =
    (K (upd e 11 (sI (0))) (upd V0 6 (51, k6)) hp) := by kernel_rfl
def F7_j5 (x0a : Option Addr) (x0n : Nat) (x0c : Nat) (x3 : Option Addr) (x4a : Option Addr) (x4n : Nat) (x4c : Nat) (x5 : Int) (x7 : Int) (x64 : Bool) (k6 : List Value) (hp : HP) (I3 : ((Option Addr) × Nat × Nat × Int) → HP → Prop) (K : Value → HP → Prop) : Prop :=
  (ite2 x64 (K (Value.bool false) hp) (ldV (k6)[0]? fun v_58 => (intV v_58 .u8 fun i_59 => (ite2 ((i_59 : Int) == 0) (ldV (k6)[1]? fun v_60 => (intV v_60 .i64 fun i_61 => (ldV (k6)[2]? fun v_62 => (intV v_62 .i64 fun i_63 => (CF Try.prog 30 [(Value.pointer x3), (Value.int .i64 i_61), (Value.int .i64 i_63)] hp fun u_64 h_65 => (intV u_64 .i64 fun i_66 => (ldV (k6)[2]? fun v_76 => (intV v_76 .i64 fun i_77 => (ite2 (decide ((i_77 : Int) < 0)) (F7_j8 x0a x0n x0c x3 x4a x4n x4c x5 i_66 true k6 h_65 I3 K) (ldV (k6)[2]? fun v_78 => (intV v_78 .i64 fun i_79 => (F7_j8 x0a x0n x0c x3 x4a x4n x4c x5 i_66 (decide ((i_79 : Int) > 4611686018427387904)) k6 h_65 I3 K)))))))))))) (ite2 ((i_59 : Int) == 1) (ldV (k6)[1]? fun v_80 => (intV v_80 .i64 fun i_81 => (CF Try.prog 34 [(Value.pointer x3), (Value.int .i64 i_81)] hp fun u_82 h_83 => (boolV u_82 fun q_84 => (ite2 (!(q_84 == (decide ((x7 : Int) ≥ 0)))) (K (Value.bool false) h_83) (ldV (k6)[1]? fun v_85 => (intV v_85 .i64 fun i_86 => (CF Try.prog 40 [(Value.slice x4a x4n x4c), (Value.int .i64 i_86)] h_83 fun u_87 h_88 => (slcV u_87 fun a_89 n_90 c_91 => (F7_j6 x0a x0n x0c x3 a_89 n_90 c_91 x5 h_88 I3 K)))))))))) (ite2 ((i_59 : Int) == 2) (F7_j9 x0a x0n x0c x3 x4a x4n x4c x5 0 k6 hp I3 K) (F7_j6 x0a x0n x0c x3 x4a x4n x4c x5 hp I3 K)))))))
theorem F7_r35 (e : Env) (x4a : Option Addr) (x4n : Nat) (x4c : Nat) (x7 : Int) (x8 : Int) (x9 : Bool) (k6 : List Value) (hp : HP) (K : Env → PV → HP → Prop) : RW Try.prog 195 [6, 31, 36, 65, 70, 72, 75, 79, 86, 88, 96, 103, 118, 125] (opsAt Try.f7 [1, 1, 1, 1, 0, 1, 0, 0, 1, 0, 0, 1, 1, 1, 0, 0]) (List.range 24) (upd (upd (upd (upd e 9 (sB (x9))) 8 (sI (x8))) 7 (sI (x7))) 4 (sV (Value.slice x4a x4n x4c))) (upd V0 6 (51, k6)) hp K =
    (ite2 (!(x9 == (decide ((x7 : Int) ≥ 0)))) (K (upd (upd (upd (upd (upd (upd (upd (upd (upd (upd (upd (upd (upd (upd (upd (upd (upd (upd (upd (upd (upd (upd (upd (upd (upd (upd (upd (upd e 9 (sB (x9))) 8 (sI (x8))) 7 (sI (x7))) 4 (sV (Value.slice x4a x4n x4c))) 41 (sB (x9))) 42 (sI (x7))) 43 (sB ((decide ((x7 : Int) ≥ 0))))) 44 (sB ((!(x9 == (decide ((x7 : Int) ≥ 0))))))) 45 (sB (true))) 46 (sV undef)) 47 (sV undef)) 48 (sV undef)) 49 (sV undef)) 50 (sV undef)) 51 (sV undef)) 52 (sV undef)) 53 (sV undef)) 54 (sV undef)) 55 (sV undef)) 56 (sB (true))) 57 (sB (true))) 58 (sV undef)) 59 (sV undef)) 60 (sV undef)) 61 (sV undef)) 62 (sV undef)) 63 (sV undef)) 64 (sB (true))) (upd V0 6 (51, k6)) hp) (ite2 x9 ((0 ≤ (x7 : Int)) ∧ ((x7 : Int) < (x4n : Nat)) ∧ (ptrN x4a fun b1 o2 => (ldV (HP.cell hp b1 ((o2 + Int.toNat x7 * 2) + 1)) fun v3 => (intV v3 .i64 fun i4 => (ite2 ((x8 : Int) != i4) (K (upd (upd (upd (upd (upd (upd (upd (upd (upd (upd (upd (upd (upd (upd (upd (upd (upd (upd (upd (upd (upd (upd (upd (upd (upd (upd (upd (upd e 9 (sB (x9))) 8 (sI (x8))) 7 (sI (x7))) 4 (sV (Value.slice x4a x4n x4c))) 41 (sB (x9))) 42 (sI (x7))) 43 (sB ((decide ((x7 : Int) ≥ 0))))) 44 (sB ((!(x9 == (decide ((x7 : Int) ≥ 0))))))) 45 (sB (false))) 46 (sB (x9))) 47 (sB (true))) 48 (sI (x8))) 49 (sV (Value.slice x4a x4n x4c))) 50 (sI (x7))) 51 (sV (ptr b1 (o2 + Int.toNat x7 * 2)))) 52 (sV (ptr b1 ((o2 + Int.toNat x7 * 2) + 1)))) 53 (sI (i4))) 54 (sB (((x8 : Int) != i4)))) 55 (sB (((x8 : Int) != i4)))) 56 (sB (((x8 : Int) != i4)))) 57 (sB (true))) 58 (sV undef)) 59 (sV undef)) 60 (sV undef)) 61 (sV undef)) 62 (sV undef)) 63 (sV undef)) 64 (sB (true))) (upd V0 6 (51, k6)) hp) (ite2 (!x9) (K (upd (upd (upd (upd (upd (upd (upd (upd (upd (upd (upd (upd (upd (upd (upd (upd (upd (upd (upd (upd (upd (upd (upd (upd (upd (upd (upd (upd e 9 (sB (x9))) 8 (sI (x8))) 7 (sI (x7))) 4 (sV (Value.slice x4a x4n x4c))) 41 (sB (x9))) 42 (sI (x7))) 43 (sB ((decide ((x7 : Int) ≥ 0))))) 44 (sB ((!(x9 == (decide ((x7 : Int) ≥ 0))))))) 45 (sB (false))) 46 (sB (x9))) 47 (sB (true))) 48 (sI (x8))) 49 (sV (Value.slice x4a x4n x4c))) 50 (sI (x7))) 51 (sV (ptr b1 (o2 + Int.toNat x7 * 2)))) 52 (sV (ptr b1 ((o2 + Int.toNat x7 * 2) + 1)))) 53 (sI (i4))) 54 (sB (((x8 : Int) != i4)))) 55 (sB (((x8 : Int) != i4)))) 56 (sB (((x8 : Int) != i4)))) 57 (sB (false))) 58 (sB (x9))) 59 (sB ((!x9)))) 60 (sB (true))) 61 (sI (x8))) 62 (sB (((x8 : Int) != 0)))) 63 (sB (((x8 : Int) != 0)))) 64 (sB (((x8 : Int) != 0)))) (upd V0 6 (51, k6)) hp) (K (upd (upd (upd (upd (upd (upd (upd (upd (upd (upd (upd (upd (upd (upd (upd (upd (upd (upd (upd (upd (upd (upd (upd (upd (upd (upd (upd (upd e 9 (sB (x9))) 8 (sI (x8))) 7 (sI (x7))) 4 (sV (Value.slice x4a x4n x4c))) 41 (sB (x9))) 42 (sI (x7))) 43 (sB ((decide ((x7 : Int) ≥ 0))))) 44 (sB ((!(x9 == (decide ((x7 : Int) ≥ 0))))))) 45 (sB (false))) 46 (sB (x9))) 47 (sB (true))) 48 (sI (x8))) 49 (sV (Value.slice x4a x4n x4c))) 50 (sI (x7))) 51 (sV (ptr b1 (o2 + Int.toNat x7 * 2)))) 52 (sV (ptr b1 ((o2 + Int.toNat x7 * 2) + 1)))) 53 (sI (i4))) 54 (sB (((x8 : Int) != i4)))) 55 (sB (((x8 : Int) != i4)))) 56 (sB (((x8 : Int) != i4)))) 57 (sB (false))) 58 (sB (x9))) 59 (sB ((!x9)))) 60 (sB (false))) 61 (sV undef)) 62 (sV undef)) 63 (sB (false))) 64 (sB (false))) (upd V0 6 (51, k6)) hp))))))) (ite2 (!x9) (K (upd (upd (upd (upd (upd (upd (upd (upd (upd (upd (upd (upd (upd (upd (upd (upd (upd (upd (upd (upd (upd (upd (upd (upd (upd (upd (upd (upd e 9 (sB (x9))) 8 (sI (x8))) 7 (sI (x7))) 4 (sV (Value.slice x4a x4n x4c))) 41 (sB (x9))) 42 (sI (x7))) 43 (sB ((decide ((x7 : Int) ≥ 0))))) 44 (sB ((!(x9 == (decide ((x7 : Int) ≥ 0))))))) 45 (sB (false))) 46 (sB (x9))) 47 (sB (false))) 48 (sV undef)) 49 (sV undef)) 50 (sV undef)) 51 (sV undef)) 52 (sV undef)) 53 (sV undef)) 54 (sV undef)) 55 (sB (false))) 56 (sB (false))) 57 (sB (false))) 58 (sB (x9))) 59 (sB ((!x9)))) 60 (sB (true))) 61 (sI (x8))) 62 (sB (((x8 : Int) != 0)))) 63 (sB (((x8 : Int) != 0)))) 64 (sB (((x8 : Int) != 0)))) (upd V0 6 (51, k6)) hp) (K (upd (upd (upd (upd (upd (upd (upd (upd (upd (upd (upd (upd (upd (upd (upd (upd (upd (upd (upd (upd (upd (upd (upd (upd (upd (upd (upd (upd e 9 (sB (x9))) 8 (sI (x8))) 7 (sI (x7))) 4 (sV (Value.slice x4a x4n x4c))) 41 (sB (x9))) 42 (sI (x7))) 43 (sB ((decide ((x7 : Int) ≥ 0))))) 44 (sB ((!(x9 == (decide ((x7 : Int) ≥ 0))))))) 45 (sB (false))) 46 (sB (x9))) 47 (sB (false))) 48 (sV undef)) 49 (sV undef)) 50 (sV undef)) 51 (sV undef)) 52 (sV undef)) 53 (sV undef)) 54 (sV undef)) 55 (sB (false))) 56 (sB (false))) 57 (sB (false))) 58 (sB (x9))) 59 (sB ((!x9)))) 60 (sB (false))) 61 (sV undef)) 62 (sV undef)) 63 (sB (false))) 64 (sB (false))) (upd V0 6 (51, k6)) hp)))) := by kernel_rfl
def F7_l3 (x0a : Option Addr) (x0n : Nat) (x0c : Nat) (x3 : Option Addr) (K : Value → HP → Prop) (I3 : ((Option Addr) × Nat × Nat × Int) → HP → Prop) (x4a : Option Addr) (x4n : Nat) (x4c : Nat) (x5 : Int) (hp : HP) : Prop :=
  (ite2 (decide ((x5 : Int) < (x0n : Nat))) ((0 ≤ (x5 : Int)) ∧ ((x5 : Int) < (x0n : Nat)) ∧ (ptrN x0a fun b_10 o_11 => (ldL (HP.cellN hp b_10 (o_11 + Int.toNat x5 * 3) 3) fun l_12 => (if List.length l_12 = 3 then (if List.all l_12 one = true then (if 0 + List.length l_12 ≤ List.length [(Value.int .u8 0), (Value.int .i64 0), (Value.int .i64 0)] then (ldV ((splice [(Value.int .u8 0), (Value.int .i64 0), (Value.int .i64 0)] 0 l_12))[1]? fun v_13 => (intV v_13 .i64 fun i_14 => (CF Try.prog 37 [(Value.slice x4a x4n x4c), (Value.int .i64 i_14)] hp fun u_15 h_16 => (intV u_15 .i64 fun i_17 => (ldV ((splice [(Value.int .u8 0), (Value.int .i64 0), (Value.int .i64 0)] 0 l_12))[1]? fun v_18 => (intV v_18 .i64 fun i_19 => (CF Try.prog 38 [(Value.pointer x3), (Value.int .i64 i_19)] h_16 fun u_20 h_21 => (tup2V u_20 fun u_22 u_23 => (intV u_22 .i64 fun i_24 => (boolV u_23 fun q_25 => (ite2 (!(q_25 == (decide ((i_17 : Int) ≥ 0)))) (F7_j5 x0a x0n x0c x3 x4a x4n x4c x5 i_17 true (splice [(Value.int .u8 0), (Value.int .i64 0), (Value.int .i64 0)] 0 l_12) h_21 I3 K) (ite2 q_25 ((0 ≤ (i_17 : Int)) ∧ ((i_17 : Int) < (x4n : Nat)) ∧ (ptrN x4a fun b_113 o_114 => (ldV (HP.cell h_21 b_113 ((o_114 + Int.toNat i_17 * 2) + 1)) fun v_115 => (intV v_115 .i64 fun i_116 => (ite2 ((i_24 : Int) != i_116) (F7_j5 x0a x0n x0c x3 x4a x4n x4c x5 i_17 true (splice [(Value.int .u8 0), (Value.int .i64 0), (Value.int .i64 0)] 0 l_12) h_21 I3 K) (ite2 (!q_25) (F7_j5 x0a x0n x0c x3 x4a x4n x4c x5 i_17 ((i_24 : Int) != 0) (splice [(Value.int .u8 0), (Value.int .i64 0), (Value.int .i64 0)] 0 l_12) h_21 I3 K) (F7_j5 x0a x0n x0c x3 x4a x4n x4c x5 i_17 false (splice [(Value.int .u8 0), (Value.int .i64 0), (Value.int .i64 0)] 0 l_12) h_21 I3 K))))))) (ite2 (!q_25) (F7_j5 x0a x0n x0c x3 x4a x4n x4c x5 i_17 ((i_24 : Int) != 0) (splice [(Value.int .u8 0), (Value.int .i64 0), (Value.int .i64 0)] 0 l_12) h_21 I3 K) (F7_j5 x0a x0n x0c x3 x4a x4n x4c x5 i_17 false (splice [(Value.int .u8 0), (Value.int .i64 0), (Value.int .i64 0)] 0 l_12) h_21 I3 K)))))))))))))) else False) else False) else False)))) (F7_j1  hp  K))
def F7_j2 (x0a : Option Addr) (x0n : Nat) (x0c : Nat) (x3 : Option Addr) (x4a : Option Addr) (x4n : Nat) (x4c : Nat) (x5 : Int) (hp : HP) (K : Value → HP → Prop) : Prop :=
  (LoopP (σ := (Option Addr) × Nat × Nat × Int) (fun I s hp => F7_l3 x0a x0n x0c x3  K I s.1 s.2.1 s.2.2.1 s.2.2.2 hp) (x4a, x4n, x4c, x5) hp)
theorem F7_r36 (e : Env) (hp : HP) (K : Env → PV → HP → Prop) : RW Try.prog 195 [6, 31, 36, 65, 70, 72, 75, 79, 86, 88, 96, 103, 118, 125] (opsAt Try.f7 [1, 1, 1, 1, 0, 0]) (List.range 1) e V0 hp K =
    (K (upd e 5 (sI (0))) V0 hp) := by kernel_rfl
def F7 (x0a : Option Addr) (x0n : Nat) (x0c : Nat) (hp : HP) (K : Value → HP → Prop) : Prop :=
  (ite2 (decide (((x0n : Nat) : Int) > 200)) (CF Try.prog 28 [] hp fun u_1 h_2 => (boolV u_1 fun q_3 => (K (Value.bool q_3) h_2))) (CF Try.prog 29 [] hp fun u_4 h_5 => (ptrV u_4 fun p_6 => (F7_j2 x0a x0n x0c p_6 none 0 0 0 h_5  K))))
noncomputable def F7_code : Code := (.seq (.region 0 (opsAt Try.f7 [0]) false) (.seq (.seq (.region 1 (opsAt Try.f7 [1, 0, 0]) false) (.cond (.tmp 17) (.seq (.region 2 (opsAt Try.f7 [1, 0, 1, 0, 0]) false) .ret) .skip)) (.seq (.region 3 (opsAt Try.f7 [1, 1, 0]) false) (.seq (.region 4 (opsAt Try.f7 [1, 1, 1, 0]) false) (.seq (.seq (.region 5 (opsAt Try.f7 [1, 1, 1, 1, 0, 0]) false) (.block 0 (.loop (.seq (.seq (.region 6 (opsAt Try.f7 [1, 1, 1, 1, 0, 1, 0, 0, 0, 0]) false) (.cond (.tmp 23) .skip (.exit 0))) (.seq (.block 1 (.seq (.region 8 (opsAt Try.f7 [1, 1, 1, 1, 0, 1, 0, 0, 1, 0, 0, 0]) false) (.seq (.region 9 (opsAt Try.f7 [1, 1, 1, 1, 0, 1, 0, 0, 1, 0, 0, 1, 0]) false) (.seq (.region 10 (opsAt Try.f7 [1, 1, 1, 1, 0, 1, 0, 0, 1, 0, 0, 1, 1, 0]) false) (.seq (.seq (.region 11 (opsAt Try.f7 [1, 1, 1, 1, 0, 1, 0, 0, 1, 0, 0, 1, 1, 1, 0, 0]) false) (.cond (.tmp 64) (.seq (.region 12 (opsAt Try.f7 [1, 1, 1, 1, 0, 1, 0, 0, 1, 0, 0, 1, 1, 1, 0, 1, 0, 0]) false) .ret) .skip)) (.seq (.seq (.region 13 (opsAt Try.f7 [1, 1, 1, 1, 0, 1, 0, 0, 1, 0, 0, 1, 1, 1, 1, 0, 0]) false) (.block 2 (.seq (.region 14 (opsAt Try.f7 [1, 1, 1, 1, 0, 1, 0, 0, 1, 0, 0, 1, 1, 1, 1, 0, 1, 0, 0]) false) (.cond (.tmp 67) (.seq (.region 15 (opsAt Try.f7 [1, 1, 1, 1, 0, 1, 0, 0, 1, 0, 0, 1, 1, 1, 1, 0, 1, 0, 1, 0, 0]) false) (.seq (.seq (.region 16 (opsAt Try.f7 [1, 1, 1, 1, 0, 1, 0, 0, 1, 0, 0, 1, 1, 1, 1, 0, 1, 0, 1, 0, 1, 0, 0]) false) (.cond (.tmp 82) (.seq (.seq (.region 17 (opsAt Try.f7 [1, 1, 1, 1, 0, 1, 0, 0, 1, 0, 0, 1, 1, 1, 1, 0, 1, 0, 1, 0, 1, 0, 1, 0, 0, 0]) false) (.cond (.tmp 84) (.seq (.region 18 (opsAt Try.f7 [1, 1, 1, 1, 0, 1, 0, 0, 1, 0, 0, 1, 1, 1, 1, 0, 1, 0, 1, 0, 1, 0, 1, 0, 0, 1, 0, 0]) false) .ret) .skip)) (.exit 2)) .skip)) (.seq (.region 19 (opsAt Try.f7 [1, 1, 1, 1, 0, 1, 0, 0, 1, 0, 0, 1, 1, 1, 1, 0, 1, 0, 1, 0, 1, 1, 0]) false) (.seq (.region 20 (opsAt Try.f7 [1, 1, 1, 1, 0, 1, 0, 0, 1, 0, 0, 1, 1, 1, 1, 0, 1, 0, 1, 0, 1, 1, 1, 0]) false) (.cond (.tmp 92) (.seq (.region 21 (opsAt Try.f7 [1, 1, 1, 1, 0, 1, 0, 0, 1, 0, 0, 1, 1, 1, 1, 0, 1, 0, 1, 0, 1, 1, 1, 1, 0, 0]) false) .ret) .skip))))) (.seq (.region 22 (opsAt Try.f7 [1, 1, 1, 1, 0, 1, 0, 0, 1, 0, 0, 1, 1, 1, 1, 0, 1, 0, 1, 1, 0]) false) (.cond (.tmp 93) (.seq (.seq (.region 23 (opsAt Try.f7 [1, 1, 1, 1, 0, 1, 0, 0, 1, 0, 0, 1, 1, 1, 1, 0, 1, 0, 1, 1, 1, 0, 0, 0]) false) (.cond (.tmp 101) (.seq (.region 24 (opsAt Try.f7 [1, 1, 1, 1, 0, 1, 0, 0, 1, 0, 0, 1, 1, 1, 1, 0, 1, 0, 1, 1, 1, 0, 0, 1, 0, 0]) false) .ret) .skip)) (.region 25 (opsAt Try.f7 [1, 1, 1, 1, 0, 1, 0, 0, 1, 0, 0, 1, 1, 1, 1, 0, 1, 0, 1, 1, 1, 0, 1]) false)) (.seq (.region 26 (opsAt Try.f7 [1, 1, 1, 1, 0, 1, 0, 0, 1, 0, 0, 1, 1, 1, 1, 0, 1, 0, 1, 1, 1, 1, 0]) false) (.cond (.tmp 106) (.seq (.region 27 (opsAt Try.f7 [1, 1, 1, 1, 0, 1, 0, 0, 1, 0, 0, 1, 1, 1, 1, 0, 1, 0, 1, 1, 1, 1, 1, 0, 0]) false) (.seq (.block 3 (.loop (.seq (.seq (.region 28 (opsAt Try.f7 [1, 1, 1, 1, 0, 1, 0, 0, 1, 0, 0, 1, 1, 1, 1, 0, 1, 0, 1, 1, 1, 1, 1, 0, 1, 0, 0, 0, 0, 0]) true) (.cond (.tmp 121) .skip (.exit 3))) (.block 4 (.region 29 (opsAt Try.f7 [1, 1, 1, 1, 0, 1, 0, 0, 1, 0, 0, 1, 1, 1, 1, 0, 1, 0, 1, 1, 1, 1, 1, 0, 1, 0, 0, 0, 1, 0]) false))))) (.seq (.seq (.region 30 (opsAt Try.f7 [1, 1, 1, 1, 0, 1, 0, 0, 1, 0, 0, 1, 1, 1, 1, 0, 1, 0, 1, 1, 1, 1, 1, 0, 1, 1, 0, 0]) true) (.cond (.tmp 133) (.seq (.region 31 (opsAt Try.f7 [1, 1, 1, 1, 0, 1, 0, 0, 1, 0, 0, 1, 1, 1, 1, 0, 1, 0, 1, 1, 1, 1, 1, 0, 1, 1, 0, 1, 0, 0]) false) .ret) .skip)) (.region 32 (opsAt Try.f7 [1, 1, 1, 1, 0, 1, 0, 0, 1, 0, 0, 1, 1, 1, 1, 0, 1, 0, 1, 1, 1, 1, 1, 0, 1, 1, 1]) false)))) .skip)))))))) (.seq (.region 33 (opsAt Try.f7 [1, 1, 1, 1, 0, 1, 0, 0, 1, 0, 0, 1, 1, 1, 1, 1, 0]) false) (.seq (.region 34 (opsAt Try.f7 [1, 1, 1, 1, 0, 1, 0, 0, 1, 0, 0, 1, 1, 1, 1, 1, 1, 0]) false) (.cond (.tmp 193) (.seq (.region 35 (opsAt Try.f7 [1, 1, 1, 1, 0, 1, 0, 0, 1, 0, 0, 1, 1, 1, 1, 1, 1, 1, 0, 0]) false) .ret) .skip))))))))) (.region 7 (opsAt Try.f7 [1, 1, 1, 1, 0, 1, 0, 0, 1, 1]) false)))))) (.seq (.region 36 (opsAt Try.f7 [1, 1, 1, 1, 1, 0]) false) .ret))))))
theorem F7_body : Try.f7.body = some F7_code := by kernel_rfl
theorem F7_ok (x0a : Option Addr) (x0n : Nat) (x0c : Nat) (hp : HP) (K : Value → HP → Prop) (h : F7 x0a x0n x0c hp K) : CF Try.prog 7 [(Value.slice x0a x0n x0c)] hp K := by
 refine .inl ⟨by kernel_rfl, AC.intro (N := 195) Try.func7 F7_body rfl (Nat.le_of_ble_eq_true rfl) ?_⟩
 unfold F7 at h
 unfold F7_code
 refine AWP.seq' ?_
 refine AWP.rgn (F7_r0 (upd E0 0 (sV (Value.slice x0a x0n x0c)))  hp _) ?_ (Rv 0 _ (Rn)) (Sc rfl (Sn)) (Sn)
 refine AWP.seq' ?_
 refine AWP.seq' ?_
 refine AWP.rgn (F7_r1 E0 x0a x0n x0c hp _) ?_ (Rv 0 _ (Rn)) (Sc rfl (Sn)) (Sn)
 refine AWP.cond (t := (decide (((x0n : Nat) : Int) > 200))) rfl (fun e => ?_) (fun e => ?_)
 ·replace h := ite2_t h e
  refine AWP.seq' ?_
  refine AWP.rgn (F7_r2 E0  hp _) ?_ (Rn) (Sn) (Sn)
  refine CF_mono h (fun u_1 h_2 h => ?_)
  refine boolV_mono h (fun q_3 h => ?_)
  refine AWP.ret ?_
  exact h
 ·replace h := ite2_f h e
  refine AWP.skip ?_
  refine AWP.seq' ?_
  refine AWP.rgn (F7_r3 (upd E0 0 (sV (Value.slice x0a x0n x0c)))  hp _) ?_ (Rv 0 _ (Rn)) (Sc rfl (Sn)) (Sn)
  refine CF_mono h (fun u_4 h_5 h => ?_)
  refine ptrV_mono h (fun p_6 h => ?_)
  refine AWP.seq' ?_
  refine AWP.rgn (F7_r4 (upd (upd E0 3 (sV (Value.pointer p_6))) 0 (sV (Value.slice x0a x0n x0c)))  h_5 _) ?_ (Rv 0 _ (Rv 3 _ (Rn))) (Sc rfl (Sc rfl (Sn))) (Sn)
  refine AWP.seq (fun env pv hp => Sub E0 env ∧ Sub V0 pv ∧ (F7_j1  hp  K)) ?_ ?_
  ·refine AWP.seq (fun env pv hp => ∃ (x0a : Option Addr) (x0n : Nat) (x0c : Nat) (x3 : Option Addr) (x4a : Option Addr) (x4n : Nat) (x4c : Nat) (x5 : Int), Sub (upd (upd (upd (upd E0 5 (sI (x5))) 4 (sV (Value.slice x4a x4n x4c))) 3 (sV (Value.pointer x3))) 0 (sV (Value.slice x0a x0n x0c))) env ∧ Sub V0 pv ∧ (F7_j2 x0a x0n x0c x3 x4a x4n x4c x5 hp  K)) ?_ ?_
   ·refine AWP.rgn (F7_r36 (upd (upd (upd E0 4 (sV (Value.slice none 0 0))) 3 (sV (Value.pointer p_6))) 0 (sV (Value.slice x0a x0n x0c)))  h_5 _) ?_ (Rv 0 _ (Rv 3 _ (Rv 4 _ (Rn)))) (Sc rfl (Sc rfl (Sc rfl (Sn)))) (Sn)
    exact ⟨x0a, x0n, x0c, p_6, none, 0, 0, 0, (Sc rfl (Sc rfl (Sc rfl (Sc rfl (Sn))))), (Sn), h⟩
   ·rintro env pv hp ⟨x0a, x0n, x0c, x3, x4a, x4n, x4c, x5, he, hv, h⟩
    refine AWP.sub (env' := (upd (upd (upd (upd E0 5 (sI (x5))) 4 (sV (Value.slice x4a x4n x4c))) 3 (sV (Value.pointer x3))) 0 (sV (Value.slice x0a x0n x0c)))) (pv' := V0) ?_ (Rv 0 _ (Rv 3 _ (Rv 4 _ (Rv 5 _ (Rn))))) he hv (HSub.refl _)
    clear he hv
    unfold F7_j2 at h
    refine AWP.block ?_
    refine AWP.loop (σ := (Option Addr) × Nat × Nat × Int) (fun I s hp => F7_l3 x0a x0n x0c x3  K I s.1 s.2.1 s.2.2.1 s.2.2.2 hp) (fun s => (upd (upd (upd (upd E0 5 (sI (s.2.2.2))) 4 (sV (Value.slice s.1 s.2.1 s.2.2.1))) 3 (sV (Value.pointer x3))) 0 (sV (Value.slice x0a x0n x0c)))) (fun s => V0) (x4a, x4n, x4c, x5) h (fun s => (Rv 0 _ (Rv 3 _ (Rv 4 _ (Rv 5 _ (Rn)))))) (Sc rfl (Sc rfl (Sc rfl (Sc rfl (Sn))))) (Sn) ?_
    intro I3 s hp h
    obtain ⟨x4a, x4n, x4c, x5⟩ := s
    replace h : F7_l3 x0a x0n x0c x3  K I3 x4a x4n x4c x5 hp := h
    unfold F7_l3 at h
    refine AWP.seq' ?_
    refine AWP.seq' ?_
    refine AWP.rgn (F7_r6 (upd (upd E0 4 (sV (Value.slice x4a x4n x4c))) 3 (sV (Value.pointer x3))) x0a x0n x0c x5 hp _) ?_ (Rv 0 _ (Rv 5 _ (Rv 3 _ (Rv 4 _ (Rn))))) (Sc rfl (Sc rfl (Sc rfl (Sc rfl (Sn))))) (Sn)
    refine AWP.cond (t := (decide ((x5 : Int) < (x0n : Nat)))) rfl (fun e => ?_) (fun e => ?_)
    ·replace h := ite2_t h e
     refine AWP.skip ?_
     refine AWP.seq (fun env pv hp => ∃ (x4a : Option Addr) (x4n : Nat) (x4c : Nat) (x5 : Int), Sub (upd (upd (upd (upd E0 5 (sI (x5))) 4 (sV (Value.slice x4a x4n x4c))) 3 (sV (Value.pointer x3))) 0 (sV (Value.slice x0a x0n x0c))) env ∧ Sub V0 pv ∧ (F7_j4 x0a x0n x0c x3 x4a x4n x4c x5 hp I3 K)) ?_ ?_
     ·refine AWP.block ?_
      refine AWP.seq' ?_
      refine AWP.rgn (F7_r8 (upd (upd E0 4 (sV (Value.slice x4a x4n x4c))) 3 (sV (Value.pointer x3))) x0a x0n x0c x5 hp _) ?_ (Rv 0 _ (Rv 5 _ (Rv 3 _ (Rv 4 _ (Rn))))) (Sc rfl (Sc rfl (Sc rfl (Sc rfl (Sn))))) (Sn)
      refine ⟨h.1, h.2.1, ?_⟩
      replace h := h.2.2
      refine ptrN_mono h (fun b_10 o_11 h => ?_)
      refine ldL_mono h (fun l_12 h => ?_)
      refine if_mono h (fun h => ?_)
      refine if_mono h (fun h => ?_)
      refine if_mono h (fun h => ?_)
      refine AWP.seq' ?_
      refine AWP.rgn (F7_r9 (upd (upd (upd E0 5 (sI (x5))) 3 (sV (Value.pointer x3))) 0 (sV (Value.slice x0a x0n x0c))) x4a x4n x4c (splice [(Value.int .u8 0), (Value.int .i64 0), (Value.int .i64 0)] 0 l_12) hp _) ?_ (Rv 4 _ (RefOk.p 6 6 0 (Rv 0 _ (Rv 3 _ (Rv 5 _ (Rn)))) (fun e => by cases e))) (Sc rfl (Sc rfl (Sc rfl (Sc rfl (Sc rfl (Sn)))))) (Sc rfl (Sn))
      refine ldV_mono h (fun v_13 h => ?_)
      refine intV_mono h (fun i_14 h => ?_)
      refine CF_mono h (fun u_15 h_16 h => ?_)
      refine intV_mono h (fun i_17 h => ?_)
      refine AWP.seq' ?_
      refine AWP.rgn (F7_r10 (upd (upd (upd (upd E0 7 (sI (i_17))) 5 (sI (x5))) 4 (sV (Value.slice x4a x4n x4c))) 0 (sV (Value.slice x0a x0n x0c))) x3 (splice [(Value.int .u8 0), (Value.int .i64 0), (Value.int .i64 0)] 0 l_12) h_16 _) ?_ (Rv 3 _ (RefOk.p 6 6 0 (Rv 0 _ (Rv 4 _ (Rv 5 _ (Rv 7 _ (Rn))))) (fun e => by cases e))) (Sc rfl (Sc rfl (Sc rfl (Sc rfl (Sc rfl (Sc rfl (Sn))))))) (Sc rfl (Sn))
      refine ldV_mono h (fun v_18 h => ?_)
      refine intV_mono h (fun i_19 h => ?_)
      refine CF_mono h (fun u_20 h_21 h => ?_)
      refine tup2V_mono h (fun u_22 u_23 h => ?_)
      refine intV_mono h (fun i_24 h => ?_)
      refine boolV_mono h (fun q_25 h => ?_)
      refine AWP.seq' ?_
      refine AWP.seq (fun env pv hp => ∃ (x4a : Option Addr) (x4n : Nat) (x4c : Nat) (x5 : Int) (x7 : Int) (x64 : Bool) (k6 : List Value), Sub (upd (upd (upd (upd (upd (upd (upd E0 64 (sB (x64))) 7 (sI (x7))) 6 (SV.priv 6 0)) 5 (sI (x5))) 4 (sV (Value.slice x4a x4n x4c))) 3 (sV (Value.pointer x3))) 0 (sV (Value.slice x0a x0n x0c))) env ∧ Sub (upd V0 6 (51, k6)) pv ∧ (F7_j5 x0a x0n x0c x3 x4a x4n x4c x5 x7 x64 k6 hp I3 K)) ?_ ?_
      ·refine AWP.rgn (F7_r35 (upd (upd (upd (upd E0 6 (SV.priv 6 0)) 5 (sI (x5))) 3 (sV (Value.pointer x3))) 0 (sV (Value.slice x0a x0n x0c))) x4a x4n x4c i_17 i_24 q_25 (splice [(Value.int .u8 0), (Value.int .i64 0), (Value.int .i64 0)] 0 l_12) h_21 _) ?_ (Rv 4 _ (Rv 7 _ (Rv 8 _ (Rv 9 _ (Rv 0 _ (Rv 3 _ (Rv 5 _ (RefOk.p 6 6 0 (Rn) (fun e => by cases e))))))))) (Sc rfl (Sc rfl (Sc rfl (Sc rfl (Sc rfl (Sc rfl (Sc rfl (Sc rfl (Sn))))))))) (Sc rfl (Sn))
       refine ite2_mono h (fun h => ?_) (fun h => ?_)
       ·exact ⟨x4a, x4n, x4c, x5, i_17, true, (splice [(Value.int .u8 0), (Value.int .i64 0), (Value.int .i64 0)] 0 l_12), (Sc rfl (Sc rfl (Sc rfl (Sc rfl (Sc rfl (Sc rfl (Sc rfl (Sn)))))))), (Sc rfl (Sn)), h⟩
       ·refine ite2_mono h (fun h => ?_) (fun h => ?_)
        ·refine ⟨h.1, h.2.1, ?_⟩
         replace h := h.2.2
         refine ptrN_mono h (fun b_113 o_114 h => ?_)
         refine ldV_mono h (fun v_115 h => ?_)
         refine intV_mono h (fun i_116 h => ?_)
         refine ite2_mono h (fun h => ?_) (fun h => ?_)
         ·exact ⟨x4a, x4n, x4c, x5, i_17, true, (splice [(Value.int .u8 0), (Value.int .i64 0), (Value.int .i64 0)] 0 l_12), (Sc rfl (Sc rfl (Sc rfl (Sc rfl (Sc rfl (Sc rfl (Sc rfl (Sn)))))))), (Sc rfl (Sn)), h⟩
         ·refine ite2_mono h (fun h => ?_) (fun h => ?_)
          ·exact ⟨x4a, x4n, x4c, x5, i_17, ((i_24 : Int) != 0), (splice [(Value.int .u8 0), (Value.int .i64 0), (Value.int .i64 0)] 0 l_12), (Sc rfl (Sc rfl (Sc rfl (Sc rfl (Sc rfl (Sc rfl (Sc rfl (Sn)))))))), (Sc rfl (Sn)), h⟩
          ·exact ⟨x4a, x4n, x4c, x5, i_17, false, (splice [(Value.int .u8 0), (Value.int .i64 0), (Value.int .i64 0)] 0 l_12), (Sc rfl (Sc rfl (Sc rfl (Sc rfl (Sc rfl (Sc rfl (Sc rfl (Sn)))))))), (Sc rfl (Sn)), h⟩
        ·refine ite2_mono h (fun h => ?_) (fun h => ?_)
         ·exact ⟨x4a, x4n, x4c, x5, i_17, ((i_24 : Int) != 0), (splice [(Value.int .u8 0), (Value.int .i64 0), (Value.int .i64 0)] 0 l_12), (Sc rfl (Sc rfl (Sc rfl (Sc rfl (Sc rfl (Sc rfl (Sc rfl (Sn)))))))), (Sc rfl (Sn)), h⟩
         ·exact ⟨x4a, x4n, x4c, x5, i_17, false, (splice [(Value.int .u8 0), (Value.int .i64 0), (Value.int .i64 0)] 0 l_12), (Sc rfl (Sc rfl (Sc rfl (Sc rfl (Sc rfl (Sc rfl (Sc rfl (Sn)))))))), (Sc rfl (Sn)), h⟩
      ·rintro env pv hp ⟨x4a, x4n, x4c, x5, x7, x64, k6, he, hv, h⟩
       refine AWP.sub (env' := (upd (upd (upd (upd (upd (upd (upd E0 64 (sB (x64))) 7 (sI (x7))) 6 (SV.priv 6 0)) 5 (sI (x5))) 4 (sV (Value.slice x4a x4n x4c))) 3 (sV (Value.pointer x3))) 0 (sV (Value.slice x0a x0n x0c)))) (pv' := (upd V0 6 (51, k6))) ?_ (Rv 0 _ (Rv 3 _ (Rv 4 _ (Rv 5 _ (RefOk.p 6 6 0 (Rv 7 _ (Rv 64 _ (Rn))) (fun e => by cases e)))))) he hv (HSub.refl _)
       clear he hv
       unfold F7_j5 at h
       refine AWP.cond (t := x64) rfl (fun e => ?_) (fun e => ?_)
       ·replace h := ite2_t h e
        refine AWP.seq' ?_
        refine AWP.rgn (F7_r11 E0  hp _) ?_ (Rn) (Sn) (Sn)
        refine AWP.ret ?_
        exact h
       ·replace h := ite2_f h e
        refine AWP.skip ?_
        refine AWP.seq (fun env pv hp => ∃ (x4a : Option Addr) (x4n : Nat) (x4c : Nat) (x5 : Int), Sub (upd (upd (upd (upd E0 5 (sI (x5))) 4 (sV (Value.slice x4a x4n x4c))) 3 (sV (Value.pointer x3))) 0 (sV (Value.slice x0a x0n x0c))) env ∧ Sub V0 pv ∧ (F7_j6 x0a x0n x0c x3 x4a x4n x4c x5 hp I3 K)) ?_ ?_
        ·refine AWP.seq' ?_
         refine AWP.rgn (F7_r15 (upd (upd (upd (upd (upd E0 7 (sI (x7))) 5 (sI (x5))) 4 (sV (Value.slice x4a x4n x4c))) 3 (sV (Value.pointer x3))) 0 (sV (Value.slice x0a x0n x0c))) k6 hp _) ?_ (RefOk.p 6 6 0 (Rv 0 _ (Rv 3 _ (Rv 4 _ (Rv 5 _ (Rv 7 _ (Rn)))))) (fun e => by cases e)) (Sc rfl (Sc rfl (Sc rfl (Sc rfl (Sc rfl (Sc rfl (Sn))))))) (Sc rfl (Sn))
         refine ldV_mono h (fun v_58 h => ?_)
         refine intV_mono h (fun i_59 h => ?_)
         refine AWP.block ?_
         refine AWP.seq' ?_
         refine AWP.rgn (F7_r16 (upd (upd (upd (upd (upd (upd E0 7 (sI (x7))) 6 (SV.priv 6 0)) 5 (sI (x5))) 4 (sV (Value.slice x4a x4n x4c))) 3 (sV (Value.pointer x3))) 0 (sV (Value.slice x0a x0n x0c))) i_59 k6 hp _) ?_ (Rv 66 _ (Rv 0 _ (Rv 3 _ (Rv 4 _ (Rv 5 _ (RefOk.p 6 6 0 (Rv 7 _ (Rn)) (fun e => by cases e))))))) (Sc rfl (Sc rfl (Sc rfl (Sc rfl (Sc rfl (Sc rfl (Sc rfl (Sn)))))))) (Sc rfl (Sn))
         refine AWP.cond (t := ((i_59 : Int) == 0)) rfl (fun e => ?_) (fun e => ?_)
         ·replace h := ite2_t h e
          refine AWP.seq' ?_
          refine AWP.rgn (F7_r17 (upd (upd (upd E0 5 (sI (x5))) 4 (sV (Value.slice x4a x4n x4c))) 0 (sV (Value.slice x0a x0n x0c))) x3 k6 hp _) ?_ (Rv 3 _ (RefOk.p 6 6 0 (Rv 0 _ (Rv 4 _ (Rv 5 _ (Rn)))) (fun e => by cases e))) (Sc rfl (Sc rfl (Sc rfl (Sc rfl (Sc rfl (Sn)))))) (Sc rfl (Sn))
          refine ldV_mono h (fun v_60 h => ?_)
          refine intV_mono h (fun i_61 h => ?_)
          refine ldV_mono h (fun v_62 h => ?_)
          refine intV_mono h (fun i_63 h => ?_)
          refine CF_mono h (fun u_64 h_65 h => ?_)
          refine intV_mono h (fun i_66 h => ?_)
          refine AWP.seq' ?_
          refine AWP.seq (fun env pv hp => ∃ (x4a : Option Addr) (x4n : Nat) (x4c : Nat) (x5 : Int) (x10 : Int) (x82 : Bool) (k6 : List Value), Sub (upd (upd (upd (upd (upd (upd (upd E0 82 (sB (x82))) 10 (sI (x10))) 6 (SV.priv 6 0)) 5 (sI (x5))) 4 (sV (Value.slice x4a x4n x4c))) 3 (sV (Value.pointer x3))) 0 (sV (Value.slice x0a x0n x0c))) env ∧ Sub (upd V0 6 (51, k6)) pv ∧ (F7_j8 x0a x0n x0c x3 x4a x4n x4c x5 x10 x82 k6 hp I3 K)) ?_ ?_
          ·refine AWP.rgn (F7_r23 (upd (upd (upd (upd (upd E0 10 (sI (i_66))) 5 (sI (x5))) 4 (sV (Value.slice x4a x4n x4c))) 3 (sV (Value.pointer x3))) 0 (sV (Value.slice x0a x0n x0c))) k6 h_65 _) ?_ (RefOk.p 6 6 0 (Rv 0 _ (Rv 3 _ (Rv 4 _ (Rv 5 _ (Rv 10 _ (Rn)))))) (fun e => by cases e)) (Sc rfl (Sc rfl (Sc rfl (Sc rfl (Sc rfl (Sc rfl (Sn))))))) (Sc rfl (Sn))
           refine ldV_mono h (fun v_76 h => ?_)
           refine intV_mono h (fun i_77 h => ?_)
           refine ite2_mono h (fun h => ?_) (fun h => ?_)
           ·exact ⟨x4a, x4n, x4c, x5, i_66, true, k6, (Sc rfl (Sc rfl (Sc rfl (Sc rfl (Sc rfl (Sc rfl (Sc rfl (Sn)))))))), (Sc rfl (Sn)), h⟩
           ·refine ldV_mono h (fun v_78 h => ?_)
            refine intV_mono h (fun i_79 h => ?_)
            exact ⟨x4a, x4n, x4c, x5, i_66, (decide ((i_79 : Int) > 4611686018427387904)), k6, (Sc rfl (Sc rfl (Sc rfl (Sc rfl (Sc rfl (Sc rfl (Sc rfl (Sn)))))))), (Sc rfl (Sn)), h⟩
          ·rintro env pv hp ⟨x4a, x4n, x4c, x5, x10, x82, k6, he, hv, h⟩
           refine AWP.sub (env' := (upd (upd (upd (upd (upd (upd (upd E0 82 (sB (x82))) 10 (sI (x10))) 6 (SV.priv 6 0)) 5 (sI (x5))) 4 (sV (Value.slice x4a x4n x4c))) 3 (sV (Value.pointer x3))) 0 (sV (Value.slice x0a x0n x0c)))) (pv' := (upd V0 6 (51, k6))) ?_ (Rv 0 _ (Rv 3 _ (Rv 4 _ (Rv 5 _ (RefOk.p 6 6 0 (Rv 10 _ (Rv 82 _ (Rn))) (fun e => by cases e)))))) he hv (HSub.refl _)
           clear he hv
           unfold F7_j8 at h
           refine AWP.cond (t := x82) rfl (fun e => ?_) (fun e => ?_)
           ·replace h := ite2_t h e
            refine AWP.seq' ?_
            refine AWP.seq' ?_
            refine AWP.rgn (F7_r18 (upd (upd (upd (upd E0 5 (sI (x5))) 4 (sV (Value.slice x4a x4n x4c))) 3 (sV (Value.pointer x3))) 0 (sV (Value.slice x0a x0n x0c))) x10 hp _) ?_ (Rv 10 _ (Rv 0 _ (Rv 3 _ (Rv 4 _ (Rv 5 _ (Rn)))))) (Sc rfl (Sc rfl (Sc rfl (Sc rfl (Sc rfl (Sn)))))) (Sn)
            refine AWP.cond (t := ((x10 : Int) != 1)) rfl (fun e => ?_) (fun e => ?_)
            ·replace h := ite2_t h e
             refine AWP.seq' ?_
             refine AWP.rgn (F7_r19 E0  hp _) ?_ (Rn) (Sn) (Sn)
             refine AWP.ret ?_
             exact h
            ·replace h := ite2_f h e
             refine AWP.skip ?_
             refine AWP.exit ?_
             exact ⟨x4a, x4n, x4c, x5, (Sc rfl (Sc rfl (Sc rfl (Sc rfl (Sn))))), (Sn), h⟩
           ·replace h := ite2_f h e
            refine AWP.skip ?_
            refine AWP.seq' ?_
            refine AWP.rgn (F7_r20 (upd (upd (upd (upd E0 10 (sI (x10))) 5 (sI (x5))) 3 (sV (Value.pointer x3))) 0 (sV (Value.slice x0a x0n x0c))) x4a x4n x4c k6 hp _) ?_ (Rv 4 _ (RefOk.p 6 6 0 (Rv 0 _ (Rv 3 _ (Rv 5 _ (Rv 10 _ (Rn))))) (fun e => by cases e))) (Sc rfl (Sc rfl (Sc rfl (Sc rfl (Sc rfl (Sc rfl (Sn))))))) (Sc rfl (Sn))
            refine ldV_mono h (fun v_67 h => ?_)
            refine intV_mono h (fun i_68 h => ?_)
            refine ldV_mono h (fun v_69 h => ?_)
            refine intV_mono h (fun i_70 h => ?_)
            refine CF_mono h (fun u_71 h_72 h => ?_)
            refine slcV_mono h (fun a_73 n_74 c_75 h => ?_)
            refine AWP.seq' ?_
            refine AWP.rgn (F7_r21 (upd (upd (upd (upd E0 5 (sI (x5))) 4 (sV (Value.slice a_73 n_74 c_75))) 3 (sV (Value.pointer x3))) 0 (sV (Value.slice x0a x0n x0c))) x10 h_72 _) ?_ (Rv 10 _ (Rv 0 _ (Rv 3 _ (Rv 4 _ (Rv 5 _ (Rn)))))) (Sc rfl (Sc rfl (Sc rfl (Sc rfl (Sc rfl (Sn)))))) (Sn)
            refine AWP.cond (t := ((x10 : Int) != 0)) rfl (fun e => ?_) (fun e => ?_)
            ·replace h := ite2_t h e
             refine AWP.seq' ?_
             refine AWP.rgn (F7_r22 E0  h_72 _) ?_ (Rn) (Sn) (Sn)
             refine AWP.ret ?_
             exact h
            ·replace h := ite2_f h e
             refine AWP.skip ?_
             exact ⟨a_73, n_74, c_75, x5, (Sc rfl (Sc rfl (Sc rfl (Sc rfl (Sn))))), (Sn), h⟩
         ·replace h := ite2_f h e
          refine AWP.seq' ?_
          refine AWP.rgn (F7_r24 (upd (upd (upd (upd (upd (upd E0 7 (sI (x7))) 6 (SV.priv 6 0)) 5 (sI (x5))) 4 (sV (Value.slice x4a x4n x4c))) 3 (sV (Value.pointer x3))) 0 (sV (Value.slice x0a x0n x0c))) i_59 k6 hp _) ?_ (Rv 66 _ (Rv 0 _ (Rv 3 _ (Rv 4 _ (Rv 5 _ (RefOk.p 6 6 0 (Rv 7 _ (Rn)) (fun e => by cases e))))))) (Sc rfl (Sc rfl (Sc rfl (Sc rfl (Sc rfl (Sc rfl (Sc rfl (Sn)))))))) (Sc rfl (Sn))
          refine AWP.cond (t := ((i_59 : Int) == 1)) rfl (fun e => ?_) (fun e => ?_)
          ·replace h := ite2_t h e
           refine AWP.seq' ?_
           refine AWP.seq' ?_
           refine AWP.rgn (F7_r25 (upd (upd (upd E0 5 (sI (x5))) 4 (sV (Value.slice x4a x4n x4c))) 0 (sV (Value.slice x0a x0n x0c))) x3 x7 k6 hp _) ?_ (Rv 3 _ (RefOk.p 6 6 0 (Rv 7 _ (Rv 0 _ (Rv 4 _ (Rv 5 _ (Rn))))) (fun e => by cases e))) (Sc rfl (Sc rfl (Sc rfl (Sc rfl (Sc rfl (Sc rfl (Sn))))))) (Sc rfl (Sn))
           refine ldV_mono h (fun v_80 h => ?_)
           refine intV_mono h (fun i_81 h => ?_)
           refine CF_mono h (fun u_82 h_83 h => ?_)
           refine boolV_mono h (fun q_84 h => ?_)
           refine AWP.cond (t := (!(q_84 == (decide ((x7 : Int) ≥ 0))))) rfl (fun e => ?_) (fun e => ?_)
           ·replace h := ite2_t h e
            refine AWP.seq' ?_
            refine AWP.rgn (F7_r26 E0  h_83 _) ?_ (Rn) (Sn) (Sn)
            refine AWP.ret ?_
            exact h
           ·replace h := ite2_f h e
            refine AWP.skip ?_
            refine AWP.rgn (F7_r27 (upd (upd (upd E0 5 (sI (x5))) 3 (sV (Value.pointer x3))) 0 (sV (Value.slice x0a x0n x0c))) x4a x4n x4c k6 h_83 _) ?_ (Rv 4 _ (RefOk.p 6 6 0 (Rv 0 _ (Rv 3 _ (Rv 5 _ (Rn)))) (fun e => by cases e))) (Sc rfl (Sc rfl (Sc rfl (Sc rfl (Sc rfl (Sn)))))) (Sc rfl (Sn))
            refine ldV_mono h (fun v_85 h => ?_)
            refine intV_mono h (fun i_86 h => ?_)
            refine CF_mono h (fun u_87 h_88 h => ?_)
            refine slcV_mono h (fun a_89 n_90 c_91 h => ?_)
            exact ⟨a_89, n_90, c_91, x5, (Sc rfl (Sc rfl (Sc rfl (Sc rfl (Sn))))), (Sn), h⟩
          ·replace h := ite2_f h e
           refine AWP.seq' ?_
           refine AWP.rgn (F7_r28 (upd (upd (upd (upd (upd E0 6 (SV.priv 6 0)) 5 (sI (x5))) 4 (sV (Value.slice x4a x4n x4c))) 3 (sV (Value.pointer x3))) 0 (sV (Value.slice x0a x0n x0c))) i_59 k6 hp _) ?_ (Rv 66 _ (Rv 0 _ (Rv 3 _ (Rv 4 _ (Rv 5 _ (RefOk.p 6 6 0 (Rn) (fun e => by cases e))))))) (Sc rfl (Sc rfl (Sc rfl (Sc rfl (Sc rfl (Sc rfl (Sn))))))) (Sc rfl (Sn))
           refine AWP.cond (t := ((i_59 : Int) == 2)) rfl (fun e => ?_) (fun e => ?_)
           ·replace h := ite2_t h e
            refine AWP.seq (fun env pv hp => ∃ (x4a : Option Addr) (x4n : Nat) (x4c : Nat) (x5 : Int) (x11 : Int) (k6 : List Value), Sub (upd (upd (upd (upd (upd (upd E0 11 (sI (x11))) 6 (SV.priv 6 0)) 5 (sI (x5))) 4 (sV (Value.slice x4a x4n x4c))) 3 (sV (Value.pointer x3))) 0 (sV (Value.slice x0a x0n x0c))) env ∧ Sub (upd V0 6 (51, k6)) pv ∧ (F7_j9 x0a x0n x0c x3 x4a x4n x4c x5 x11 k6 hp I3 K)) ?_ ?_
            ·refine AWP.rgn (F7_r34 (upd (upd (upd (upd (upd E0 6 (SV.priv 6 0)) 5 (sI (x5))) 4 (sV (Value.slice x4a x4n x4c))) 3 (sV (Value.pointer x3))) 0 (sV (Value.slice x0a x0n x0c))) k6 hp _) ?_ (Rv 0 _ (Rv 3 _ (Rv 4 _ (Rv 5 _ (RefOk.p 6 6 0 (Rn) (fun e => by cases e)))))) (Sc rfl (Sc rfl (Sc rfl (Sc rfl (Sc rfl (Sn)))))) (Sc rfl (Sn))
             exact ⟨x4a, x4n, x4c, x5, 0, k6, (Sc rfl (Sc rfl (Sc rfl (Sc rfl (Sc rfl (Sc rfl (Sn))))))), (Sc rfl (Sn)), h⟩
            ·rintro env pv hp ⟨x4a, x4n, x4c, x5, x11, k6, he, hv, h⟩
             refine AWP.sub (env' := (upd (upd (upd (upd (upd (upd E0 11 (sI (x11))) 6 (SV.priv 6 0)) 5 (sI (x5))) 4 (sV (Value.slice x4a x4n x4c))) 3 (sV (Value.pointer x3))) 0 (sV (Value.slice x0a x0n x0c)))) (pv' := (upd V0 6 (51, k6))) ?_ (Rv 0 _ (Rv 3 _ (Rv 4 _ (Rv 5 _ (RefOk.p 6 6 0 (Rv 11 _ (Rn)) (fun e => by cases e)))))) he hv (HSub.refl _)
             clear he hv
             unfold F7_j9 at h
             refine AWP.seq (fun env pv hp => ∃ (x4a : Option Addr) (x4n : Nat) (x4c : Nat) (x5 : Int) (x11 : Int) (k6 : List Value), Sub (upd (upd (upd (upd (upd (upd E0 11 (sI (x11))) 6 (SV.priv 6 0)) 5 (sI (x5))) 4 (sV (Value.slice x4a x4n x4c))) 3 (sV (Value.pointer x3))) 0 (sV (Value.slice x0a x0n x0c))) env ∧ Sub (upd V0 6 (51, k6)) pv ∧ (F7_j10 x0a x0n x0c x3 x4a x4n x4c x5 x11 k6 hp I3 K)) ?_ ?_
             ·refine AWP.block ?_
              refine AWP.loop (σ := Int) (fun I s hp => F7_l11 x0a x0n x0c x3 x4a x4n x4c x5 k6 I3 K I s hp) (fun s => (upd (upd (upd (upd (upd (upd E0 11 (sI (s))) 6 (SV.priv 6 0)) 5 (sI (x5))) 4 (sV (Value.slice x4a x4n x4c))) 3 (sV (Value.pointer x3))) 0 (sV (Value.slice x0a x0n x0c)))) (fun s => (upd V0 6 (51, k6))) x11 h (fun s => (Rv 0 _ (Rv 3 _ (Rv 4 _ (Rv 5 _ (RefOk.p 6 6 0 (Rv 11 _ (Rn)) (fun e => by cases e))))))) (Sc rfl (Sc rfl (Sc rfl (Sc rfl (Sc rfl (Sc rfl (Sn))))))) (Sc rfl (Sn)) ?_
              intro I11 s hp h
              obtain ⟨x11, hs⟩ : ∃ x, x = s := ⟨s, rfl⟩
              subst hs
              replace h : F7_l11 x0a x0n x0c x3 x4a x4n x4c x5 k6 I3 K I11 x11 hp := h
              unfold F7_l11 at h
              refine AWP.seq' ?_
              refine AWP.seq (fun env pv hp => ∃ (x11 : Int) (x121 : Bool), Sub (upd (upd (upd (upd (upd (upd (upd E0 121 (sB (x121))) 11 (sI (x11))) 6 (SV.priv 6 0)) 5 (sI (x5))) 4 (sV (Value.slice x4a x4n x4c))) 3 (sV (Value.pointer x3))) 0 (sV (Value.slice x0a x0n x0c))) env ∧ Sub (upd V0 6 (51, k6)) pv ∧ (F7_j12 x0a x0n x0c x3 x4a x4n x4c x5 x11 x121 k6 hp I3 I11 K)) ?_ ?_
              ·refine AWP.rgnD (by kernel_rfl) (by kernel_rfl) (F7_r33 (upd (upd (upd E0 5 (sI (x5))) 3 (sV (Value.pointer x3))) 0 (sV (Value.slice x0a x0n x0c))) x4a x4n x4c x11 k6 hp _) ?_ (Rv 4 _ (RefOk.p 6 6 0 (Rv 11 _ (Rv 0 _ (Rv 3 _ (Rv 5 _ (Rn))))) (fun e => by cases e))) (Sc rfl (Sc rfl (Sc rfl (Sc rfl (Sc rfl (Sc rfl (Sn))))))) (Sc rfl (Sn))
               refine ite2_mono h (fun h => ?_) (fun h => ?_)
               ·refine ⟨h.1, h.2.1, ?_⟩
                replace h := h.2.2
                refine ptrN_mono h (fun b_107 o_108 h => ?_)
                refine ldV_mono h (fun v_109 h => ?_)
                refine intV_mono h (fun i_110 h => ?_)
                refine ldV_mono h (fun v_111 h => ?_)
                refine intV_mono h (fun i_112 h => ?_)
                exact ⟨x11, (decide ((i_110 : Int) ≤ i_112)), (Sc rfl (Sc rfl (Sc rfl (Sc rfl (Sc rfl (Sc rfl (Sc rfl (Sn)))))))), (Sc rfl (Sn)), h⟩
               ·exact ⟨x11, false, (Sc rfl (Sc rfl (Sc rfl (Sc rfl (Sc rfl (Sc rfl (Sc rfl (Sn)))))))), (Sc rfl (Sn)), h⟩
              ·rintro env pv hp ⟨x11, x121, he, hv, h⟩
               refine AWP.sub (env' := (upd (upd (upd (upd (upd (upd (upd E0 121 (sB (x121))) 11 (sI (x11))) 6 (SV.priv 6 0)) 5 (sI (x5))) 4 (sV (Value.slice x4a x4n x4c))) 3 (sV (Value.pointer x3))) 0 (sV (Value.slice x0a x0n x0c)))) (pv' := (upd V0 6 (51, k6))) ?_ (Rv 0 _ (Rv 3 _ (Rv 4 _ (Rv 5 _ (RefOk.p 6 6 0 (Rv 11 _ (Rv 121 _ (Rn))) (fun e => by cases e)))))) he hv (HSub.refl _)
               clear he hv
               unfold F7_j12 at h
               refine AWP.cond (t := x121) rfl (fun e => ?_) (fun e => ?_)
               ·replace h := ite2_t h e
                refine AWP.skip ?_
                refine AWP.block ?_
                refine AWP.rgn (F7_r32 (upd (upd (upd (upd (upd E0 6 (SV.priv 6 0)) 5 (sI (x5))) 4 (sV (Value.slice x4a x4n x4c))) 3 (sV (Value.pointer x3))) 0 (sV (Value.slice x0a x0n x0c))) x11 k6 hp _) ?_ (Rv 11 _ (Rv 0 _ (Rv 3 _ (Rv 4 _ (Rv 5 _ (RefOk.p 6 6 0 (Rn) (fun e => by cases e))))))) (Sc rfl (Sc rfl (Sc rfl (Sc rfl (Sc rfl (Sc rfl (Sn))))))) (Sc rfl (Sn))
                exact ⟨(IntKind.wrap .i64 (x11 + 1)), (Sc rfl (Sc rfl (Sc rfl (Sc rfl (Sc rfl (Sc rfl (Sn))))))), (Sc rfl (Sn)), h⟩
               ·replace h := ite2_f h e
                refine AWP.exit ?_
                exact ⟨x4a, x4n, x4c, x5, x11, k6, (Sc rfl (Sc rfl (Sc rfl (Sc rfl (Sc rfl (Sc rfl (Sn))))))), (Sc rfl (Sn)), h⟩
             ·rintro env pv hp ⟨x4a, x4n, x4c, x5, x11, k6, he, hv, h⟩
              refine AWP.sub (env' := (upd (upd (upd (upd (upd (upd E0 11 (sI (x11))) 6 (SV.priv 6 0)) 5 (sI (x5))) 4 (sV (Value.slice x4a x4n x4c))) 3 (sV (Value.pointer x3))) 0 (sV (Value.slice x0a x0n x0c)))) (pv' := (upd V0 6 (51, k6))) ?_ (Rv 0 _ (Rv 3 _ (Rv 4 _ (Rv 5 _ (RefOk.p 6 6 0 (Rv 11 _ (Rn)) (fun e => by cases e)))))) he hv (HSub.refl _)
              clear he hv
              unfold F7_j10 at h
              refine AWP.seq' ?_
              refine AWP.seq' ?_
              refine AWP.rgnD (by kernel_rfl) (by kernel_rfl) (F7_r29 (upd (upd E0 5 (sI (x5))) 0 (sV (Value.slice x0a x0n x0c))) x3 x4a x4n x4c x11 k6 hp _) ?_ (Rv 3 _ (Rv 4 _ (RefOk.p 6 6 0 (Rv 11 _ (Rv 0 _ (Rv 5 _ (Rn)))) (fun e => by cases e)))) (Sc rfl (Sc rfl (Sc rfl (Sc rfl (Sc rfl (Sc rfl (Sn))))))) (Sc rfl (Sn))
              refine ldV_mono h (fun v_92 h => ?_)
              refine intV_mono h (fun i_93 h => ?_)
              refine CF_mono h (fun u_94 h_95 h => ?_)
              refine slcV_mono h (fun a_96 n_97 c_98 h => ?_)
              refine ⟨h.1, h.2.1, ?_⟩
              replace h := h.2.2
              refine CF_mono h (fun u_99 h_100 h => ?_)
              refine slcV_mono h (fun a_101 n_102 c_103 h => ?_)
              refine CF_mono h (fun u_104 h_105 h => ?_)
              refine boolV_mono h (fun q_106 h => ?_)
              refine AWP.cond (t := (!q_106)) rfl (fun e => ?_) (fun e => ?_)
              ·replace h := ite2_t h e
               refine AWP.seq' ?_
               refine AWP.rgn (F7_r30 E0  h_105 _) ?_ (Rn) (Sn) (Sn)
               refine AWP.ret ?_
               exact h
              ·replace h := ite2_f h e
               refine AWP.skip ?_
               refine AWP.rgn (F7_r31 (upd (upd (upd E0 5 (sI (x5))) 3 (sV (Value.pointer x3))) 0 (sV (Value.slice x0a x0n x0c))) x4a x4n x4c x11 h_105 _) ?_ (Rv 4 _ (Rv 11 _ (Rv 0 _ (Rv 3 _ (Rv 5 _ (Rn)))))) (Sc rfl (Sc rfl (Sc rfl (Sc rfl (Sc rfl (Sn)))))) (Sn)
               refine ⟨h.1, h.2.1, h.2.2.1, ?_⟩
               replace h := h.2.2.2
               exact ⟨(sub0 x4a x4c (Int.toNat x11) 2), (x4n - Int.toNat x11), (x4c - Int.toNat x11), x5, (Sc rfl (Sc rfl (Sc rfl (Sc rfl (Sn))))), (Sn), h⟩
           ·replace h := ite2_f h e
            refine AWP.skip ?_
            exact ⟨x4a, x4n, x4c, x5, (Sc rfl (Sc rfl (Sc rfl (Sc rfl (Sn))))), (Sn), h⟩
        ·rintro env pv hp ⟨x4a, x4n, x4c, x5, he, hv, h⟩
         refine AWP.sub (env' := (upd (upd (upd (upd E0 5 (sI (x5))) 4 (sV (Value.slice x4a x4n x4c))) 3 (sV (Value.pointer x3))) 0 (sV (Value.slice x0a x0n x0c)))) (pv' := V0) ?_ (Rv 0 _ (Rv 3 _ (Rv 4 _ (Rv 5 _ (Rn))))) he hv (HSub.refl _)
         clear he hv
         unfold F7_j6 at h
         refine AWP.seq' ?_
         refine AWP.rgn (F7_r12 (upd (upd (upd E0 5 (sI (x5))) 4 (sV (Value.slice x4a x4n x4c))) 0 (sV (Value.slice x0a x0n x0c))) x3 hp _) ?_ (Rv 3 _ (Rv 0 _ (Rv 4 _ (Rv 5 _ (Rn))))) (Sc rfl (Sc rfl (Sc rfl (Sc rfl (Sn))))) (Sn)
         refine CF_mono h (fun u_26 h_27 h => ?_)
         refine tup3V_mono h (fun u_28 u_29 u_30 h => ?_)
         refine intV_mono h (fun i_31 h => ?_)
         refine intV_mono h (fun i_32 h => ?_)
         refine boolV_mono h (fun q_33 h => ?_)
         refine AWP.seq (fun env pv hp => ∃ (x4a : Option Addr) (x4n : Nat) (x4c : Nat) (x5 : Int) (x193 : Bool), Sub (upd (upd (upd (upd (upd E0 193 (sB (x193))) 5 (sI (x5))) 4 (sV (Value.slice x4a x4n x4c))) 3 (sV (Value.pointer x3))) 0 (sV (Value.slice x0a x0n x0c))) env ∧ Sub V0 pv ∧ (F7_j7 x0a x0n x0c x3 x4a x4n x4c x5 x193 hp I3 K)) ?_ ?_
         ·refine AWP.rgn (F7_r14 (upd (upd E0 5 (sI (x5))) 0 (sV (Value.slice x0a x0n x0c))) x3 x4a x4n x4c i_31 i_32 q_33 h_27 _) ?_ (Rv 3 _ (Rv 4 _ (Rv 12 _ (Rv 13 _ (Rv 14 _ (Rv 0 _ (Rv 5 _ (Rn)))))))) (Sc rfl (Sc rfl (Sc rfl (Sc rfl (Sc rfl (Sc rfl (Sc rfl (Sn)))))))) (Sn)
          refine CF_mono h (fun u_34 h_35 h => ?_)
          refine intV_mono h (fun i_36 h => ?_)
          refine ite2_mono h (fun h => ?_) (fun h => ?_)
          ·exact ⟨x4a, x4n, x4c, x5, true, (Sc rfl (Sc rfl (Sc rfl (Sc rfl (Sc rfl (Sn)))))), (Sn), h⟩
          ·refine CF_mono h (fun u_37 h_38 h => ?_)
           refine slcV_mono h (fun a_39 n_40 c_41 h => ?_)
           refine CF_mono h (fun u_42 h_43 h => ?_)
           refine slcV_mono h (fun a_44 n_45 c_46 h => ?_)
           refine CF_mono h (fun u_47 h_48 h => ?_)
           refine boolV_mono h (fun q_49 h => ?_)
           refine ite2_mono h (fun h => ?_) (fun h => ?_)
           ·exact ⟨x4a, x4n, x4c, x5, true, (Sc rfl (Sc rfl (Sc rfl (Sc rfl (Sc rfl (Sn)))))), (Sn), h⟩
           ·refine ite2_mono h (fun h => ?_) (fun h => ?_)
            ·exact ⟨x4a, x4n, x4c, x5, true, (Sc rfl (Sc rfl (Sc rfl (Sc rfl (Sc rfl (Sn)))))), (Sn), h⟩
            ·refine ite2_mono h (fun h => ?_) (fun h => ?_)
             ·refine ⟨h.1, h.2.1, ?_⟩
              replace h := h.2.2
              refine ptrN_mono h (fun b_50 o_51 h => ?_)
              refine ldV_mono h (fun v_52 h => ?_)
              refine intV_mono h (fun i_53 h => ?_)
              refine ite2_mono h (fun h => ?_) (fun h => ?_)
              ·exact ⟨x4a, x4n, x4c, x5, true, (Sc rfl (Sc rfl (Sc rfl (Sc rfl (Sc rfl (Sn)))))), (Sn), h⟩
              ·refine ⟨h.1, h.2.1, ?_⟩
               replace h := h.2.2
               refine ptrN_mono h (fun b_54 o_55 h => ?_)
               refine ldV_mono h (fun v_56 h => ?_)
               refine intV_mono h (fun i_57 h => ?_)
               refine ite2_mono h (fun h => ?_) (fun h => ?_)
               ·exact ⟨x4a, x4n, x4c, x5, true, (Sc rfl (Sc rfl (Sc rfl (Sc rfl (Sc rfl (Sn)))))), (Sn), h⟩
               ·refine ite2_mono h (fun h => ?_) (fun h => ?_)
                ·refine ite2_mono h (fun h => ?_) (fun h => ?_)
                 ·exact ⟨x4a, x4n, x4c, x5, true, (Sc rfl (Sc rfl (Sc rfl (Sc rfl (Sc rfl (Sn)))))), (Sn), h⟩
                 ·exact ⟨x4a, x4n, x4c, x5, ((i_32 : Int) != 0), (Sc rfl (Sc rfl (Sc rfl (Sc rfl (Sc rfl (Sn)))))), (Sn), h⟩
                ·exact ⟨x4a, x4n, x4c, x5, false, (Sc rfl (Sc rfl (Sc rfl (Sc rfl (Sc rfl (Sn)))))), (Sn), h⟩
             ·refine ite2_mono h (fun h => ?_) (fun h => ?_)
              ·refine ite2_mono h (fun h => ?_) (fun h => ?_)
               ·exact ⟨x4a, x4n, x4c, x5, true, (Sc rfl (Sc rfl (Sc rfl (Sc rfl (Sc rfl (Sn)))))), (Sn), h⟩
               ·exact ⟨x4a, x4n, x4c, x5, ((i_32 : Int) != 0), (Sc rfl (Sc rfl (Sc rfl (Sc rfl (Sc rfl (Sn)))))), (Sn), h⟩
              ·exact ⟨x4a, x4n, x4c, x5, false, (Sc rfl (Sc rfl (Sc rfl (Sc rfl (Sc rfl (Sn)))))), (Sn), h⟩
         ·rintro env pv hp ⟨x4a, x4n, x4c, x5, x193, he, hv, h⟩
          refine AWP.sub (env' := (upd (upd (upd (upd (upd E0 193 (sB (x193))) 5 (sI (x5))) 4 (sV (Value.slice x4a x4n x4c))) 3 (sV (Value.pointer x3))) 0 (sV (Value.slice x0a x0n x0c)))) (pv' := V0) ?_ (Rv 0 _ (Rv 3 _ (Rv 4 _ (Rv 5 _ (Rv 193 _ (Rn)))))) he hv (HSub.refl _)
          clear he hv
          unfold F7_j7 at h
          refine AWP.cond (t := x193) rfl (fun e => ?_) (fun e => ?_)
          ·replace h := ite2_t h e
           refine AWP.seq' ?_
           refine AWP.rgn (F7_r13 E0  hp _) ?_ (Rn) (Sn) (Sn)
           refine AWP.ret ?_
           exact h
          ·replace h := ite2_f h e
           refine AWP.skip ?_
           exact ⟨x4a, x4n, x4c, x5, (Sc rfl (Sc rfl (Sc rfl (Sc rfl (Sn))))), (Sn), h⟩
     ·rintro env pv hp ⟨x4a, x4n, x4c, x5, he, hv, h⟩
      refine AWP.sub (env' := (upd (upd (upd (upd E0 5 (sI (x5))) 4 (sV (Value.slice x4a x4n x4c))) 3 (sV (Value.pointer x3))) 0 (sV (Value.slice x0a x0n x0c)))) (pv' := V0) ?_ (Rv 0 _ (Rv 3 _ (Rv 4 _ (Rv 5 _ (Rn))))) he hv (HSub.refl _)
      clear he hv
      unfold F7_j4 at h
      refine AWP.rgn (F7_r7 (upd (upd (upd E0 4 (sV (Value.slice x4a x4n x4c))) 3 (sV (Value.pointer x3))) 0 (sV (Value.slice x0a x0n x0c))) x5 hp _) ?_ (Rv 5 _ (Rv 0 _ (Rv 3 _ (Rv 4 _ (Rn))))) (Sc rfl (Sc rfl (Sc rfl (Sc rfl (Sn))))) (Sn)
      exact ⟨(x4a, x4n, x4c, (IntKind.wrap .i64 (x5 + 1))), (Sc rfl (Sc rfl (Sc rfl (Sc rfl (Sn))))), (Sn), h⟩
    ·replace h := ite2_f h e
     refine AWP.exit ?_
     exact ⟨(Sn), (Sn), h⟩
  ·rintro env pv hp ⟨he, hv, h⟩
   refine AWP.sub (env' := E0) (pv' := V0) ?_ (Rn) he hv (HSub.refl _)
   clear he hv
   unfold F7_j1 at h
   refine AWP.seq' ?_
   refine AWP.rgn (F7_r5 E0  hp _) ?_ (Rn) (Sn) (Sn)
   refine CF_mono h (fun u_7 h_8 h => ?_)
   refine boolV_mono h (fun q_9 h => ?_)
   refine AWP.ret ?_
   exact h
end Go.Proofs

set_option linter.unusedVariables false
set_option maxRecDepth 20000
namespace Go.Proofs
open Go Go.HL
open Go.Exp (Th tlt swo_tlt Ord setW dropW insW)

/-- An act: what, which, when. -/
abbrev Ac := Int × Int × Int
def ac (a : Ac) : List Value := [.int .u8 a.1, .int .i64 a.2.1, .int .i64 a.2.2]
theorem ac_len (a : Ac) : (ac a).length = 3 := rfl
theorem ac_one (a : Ac) : (ac a).all one = true := rfl
def okAc (a : Ac) : Prop := (0 ≤ a.1 ∧ a.1 ≤ 255) ∧ okI a.2.1 ∧ okI a.2.2

theorem dec51 : ∀ (D : Nat) (cs : List Value), wellS Try.prog D 51 cs = true → ∃ a : Ac, okAc a ∧ cs = ac a := by
  intro D cs h
  cases D with
  | zero => cases h
  | succ D =>
    obtain ⟨hl, hf⟩ := wellS_struct (fs0 := [(5, 0), (3, 1), (3, 2)]) (by kernel_rfl) (by simp) h
    rw [show Try.prog.cellsOf 51 = 3 by kernel_rfl] at hl
    have f1 := hf (5, 0) (by simp)
    have f2 := hf (3, 1) (by simp)
    have f3 := hf (3, 2) (by simp)
    simp only [show Try.prog.cellsOf 5 = 1 by kernel_rfl, show Try.prog.cellsOf 3 = 1 by kernel_rfl] at f1 f2 f3
    obtain ⟨n, hn, e1⟩ := dec5 f1
    obtain ⟨x, hx, e2⟩ := dec3 f2
    obtain ⟨y, hy, e3⟩ := dec3 f3
    match cs, hl with
    | [c0, c1, c2], _ =>
      simp only [List.drop_zero, List.take_succ_cons, List.take_zero, List.cons.injEq, and_true] at e1
      simp only [List.drop_succ_cons, List.drop_zero, List.take_succ_cons, List.take_zero, List.cons.injEq, and_true] at e2 e3
      subst e1; subst e2; subst e3
      exact ⟨(n, x, y), ⟨hn, hx, hy⟩, rfl⟩

/-- A list of things beside a queue. -/
def SW (hp l : HP) (s : Option Addr) (n c : Nat) (w : List Th) : Prop :=
  w.length = n ∧ n ≤ c ∧ (n = 0 ∨ ∃ b o, s = some ⟨b, o, none⟩ ∧ hp.cellN b o (n * 2) = some (w.flatMap th) ∧ l b = .none)

theorem SW.shows {hp l : HP} {s : Option Addr} {n c : Nat} {w : List Th} (h : SW hp l s n c w) : Shows hp s n 2 (w.flatMap th) := by
  obtain ⟨h1, h2, h3 | ⟨b, o, h3, h4, h5⟩⟩ := h
  · left
    have : w = [] := List.eq_nil_of_length_eq_zero (by omega)
    subst this; exact ⟨h3, rfl⟩
  · exact .inr ⟨b, o, h3, h4⟩
theorem SW.sub {hp hp' l : HP} {s : Option Addr} {n c : Nat} {w : List Th} (h : SW hp l s n c w) (hs : HSub hp hp') : SW hp' l s n c w := by
  obtain ⟨h1, h2, h3 | ⟨b, o, h3, h4, h5⟩⟩ := h
  · exact ⟨h1, h2, .inl h3⟩
  · exact ⟨h1, h2, .inr ⟨b, o, h3, HP.cellN_sub hs h4, h5⟩⟩
theorem SW.frm {hp hp' l l' : HP} {s : Option Addr} {n c : Nat} {w : List Th} (h : SW hp l s n c w) (hf : Frm l hp l' hp') : SW hp' l' s n c w := by
  obtain ⟨h1, h2, h3 | ⟨b, o, h3, h4, h5⟩⟩ := h
  · exact ⟨h1, h2, .inl h3⟩
  · have hne : hp b ≠ .none := fun e => by unfold HP.cellN at h4; rw [e] at h4; cases h4
    obtain ⟨f1, f2⟩ := hf (HP.only b (hp b)) (HSub.only rfl) (Disj.only h5)
    refine ⟨h1, h2, .inr ⟨b, o, h3, ?_, f2.only_none hne⟩⟩
    have e := f1.of_only hne
    unfold HP.cellN at h4 ⊢
    rw [e]; exact h4
theorem SW.of_row {hp l : HP} {s : Option Addr} {n c : Nat} {e : TypeId} {w : List Th} (hr : Row hp s n c e 2 (w.flatMap th)) (hl : w.length = n) (hfr : ∀ b, s = some ⟨b, 0, none⟩ → l b = .none) : SW hp l s n c w := by
  rcases hr with ⟨r1, r2, r3, r4⟩ | ⟨b, r1, r2, r3, r4⟩
  · exact ⟨hl, by omega, .inl r2⟩
  · refine ⟨hl, r2, .inr ⟨b, 0, r1, ?_, hfr b r1⟩⟩
    rw [HP.cellN_of r4]; exact cellsN_all r3
theorem SW.drop {hp l : HP} {s : Option Addr} {n c i : Nat} {w : List Th} (h : SW hp l s n c w) (hi : i ≤ n) : SW hp l (sub0 s c i 2) (n - i) (c - i) (w.drop i) := by
  obtain ⟨h1, h2, h3⟩ := h
  refine ⟨by simp; omega, by omega, ?_⟩
  by_cases hin : i = n
  · left; omega
  · rcases h3 with h3 | ⟨b, o, h3, h4, h5⟩
    · omega
    · right
      have sh := Shows.sub0 (enc := th) (size := 2) (hp := hp) (s := s) (n := n) (c := c) (i := i) (l := w) (.inr ⟨b, o, h3, h4⟩) th_len h1 h2 hi
      rcases sh with ⟨h0, _⟩ | ⟨b', o', e, hc⟩
      · omega
      · refine ⟨b', o', e, hc, ?_⟩
        unfold HL.sub0 at e
        rw [if_neg (by omega), h3, Option.map_some, add_eq] at e
        cases e; exact h5

section
variable {a0 : Option Addr} {n0 c0 : Nat} {acts : List Ac} {hp0 : HP} {K : Value → HP → Prop}

theorem C7 (hs0 : Shows hp0 a0 n0 3 (acts.flatMap ac)) (hl0 : acts.length = n0) (h : K (.bool true) hp0) : CF Try.prog 7 [.slice a0 n0 c0] hp0 K := by
  refine CF.drop (F7_ok a0 n0 c0 hp0 _ ?_)
  unfold F7
  have hk : ∀ hp', HSub hp0 hp' → CF Try.prog 28 [] hp' fun u h => boolV u fun q => ∃ hp'', HSub hp'' h ∧ K (.bool q) hp'' := by
    intro hp' hs
    refine C28 fun hp2 h2 => ?_
    rw [boolV_bool]
    exact ⟨hp0, hs.trans h2, h⟩
  have pp : ∀ (p : Nat) (c : Option Addr → Prop), ptrV (ptr p 0) c = c (some ⟨p, 0, none⟩) := fun _ _ => rfl
  by_cases h200 : n0 > 200
  · rw [decide_eq_true (by omega : ((n0 : Nat) : Int) > 200), ite2_true]
    exact hk hp0 (HSub.refl _)
  rw [decide_eq_false (by omega : ¬ ((n0 : Nat) : Int) > 200), ite2_false]
  refine N29 fun q l hp1 hQ sl fl => ?_
  obtain ⟨g1, d1⟩ := fl hp0 (HSub.refl _)
  rw [pp]
  unfold F7_j2
  refine LoopP.by (J := fun k (st : Option Addr × Nat × Nat × Int) hp => ∃ (l : HP) (w : List Th) (i : Nat), st.2.2.2 = i ∧ i + k = n0 ∧ QW l q w ∧ HSub l hp ∧ HSub hp0 hp ∧ Disj l hp0 ∧ SW hp l st.1 st.2.1 st.2.2.1 w ∧ w.length ≤ i) ?_
    (n := n0) ⟨l, [], 0, rfl, by omega, hQ, sl, g1, d1, ⟨rfl, Nat.le_refl _, .inl rfl⟩, Nat.le_refl _⟩
  clear hQ sl fl g1 d1
  rintro I k ⟨s, n, c, x⟩ hp ⟨l, w, i, hx, hik, hQ, sl, g, dj, hS, hw⟩ hI
  simp only at hx hS
  subst hx
  unfold F7_l3
  simp only []
  by_cases hi : i < n0
  rotate_left
  · rw [decide_eq_false (by omega : ¬ (i : Int) < (n0 : Int)), ite2_false]
    unfold F7_j1
    exact hk hp g
  rw [decide_eq_true (by omega : (i : Int) < (n0 : Int)), ite2_true]
  have hn := hS.1
  obtain ⟨b, o, rfl, hc⟩ := (hs0.sub g).get ac_len hl0 hi
  generalize acts[i]'(hl0 ▸ hi) = a at hc
  have hz : splice [(Value.int .u8 0), (Value.int .i64 0), (Value.int .i64 0)] 0 (ac a) = ac a := splice_all rfl
  have q0' : (ac a)[0]? = some (.int .u8 a.1) := rfl
  have q1 : (ac a)[1]? = some (.int .i64 a.2.1) := rfl
  have q2 : (ac a)[2]? = some (.int .i64 a.2.2) := rfl
  simp only [ptrN_some, Int.toNat_natCast, hc, ldL_some, ac_len, ac_one, if_true, hz, q1, ldV_some, intV_int]
  refine ⟨by omega, by omega, ?_⟩
  refine ifI (by decide) ?_
  have w1 : IntKind.wrap .i64 ((i : Int) + 1) = ((i + 1 : Nat) : Int) := wi (by omega) (by omega)
  -- behind an act: what there is
  have six : ∀ (hp : HP) (l : HP) (w : List Th) (s : Option Addr) (n c : Nat), QW l q w → HSub l hp → HSub hp0 hp → Disj l hp0 → SW hp l s n c w → w.length ≤ i + 1 →
      F7_j6 (some ⟨b, o, none⟩) n0 c0 (some ⟨q, 0, none⟩) s n c i hp I (fun v hp' => ∃ hp'', HL.HSub hp'' hp' ∧ K v hp'') := by
    intro hp l w s n c hQ sl g dj hS hw
    have hn := hS.1
    unfold F7_j6
    refine C42 (hQ.sub sl) ?_
    simp only [tup3V_mk, intV_int, boolV_bool]
    refine C36 (hQ.sub sl) ?_
    have e : (((w.length : Nat) : Int) != ((n : Nat) : Int)) = false := by rw [hn]; simp
    rw [intV_int, e, ite2_false]
    refine C33 (hQ.sub sl) (by omega) fun hp2 s2 c2 k2 hrow2 _ => ?_
    rw [slcV_slice]
    have hS2 := hS.sub k2
    refine C41 hS2.shows hn (by omega) fun hp3 s3 c3 k3 hrow3 _ => ?_
    have hS3 := hS2.sub k3
    rw [slcV_slice]
    have r2 := (hrow2.sub k3).shows
    have r3 := hrow3.shows
    rw [idv_i1] at r2 r3
    refine C32 r2 r3 (by simp) (by simpa using hn) (by omega) ?_
    rw [boolV_bool, decide_eq_true rfl, Bool.not_true, ite2_false]
    have fin : F7_j7 (some ⟨b, o, none⟩) n0 c0 (some ⟨q, 0, none⟩) s n c i false hp3 I (fun v hp' => ∃ hp'', HL.HSub hp'' hp' ∧ K v hp'') := by
      unfold F7_j7 F7_j4
      rw [ite2_false, w1]
      exact hI (k - 1) _ _ (by omega) ⟨l, w, i + 1, rfl, by omega, hQ, sl.trans (k2.trans k3), g.trans (k2.trans k3), dj, hS3, hw⟩
    cases w with
    | nil =>
      have hn0 : n = 0 := by simpa using hn.symm
      subst hn0
      show ite2 false _ (ite2 false _ (ite2 true (ite2 false _ _) _))
      simp only [ite2_false, ite2_true]
      exact fin
    | cons t w =>
      have hnp : 0 < n := by rw [← hn]; simp
      have e1 : (decide (((n : Nat) : Int) > 0)) = true := decide_eq_true (by omega)
      rw [e1]
      show ite2 false _ (ite2 true _ _)
      rw [ite2_false, ite2_true]
      obtain ⟨b', o', rfl, hc'⟩ := hS3.shows.get th_len hn hnp
      obtain ⟨t0, t1⟩ := th_at hc'
      have t00 : Int.toNat 0 = 0 := rfl
      simp only [List.getElem_cons_zero] at t0 t1
      simp only [ptrN_some, t00, t0, t1, ldV_some, intV_int]
      refine ⟨by omega, by omega, ?_⟩
      have e2 : (((((t :: w).head?).map (·.1)).getD 0 : Int) != t.1) = false := by simp
      have e3 : (((((t :: w).head?).map (·.2)).getD 0 : Int) != t.2) = false := by simp
      rw [e2, ite2_false]
      refine ⟨by omega, by omega, ?_⟩
      rw [e3, ite2_false]
      show ite2 false _ _
      rw [ite2_false]
      exact fin
  refine C37 hS.shows hn (by omega) fun v hv => ?_
  rw [intV_int]
  refine C38 (hQ.sub sl) ?_
  simp only [tup2V_mk, intV_int, boolV_bool]
  -- the act
  have five : ((getL a.2.1 w).isSome == decide (v ≥ 0)) = true → F7_j5 (some ⟨b, o, none⟩) n0 c0 (some ⟨q, 0, none⟩) s n c i v false (ac a) hp I (fun v hp' => ∃ hp'', HL.HSub hp'' hp' ∧ K v hp'') := by
    intro hvs
    unfold F7_j5
    rw [ite2_false]
    simp only [q0', q1, q2, ldV_some, intV_int]
    cases hd0 : (a.1 == 0)
    · rw [ite2_false]
      cases hd1 : (a.1 == 1)
      · rw [ite2_false]
        cases hd2 : (a.1 == 2)
        · rw [ite2_false]
          exact six hp l w s n c hQ sl g dj hS (by omega)
        · rw [ite2_true]
          unfold F7_j9
          refine LoopP.by (J := fun m (y : Int) hp' => hp' = hp ∧ ∃ j : Nat, y = j ∧ j + m = n ∧ ∀ (x : Nat) (hx : x < w.length), x < j → decide (w[x].2 ≤ a.2.2) = true) ?_ (n := n) ⟨rfl, 0, rfl, by omega, fun x hx h => by omega⟩
          rintro I11 m y hp' ⟨rfl, j, rfl, hjm, hlt⟩ hI11
          unfold F7_l11
          have ten : (∀ (hj : j < w.length), decide (w[j].2 ≤ a.2.2) = false) → F7_j10 (some ⟨b, o, none⟩) n0 c0 (some ⟨q, 0, none⟩) s n c i j (ac a) hp' I (fun v hp' => ∃ hp'', HL.HSub hp'' hp' ∧ K v hp'') := by
            intro hstop
            obtain ⟨e1, e2⟩ := tw_split (p := fun t : Th => decide (t.2 ≤ a.2.2)) (by omega) hlt hstop
            unfold F7_j10
            simp only [q2, ldV_some, intV_int]
            refine N31 sl hQ (by omega) fun l2 hp2 s2 c2 hQ2 sl2 hrow2 hfr2 f2 => ?_
            obtain ⟨g2, d2, _⟩ := f2 hp0 g dj
            have hS2 : SW hp2 l2 s n c w := hS.frm fun r hr hd => ⟨(f2 r hr hd).1, (f2 r hr hd).2.1⟩
            rw [e1] at hrow2 ⊢
            rw [e2] at hQ2
            rw [slcV_slice]
            have hcn := hS.2.1
            refine ⟨by omega, by omega, ?_⟩
            rw [Int.toNat_natCast]
            have hjl : (w.take j).length = j := by rw [List.length_take]; omega
            refine C41 (w := w.take j) (hS2.shows.take th_len hn (by omega)) hjl (by omega) fun hp3 s3 c3 k3 hrow3 _ => ?_
            rw [slcV_slice]
            have r2 := (hrow2.sub k3).shows
            have r3 := hrow3.shows
            rw [idv_i1] at r2 r3
            refine C32 r2 r3 (by simp) (by simp; omega) (by rw [hjl]; omega) ?_
            rw [boolV_bool, decide_eq_true rfl, Bool.not_true, ite2_false]
            refine ⟨by omega, by omega, hcn, ?_⟩
            refine six hp3 l2 (w.drop j) _ _ _ hQ2 (sl2.trans k3) (g2.trans k3) d2 ((hS2.sub k3).drop (by omega)) (by simp; omega)
          have stop : (∀ (hj : j < w.length), decide (w[j].2 ≤ a.2.2) = false) → F7_j12 (some ⟨b, o, none⟩) n0 c0 (some ⟨q, 0, none⟩) s n c i j false (ac a) hp' I I11 (fun v hp' => ∃ hp'', HL.HSub hp'' hp' ∧ K v hp'') := by
            intro hstop
            unfold F7_j12
            rw [ite2_false]
            exact ten hstop
          by_cases hj : j < n
          · rw [decide_eq_true (by omega : (j : Int) < (n : Int)), ite2_true]
            obtain ⟨b', o', hse, hc'⟩ := hS.shows.get th_len hn hj
            obtain ⟨t0, t1⟩ := th_at hc'
            rw [hse]
            simp only [ptrN_some, Int.toNat_natCast, t1, q2, ldV_some, intV_int]
            rw [← hse]
            refine ⟨by omega, by omega, ?_⟩
            have hjw : j < w.length := by omega
            cases hle : decide ((w[j]'hjw).2 ≤ a.2.2)
            · exact stop fun _ => hle
            · unfold F7_j12
              have w2 : IntKind.wrap .i64 ((j : Int) + 1) = ((j + 1 : Nat) : Int) := wi (by omega) (by omega)
              rw [ite2_true, w2]
              refine hI11 (m - 1) _ _ (by omega) ⟨rfl, j + 1, rfl, by omega, fun x hx hxj => ?_⟩
              by_cases hxe : x = j
              · subst hxe; exact hle
              · exact hlt x hx (by omega)
          · rw [decide_eq_false (by omega : ¬ (j : Int) < (n : Int)), ite2_false]
            exact stop fun h => by omega
      · rw [ite2_true]
        refine N34 sl hQ (by omega) fun l2 hp2 hQ2 sl2 f2 => ?_
        obtain ⟨g2, d2⟩ := f2 hp0 g dj
        have hS2 := hS.frm f2
        rw [boolV_bool, hvs, Bool.not_true, ite2_false]
        have hdl : (dropW a.2.1 w).length ≤ w.length := List.length_filter_le _ _
        refine C40 hS2.shows hn (by omega) fun hp3 s3 c3 k3 hrow3 hfr3 => ?_
        rw [slcV_slice]
        refine six hp3 l2 _ _ _ _ hQ2 (sl2.trans k3) (g2.trans k3) d2 (SW.of_row hrow3 rfl fun b e => sl2.none (hfr3 b e)) (by omega)
    · rw [ite2_true]
      refine N30 sl hQ (by omega) fun v2 l2 hp2 w2 hv1 hv2 hQ2 sl2 f2 => ?_
      obtain ⟨g2, d2⟩ := f2 hp0 g dj
      have hS2 := hS.frm f2
      rw [intV_int]
      have bad : badDue a.2.2 → F7_j8 (some ⟨b, o, none⟩) n0 c0 (some ⟨q, 0, none⟩) s n c i v2 true (ac a) hp2 I (fun v hp' => ∃ hp'', HL.HSub hp'' hp' ∧ K v hp'') := by
        intro hb
        obtain ⟨rfl, rfl⟩ := hv1 hb
        unfold F7_j8
        show ite2 true (ite2 false _ _) _
        rw [ite2_true, ite2_false]
        exact six hp2 l2 _ s n c hQ2 sl2 g2 d2 hS2 (by omega)
      by_cases hneg : a.2.2 < 0
      · rw [decide_eq_true hneg, ite2_true]
        exact bad (.inl hneg)
      rw [decide_eq_false hneg, ite2_false]
      by_cases hbig : a.2.2 > 4611686018427387904
      · rw [decide_eq_true hbig]
        exact bad (.inr hbig)
      rw [decide_eq_false hbig]
      obtain ⟨rfl, rfl⟩ := hv2 (by unfold badDue; omega)
      unfold F7_j8
      simp only [ite2_false, q1, q2, ldV_some, intV_int]
      have hsl := setW_len a.2.1 a.2.2 w
      refine C39 hS2.shows hn (by omega) fun hp3 s3 c3 k3 hrow3 hfr3 => ?_
      rw [slcV_slice]
      show ite2 false _ _
      rw [ite2_false]
      exact six hp3 l2 _ _ _ _ hQ2 (sl2.trans k3) (g2.trans k3) d2 (SW.of_row hrow3 rfl fun b e => sl2.none (hfr3 b e)) (by omega)
  rcases hv with ⟨rfl, hg⟩ | ⟨j, hj, rfl, hg⟩
  · have hvs : ((getL a.2.1 w).isSome == decide ((-1 : Int) ≥ 0)) = true := by rw [hg]; rfl
    have five := five hvs
    rw [hvs, hg]
    show ite2 false _ (ite2 false _ (ite2 true (F7_j5 _ _ _ _ _ _ _ _ _ false _ _ _ _) _))
    simp only [ite2_false, ite2_true]
    exact five
  · have hvs : ((getL a.2.1 w).isSome == decide ((j : Int) ≥ 0)) = true := by rw [hg, decide_eq_true (by omega : (j : Int) ≥ 0)]; rfl
    have five := five hvs
    rw [hvs, hg]
    obtain ⟨b', o', hse, hc'⟩ := hS.shows.get th_len hn (by omega : j < n)
    obtain ⟨t0, t1⟩ := th_at hc'
    simp only [Bool.not_true, ite2_false, Option.isSome_some, ite2_true, Option.getD_some]
    rw [hse] at five ⊢
    simp only [ptrN_some, Int.toNat_natCast, t1, ldV_some, intV_int]
    refine ⟨by omega, by omega, ?_⟩
    have e : (w[j].2 != w[j].2) = false := by simp
    rw [e, ite2_false]
    exact five
end
end Go.Proofs

