/- Parts of the proof of JoinsProof: the logic of what is known of memory, functions' contracts. -/
import Derived.Test.YtidoceleobdkmaaQJoinsProofB
import Derived.Test.YtidoceleobdkmaaHlStr
import Derived.Test.YtidoceleobdkmaaHlApp
import Derived.KernelRfl
import Derived.Sort.LotA
import Derived.Test.YtidoceleobdkmaaHlLib
import Derived.Sort.LotD3
import Derived.Test.YtidoceleobdkmaaHlSort1
import Derived.Test.YtidoceleobdkmaaHlAbb
import Derived.Test.YtidoceleobdkmaaProg
import Derived.Sort.LotB
import Derived.Sort.LotC
import Derived.Test.YtidoceleobdkmaaHlUse2
import Derived.Sort.LotD1
import Derived.Test.YtidoceleobdkmaaHlRange
set_option linter.unusedVariables false
set_option maxRecDepth 20000
namespace Go.Proofs
open Go Go.HL

theorem wiN {x : Int} {i : Nat} (h : x = i) (hb : i ≤ 9223372036854775807) : IntKind.wrap .i64 x = i := by rw [h]; exact w64 (by omega) (by omega)

/-- A piece. -/
structure Pc where
  key : ByteArray
  src : ByteArray
  at_ : Int
  more : Bool
  data : ByteArray
  head : ByteArray
deriving DecidableEq
instance : Inhabited Pc := ⟨⟨ByteArray.empty, ByteArray.empty, 0, false, ByteArray.empty, ByteArray.empty⟩⟩
def pc (p : Pc) : List Value := [.string p.key, .string p.src, .int .i64 p.at_, .bool p.more, .string p.data, .string p.head]
theorem pc_len (p : Pc) : (pc p).length = 6 := rfl
theorem pc_one (p : Pc) : (pc p).all one = true := rfl
def okP (p : Pc) : Prop := (-9223372036854775808 ≤ p.at_ ∧ p.at_ ≤ 9223372036854775807) ∧ p.data.size ≤ 1000000
/-- Where it ends. -/
def Pc.to (p : Pc) : Int := p.at_ + p.data.size
/-- May it be? -/
def rightP (p : Pc) : Bool := decide (0 ≤ p.at_) && decide (p.at_ ≤ 65535) && decide (p.at_.tmod 8 = 0) && decide (p.at_ + p.data.size ≤ 65535) && (!p.more || (decide (0 < p.data.size) && decide (p.data.size % 8 = 0)))
theorem rightP_iff {p : Pc} : rightP p = true ↔ 0 ≤ p.at_ ∧ p.at_ ≤ 65535 ∧ p.at_.tmod 8 = 0 ∧ p.at_ + p.data.size ≤ 65535 ∧ (p.more = true → 0 < p.data.size ∧ p.data.size % 8 = 0) := by
  unfold rightP
  simp only [Bool.and_eq_true, decide_eq_true_eq, Bool.or_eq_true, Bool.not_eq_true']
  cases p.more <;> simp [and_assoc]
/-- Is it the same? -/
def sameP (p q : Pc) : Bool := decide (p.at_ = q.at_) && decide (p.more = q.more) && decide (p.data = q.data)

theorem enc9 : EncK Try.prog 9 sw where
  inj a b h := by simpa [sw] using h
  law := (KeyLaw.flat (d := .string) (by kernel_rfl)).weaken fun v ⟨k, hk⟩ => by subst hk; exact trivial
theorem u97 : Try.prog.underlying 97 = some (.map 9 3) := by kernel_rfl
theorem u128 : Try.prog.underlying 128 = some (.map 9 131) := by kernel_rfl

/-- The lesser first, of two numbers. -/
def cmpN (x y : Int) : Int := if x < y then -1 else if x > y then 1 else 0
theorem D131 {x : Int} {hp : HP} {K : Value → HP → Prop} (h : K (.bool false) hp) : CF Try.prog 131 [.int .i64 x] hp K := by
  refine F131_ok x hp K ?_
  unfold F131
  simpa using h

theorem D97 {x y : Int} {hp : HP} {K : Value → HP → Prop} (h : K (.int .i64 (cmpN x y)) hp) : CF Try.prog 97 [.int .i64 x, .int .i64 y] hp K := by
  refine F97_ok x y hp K ?_
  unfold F97
  refine D131 ?_
  rw [boolV_bool]
  refine D131 ?_
  rw [boolV_bool, ite2_false, ite2_false]
  unfold cmpN at h
  by_cases h1 : x < y
  · rw [if_pos h1] at h
    rw [decide_eq_true h1, ite2_true]; exact h
  rw [if_neg h1] at h
  rw [decide_eq_false h1, ite2_false]
  by_cases h2 : x > y
  · rw [if_pos h2] at h
    rw [decide_eq_true h2, ite2_true]; exact h
  · rw [if_neg h2] at h
    rw [decide_eq_false h2, ite2_false]; exact h

theorem D96 {r : Nat} {x y : Int} {hp : HP} {K : Value → HP → Prop} (hr : hp r = .cells 3 [.int .i64 x, .int .i64 y] 0) (h : K (.int .i64 (if x ≠ 0 then x else y)) hp) : CF Try.prog 96 [.slice (some ⟨r, 0, none⟩) 2 2] hp K := by
  refine F96_ok _ 2 2 hp K ?_
  unfold F96 F96_j2
  have hc : ∀ o, hp.cell r o = [Value.int .i64 x, .int .i64 y][o]? := fun o => HP.cell_of hr
  intro I hI
  refine hI 0 hp ?_
  unfold F96_l3
  simp only [ptrN_some, hc, Nat.zero_add]
  show ite2 (decide ((0 : Int) < 2)) _ _
  rw [decide_eq_true (by omega : (0 : Int) < 2), ite2_true]
  refine ⟨by omega, by omega, ?_⟩
  show ldV (some (Value.int .i64 x)) _
  rw [ldV_some, intV_int]
  by_cases hx : x = 0
  · rw [if_neg (by simpa using hx)] at h
    have e : (x != 0) = false := by simpa using hx
    rw [e, ite2_false]
    have w : IntKind.wrap .i64 ((0 : Int) + 1) = 1 := by rw [w64 (by omega) (by omega)]; rfl
    rw [w]
    refine hI 1 hp ?_
    unfold F96_l3
    simp only [ptrN_some, hc, Nat.zero_add]
    rw [decide_eq_true (by omega : (1 : Int) < ((2 : Nat) : Int)), ite2_true]
    refine ⟨by omega, by omega, ?_⟩
    show ldV (some (Value.int .i64 y)) _
    rw [ldV_some, intV_int]
    by_cases hy : y = 0
    · have e : (y != 0) = false := by simpa using hy
      rw [e, ite2_false]
      have w : IntKind.wrap .i64 ((1 : Int) + 1) = 2 := by rw [w64 (by omega) (by omega)]; rfl
      rw [w]
      refine hI 2 hp ?_
      unfold F96_l3
      simp only [ptrN_some, hc, Nat.zero_add]
      rw [decide_eq_false (by omega : ¬ (2 : Int) < ((2 : Nat) : Int)), ite2_false]
      unfold F96_j1
      rw [hy] at h; exact h
    · have e : (y != 0) = true := by simpa using hy
      rw [e, ite2_true]; exact h
  · rw [if_pos (by simpa using hx)] at h
    have e : (x != 0) = true := by simpa using hx
    rw [e, ite2_true]; exact h

section
variable {p q : Pc} {hp : HP} {K : Value → HP → Prop}

/-- Where it ends, as it is counted. -/
def Pc.toW (p : Pc) : Int := IntKind.wrap .i64 (p.at_ + p.data.size)
theorem Pc.toW_eq {p : Pc} (h0 : 0 ≤ p.at_) (h1 : p.at_ ≤ 1000000000) (h2 : p.data.size ≤ 1000000000) : p.toW = p.to := by
  unfold Pc.toW Pc.to; rw [w64 (by omega) (by omega)]
theorem C122 (h : K (.int .i64 p.toW) hp) : CF Try.prog 122 [.agg ⟨pc p⟩] hp K := by
  refine F122_ok (pc p) hp K ?_
  unfold F122
  exact h

theorem C77 (h : K (.bool (sameP p q)) hp) : CF Try.prog 77 [.agg ⟨pc p⟩, .agg ⟨pc q⟩] hp K := by
  refine F77_ok (pc p) (pc q) hp K ?_
  unfold F77
  have k2 : ∀ p : Pc, (pc p)[2]? = some (.int .i64 p.at_) := fun _ => rfl
  have k3 : ∀ p : Pc, (pc p)[3]? = some (.bool p.more) := fun _ => rfl
  have k4 : ∀ p : Pc, (pc p)[4]? = some (.string p.data) := fun _ => rfl
  simp only [k2, k3, k4, ldV_some, intV_int, boolV_bool, strV_string]
  unfold sameP at h
  by_cases h1 : p.at_ = q.at_
  · have e : (p.at_ == q.at_) = true := by simpa using h1
    rw [e, ite2_true]
    rw [decide_eq_true h1, Bool.true_and] at h
    by_cases h2 : p.more = q.more
    · have e : (p.more == q.more) = true := by simpa using h2
      rw [e, ite2_true]
      rw [str_eq]
      rw [decide_eq_true h2, Bool.true_and] at h
      exact h
    · have e : (p.more == q.more) = false := by simpa using h2
      rw [e, ite2_false]
      rw [decide_eq_false h2, Bool.false_and] at h
      exact h
  · have e : (p.at_ == q.at_) = false := by simpa using h1
    rw [e, ite2_false]
    rw [decide_eq_false h1, Bool.false_and, Bool.false_and] at h
    exact h

theorem C67 (hp' : okP p) (h : K (.bool (rightP p)) hp) : CF Try.prog 67 [.agg ⟨pc p⟩] hp K := by
  refine F67_ok (pc p) hp K ?_
  unfold F67
  have k2 : (pc p)[2]? = some (.int .i64 p.at_) := rfl
  have k3 : (pc p)[3]? = some (.bool p.more) := rfl
  have k4 : (pc p)[4]? = some (.string p.data) := rfl
  simp only [k2, k4, ldV_some, intV_int, strV_string]
  have hno : rightP p = false → F67_j1 true (pc p) hp K := fun e => by
    unfold F67_j1; rw [ite2_true]; rw [e] at h; exact h
  have no : (¬ (0 ≤ p.at_ ∧ p.at_ ≤ 65535 ∧ p.at_.tmod 8 = 0 ∧ p.at_ + p.data.size ≤ 65535)) → F67_j1 true (pc p) hp K := fun hn => hno (by
    cases hr : rightP p with
    | false => rfl
    | true => obtain ⟨a, b, c, d, _⟩ := rightP_iff.1 hr; exact absurd ⟨a, b, c, d⟩ hn)
  by_cases h1 : p.at_ < 0
  · rw [decide_eq_true h1, ite2_true]; exact no (by omega)
  rw [decide_eq_false h1, ite2_false]
  by_cases h2 : p.at_ > 65535
  · rw [decide_eq_true h2, ite2_true]; exact no (by omega)
  rw [decide_eq_false h2, ite2_false]
  refine ⟨by decide, ?_⟩
  by_cases h3 : p.at_.tmod 8 = 0
  rotate_left
  · have e : (p.at_.tmod 8 != 0) = true := by simpa using h3
    rw [e, ite2_true]; exact no (fun x => h3 x.2.2.1)
  have e : (p.at_.tmod 8 != 0) = false := by simpa using h3
  rw [e, ite2_false, w64 (by omega) (by omega)]
  by_cases h4 : (p.data.size : Int) > 65535 - p.at_
  · rw [decide_eq_true h4]; exact no (by omega)
  rw [decide_eq_false h4]
  unfold F67_j1
  rw [ite2_false]
  simp only [k3, k4, ldV_some, boolV_bool, strV_string]
  have hx : rightP p = (!p.more || (decide (0 < p.data.size) && decide (p.data.size % 8 = 0))) := by
    unfold rightP
    rw [decide_eq_true (by omega : 0 ≤ p.at_), decide_eq_true (by omega : p.at_ ≤ 65535), decide_eq_true h3, decide_eq_true (by omega : p.at_ + p.data.size ≤ 65535)]
    simp
  rw [hx] at h
  cases hm : p.more
  · rw [hm] at h; exact h
  · rw [hm] at h
    show ite2 false _ _
    rw [ite2_false]
    by_cases h5 : 0 < p.data.size
    · rw [decide_eq_true (by omega : ((p.data.size : Nat) : Int) > 0), ite2_true]
      refine ⟨by decide, ?_⟩
      have e2 : (Int.tmod ((p.data.size : Nat) : Int) 8 == 0) = decide (p.data.size % 8 = 0) := by
        have : Int.tmod ((p.data.size : Nat) : Int) 8 = ((p.data.size % 8 : Nat) : Int) := rfl
        rw [this, Bool.eq_iff_iff, beq_iff_eq, decide_eq_true_iff]; omega
      rw [e2]
      rw [decide_eq_true h5] at h
      simpa using h
    · rw [decide_eq_false (by omega : ¬ ((p.data.size : Nat) : Int) > 0), ite2_false]
      rw [decide_eq_false h5] at h
      simpa using h

variable {s : Option Addr} {n c : Nat} {l : List Pc}

/-- A list that is looked through: the function that looks leaves the heaplet as it is. -/
theorem C121 {f : FuncId} {ga gb : List Value} {g : Pc → Bool} (hs : Shows hp s n 6 (l.flatMap pc)) (hl : l.length = n) (hn : n ≤ 1000000000)
    (hf : ∀ x ∈ l, ∀ K : Value → HP → Prop, K (.bool (g x)) hp → CF Try.prog f (ga ++ [.agg ⟨pc x⟩] ++ gb) hp K)
    (h : ∀ v : Int, (decide (v ≥ 0) = l.any g) → K (.int .i64 v) hp) : CF Try.prog 121 [.slice s n c, .func (.func f) ⟨ga⟩ ⟨gb⟩] hp K := by
  refine F121_ok s n c _ hp K ?_
  unfold F121 F121_j1
  refine LoopP.by (J := fun m (y : Int) hp' => hp' = hp ∧ ∃ i : Nat, y = i ∧ i + m = n ∧ (l.take i).any g = false) ?_ (n := n) ⟨rfl, 0, rfl, by omega, rfl⟩
  rintro I m y hp' ⟨rfl, i, rfl, him, hno⟩ hI
  unfold F121_l2
  by_cases hi : i < n
  · rw [decide_eq_true (by omega : (i : Int) < (n : Int)), ite2_true]
    have hil : i < l.length := by omega
    obtain ⟨b, o, hao, hc⟩ := hs.get pc_len hl hi
    simp only [hao, ptrN_some, Int.toNat_natCast, hc, ldL_some, fnV_mk]
    refine ⟨by omega, by omega, ?_⟩
    refine hf _ (List.getElem_mem hil) _ ?_
    rw [boolV_bool]
    have ht : (l.take (i + 1)).any g = ((l.take i).any g || g l[i]) := by
      rw [List.take_succ_eq_append_getElem hil, List.any_append]; simp
    cases hg : g l[i]
    · have w1 : IntKind.wrap .i64 ((i : Int) + 1) = ((i + 1 : Nat) : Int) := wiN (by omega) (by omega)
      rw [ite2_false, w1]
      refine hI (m - 1) _ _ (by omega) ⟨rfl, i + 1, rfl, by omega, ?_⟩
      rw [ht, hno, hg]; rfl
    · rw [ite2_true]
      refine h _ ?_
      rw [decide_eq_true (by omega : (i : Int) ≥ 0)]
      exact (List.any_eq_true.2 ⟨_, List.getElem_mem hil, hg⟩).symm
  · rw [decide_eq_false (by omega : ¬ (i : Int) < (n : Int)), ite2_false]
    rw [List.take_of_length_le (by omega)] at hno
    exact h _ (by rw [hno]; rfl)

theorem C76 {f : FuncId} {ga gb : List Value} {g : Pc → Bool} (hs : Shows hp s n 6 (l.flatMap pc)) (hl : l.length = n) (hn : n ≤ 1000000000)
    (hf : ∀ x ∈ l, ∀ K : Value → HP → Prop, K (.bool (g x)) hp → CF Try.prog f (ga ++ [.agg ⟨pc x⟩] ++ gb) hp K)
    (h : K (.bool (l.any g)) hp) : CF Try.prog 76 [.slice s n c, .func (.func f) ⟨ga⟩ ⟨gb⟩] hp K := by
  refine F76_ok s n c _ hp K ?_
  unfold F76
  refine C121 hs hl hn hf fun v hv => ?_
  rw [intV_int, hv]
  exact h
end

section
variable {f : FuncId} {ga gb : List Value} {hp0 : HP} {b sp n c : Nat} {cf : Pc → Pc → Int}

theorem S169 (hc : CmpOk Try.prog f ga gb hp0 b 29 sp pc n cf) {d : Array Pc} {lo hi : Nat} {K : Value → HP → Prop} (hs : d.size = n) (hlo : lo ≤ hi) (hhi : hi ≤ n) (hn : n ≤ 1000000000)
    (h : K (.tuple ⟨[]⟩) (HA hp0 b 29 sp pc (Sort.insertionSort (ltC cf) d lo hi))) :
    CF Try.prog 169 [.slice (some ⟨b, 0, none⟩) n c, .int .i64 lo, .int .i64 hi, .func (.func f) ⟨ga⟩ ⟨gb⟩] (HA hp0 b 29 sp pc d) K := by
  refine F169_ok _ n c lo hi _ _ K ?_
  unfold F169 F169_j1
  rw [w64 (by omega) (by omega)]
  refine LoopP.by (J := fun k (x : Int) hp => ∃ (i : Nat) (d' : Array Pc), x = i ∧ hp = HA hp0 b 29 sp pc d' ∧ d'.size = n ∧ lo < i ∧ k = hi - i ∧ Sort.insOuter (ltC cf) lo hi i d' = Sort.insertionSort (ltC cf) d lo hi) ?_
    (n := hi - (lo + 1)) ⟨lo + 1, d, by omega, rfl, hs, by omega, rfl, rfl⟩
  rintro I k x hp ⟨i, d', rfl, rfl, hs', hli, rfl, he⟩ hI
  unfold F169_l2
  rw [Sort.insOuter] at he
  by_cases hi' : i < hi
  · rw [decide_eq_true (by omega : (i : Int) < (hi : Int)), ite2_true]
    rw [if_pos hi'] at he
    unfold F169_j4
    refine LoopP.by (J := fun k (y : Int) hp => ∃ (j : Nat) (d2 : Array Pc), y = j ∧ hp = HA hp0 b 29 sp pc d2 ∧ d2.size = n ∧ j < n ∧ k = j ∧ Sort.insInner (ltC cf) lo j d2 = Sort.insInner (ltC cf) lo i d') ?_
      (n := i) ⟨i, d', rfl, rfl, hs', by omega, rfl, rfl⟩
    rintro I2 k2 y hp2 ⟨j, d2, rfl, rfl, hs2, hj, hk2, he2⟩ hI2
    unfold F169_l5
    have out : Sort.insInner (ltC cf) lo i d' = d2 → F169_j6 (some ⟨b, 0, none⟩) n c lo hi (.func (.func f) ⟨ga⟩ ⟨gb⟩) i j false (HA hp0 b 29 sp pc d2) I I2 K := by
      intro heq
      unfold F169_j6 F169_j3
      rw [ite2_false, w64 (by omega) (by omega)]
      exact hI (hi - (i + 1)) _ _ (by omega) ⟨i + 1, d2, by omega, rfl, hs2, by omega, rfl, by rw [← heq]; exact he⟩
    by_cases hjl : lo < j
    · rw [decide_eq_true (by omega : (j : Int) > (lo : Int)), ite2_true]
      obtain ⟨j', rfl⟩ : ∃ j', j = j' + 1 := ⟨j - 1, by omega⟩
      have w1 : IntKind.wrap .i64 (((j' + 1 : Nat) : Int) - 1) = (j' : Int) := by rw [w64 (by omega) (by omega)]; omega
      have g1 := HA.get (hp0 := hp0) (b := b) (e := 29) (sp := sp) pc_len (d := d2) (i := j' + 1) (by omega)
      have g0 := HA.get (hp0 := hp0) (b := b) (e := 29) (sp := sp) pc_len (d := d2) (i := j') (by omega)
      simp only [w1, ptrN_some, Int.toNat_natCast, g1, g0, ldL_some, fnV_mk]
      refine ⟨by omega, by omega, by omega, by omega, ?_⟩
      refine hc d2 _ _ _ hs2 ?_
      rw [intV_int]
      rw [Sort.insInner] at he2
      have hgt : decide (j' + 1 > lo) = true := decide_eq_true (by omega)
      cases hlt : decide (cf d2[j' + 1]! d2[j']! < 0)
      · have : ltC cf d2[j' + 1]! d2[j']! = false := hlt
        rw [hgt, this] at he2
        exact out (by simpa using he2.symm)
      · have : ltC cf d2[j' + 1]! d2[j']! = true := hlt
        rw [hgt, this] at he2
        simp only [Bool.and_self, if_true] at he2
        unfold F169_j6
        simp only [ite2_true, w1, ptrN_some, Int.toNat_natCast, g0, g1, ldL_some]
        refine ⟨by omega, by omega, by omega, by omega, by omega, by omega, rfl, ?_⟩
        refine HA.st pc_len pc_one (by omega) _ ?_
        refine ⟨by omega, by omega, rfl, ?_⟩
        refine HA.st pc_len pc_one (by rw [Array.size_setIfInBounds]; omega) _ ?_
        exact hI2 j' _ _ (by omega) ⟨j', _, rfl, rfl, by rw [Array.size_setIfInBounds, Array.size_setIfInBounds]; exact hs2, by omega, rfl, he2⟩
    · rw [decide_eq_false (by omega : ¬ (j : Int) > (lo : Int)), ite2_false]
      refine out ?_
      cases j with
      | zero => rw [Sort.insInner] at he2; exact he2.symm
      | succ j =>
        rw [Sort.insInner] at he2
        have hgt : decide (j + 1 > lo) = false := decide_eq_false (by omega)
        rw [hgt] at he2
        simpa using he2.symm
  · rw [decide_eq_false (by omega : ¬ (i : Int) < (hi : Int)), ite2_false]
    rw [if_neg hi'] at he
    rw [he]
    exact h
end
end Go.Proofs

set_option linter.unusedVariables false
set_option maxRecDepth 20000
namespace Go.Proofs
open Go Go.HL

/-- A piece speaks against another one. -/
def clash (p q : Pc) : Bool := (decide (p.at_ < q.toW) && decide (q.at_ < p.toW)) || (!p.more && decide (q.toW > p.toW))
def fitsQ (fin : Int) (l : List Pc) (p : Pc) : Bool := !(decide (fin ≥ 0) && (!p.more || decide (p.toW > fin))) && !(l.any (clash p))

/-- A datagram: where it is, where its pieces are, and what it has. -/
structure Dg where
  blk : Nat
  rblk : Nat
  id : Int
  due : Int
  fin : Int
  l : List Pc
def DgR (hp : HP) (d : Dg) : Prop :=
  d.l ≠ [] ∧ ∃ c, d.l.length ≤ c ∧ hp d.blk = .cells 135 [.int .i64 d.id, .int .i64 d.due, .int .i64 d.fin, .slice (some ⟨d.rblk, 0, none⟩) d.l.length c] 0 ∧ hp d.rblk = .cells 29 (d.l.flatMap pc) ((c - d.l.length) * 6)
theorem DgR.sub {hp hp' : HP} {d : Dg} (h : DgR hp d) (hs : HSub hp hp') : DgR hp' d := by
  obtain ⟨h0, c, h1, h2, h3⟩ := h
  exact ⟨h0, c, h1, hs.cells h2, hs.cells h3⟩

section
variable {p q : Pc} {hp : HP} {K : Value → HP → Prop} {d : Dg}

theorem C123 {b : Nat} (hb : hp b = .cells 29 (pc p) 0) (h : K (.bool (clash p q)) hp) : CF Try.prog 123 [.agg ⟨pc q⟩, .pointer (some ⟨b, 0, none⟩)] hp K := by
  refine F123_ok (pc q) _ hp K ?_
  unfold F123
  have k2 : ∀ p : Pc, (pc p)[2]? = some (.int .i64 p.at_) := fun _ => rfl
  have c2 : hp.cell b 2 = some (.int .i64 p.at_) := by rw [HP.cell_of hb]; rfl
  have c3 : hp.cell b 3 = some (.bool p.more) := by rw [HP.cell_of hb]; rfl
  have cN : hp.cellN b 0 6 = some (pc p) := by rw [HP.cellN_of hb]; exact cellsN_all rfl
  unfold clash at h
  have call : ∀ (x : Pc) (X : Int → HP → Prop), X x.toW hp → CF Try.prog 122 [.agg ⟨pc x⟩] hp fun u h => intV u .i64 fun i => X i h := fun x X hx => C122 (by rw [intV_int]; exact hx)
  cases hA : decide (p.at_ < q.toW) <;> cases hB : decide (q.at_ < p.toW) <;> cases hC : p.more
  all_goals
    rw [hA, hB, hC] at h
    repeat' apply And.intro
    all_goals
      repeat (first | (refine call _ _ ?_) | (simp only [ptrN_some, Nat.zero_add, c2, c3, cN, k2, ldV_some, ldL_some, intV_int, boolV_bool, cellsN_all (pc_len _), hA, hB, hC, ite2_true, ite2_false, Bool.not_true, Bool.not_false]))
      simpa using h

theorem C78 (hd : DgR hp d) (hn : d.l.length ≤ 1000000) (h : K (.bool (fitsQ d.fin d.l p)) hp) : CF Try.prog 78 [ptr d.blk 0, .agg ⟨pc p⟩] hp K := by
  refine CF.drop (F78_ok _ (pc p) hp _ ?_)
  unfold F78
  intro b hb
  have sb := HSub.set_fresh hp (.cells 29 (pc p) 0) hb
  have hd1 := hd.sub sb
  have hpb : (hp.set b (.cells 29 (pc p) 0)) b = .cells 29 (pc p) 0 := HP.set_eq ..
  generalize hp.set b (.cells 29 (pc p) 0) = hp1 at *
  obtain ⟨h0, c, h1, h2, h3⟩ := hd1
  have hc : ∀ o, hp1.cell d.blk o = [Value.int .i64 d.id, .int .i64 d.due, .int .i64 d.fin, .slice (some ⟨d.rblk, 0, none⟩) d.l.length c][o]? := fun o => HP.cell_of h2
  have c3 : hp1.cell b 3 = some (.bool p.more) := by rw [HP.cell_of hpb]; rfl
  have cN : hp1.cellN b 0 6 = some (pc p) := by rw [HP.cellN_of hpb]; exact cellsN_all rfl
  have sh : Shows hp1 (some ⟨d.rblk, 0, none⟩) d.l.length 6 (d.l.flatMap pc) := .inr ⟨d.rblk, 0, rfl, by rw [HP.cellN_of h3]; exact cellsN_all (by rw [flat_len pc_len])⟩
  have call : ∀ (x : Pc) (X : Int → HP → Prop), X x.toW hp1 → CF Try.prog 122 [.agg ⟨pc x⟩] hp1 fun u h => intV u .i64 fun i => X i h := fun x X hx => C122 (by rw [intV_int]; exact hx)
  have no : (decide (d.fin ≥ 0) && (!p.more || decide (p.toW > d.fin))) = true → F78_j1 (some ⟨d.blk, 0, none⟩) (some ⟨b, 0, none⟩) true hp1 (fun v hp' => ∃ hp'', HSub hp'' hp' ∧ K v hp'') := by
    intro e
    unfold F78_j1
    rw [ite2_true]
    unfold fitsQ at h
    rw [e] at h
    exact ⟨hp, sb, h⟩
  have yes : (decide (d.fin ≥ 0) && (!p.more || decide (p.toW > d.fin))) = false → F78_j1 (some ⟨d.blk, 0, none⟩) (some ⟨b, 0, none⟩) false hp1 (fun v hp' => ∃ hp'', HSub hp'' hp' ∧ K v hp'') := by
    intro e
    unfold F78_j1
    rw [ite2_false]
    simp only [ptrN_some, hc, Nat.zero_add, List.getElem?_cons_succ, List.getElem?_cons_zero, ldV_some, slcV_slice]
    refine C76 (g := clash p) sh rfl (by omega) (fun x _ K' hK' => C123 hpb hK') ?_
    rw [boolV_bool]
    unfold fitsQ at h
    rw [e] at h
    exact ⟨hp, sb, by simpa using h⟩
  cases hA : decide (d.fin ≥ 0) <;> cases hB : p.more <;> cases hC : decide (p.toW > d.fin)
  all_goals
    rw [hA, hB, hC] at no yes
    apply And.intro
    all_goals
      repeat (first | (refine call _ _ ?_) | (simp only [ptrN_some, hc, c3, cN, Nat.zero_add, List.getElem?_cons_succ, List.getElem?_cons_zero, ldV_some, ldL_some, intV_int, boolV_bool, hA, hB, hC, ite2_true, ite2_false, Bool.not_true, Bool.not_false]))
      first | exact yes rfl | exact no rfl

/-- The head of the piece at 0. -/
def headQ : List Pc → ByteArray
  | [] => ⟨#[]⟩
  | p :: l => if p.at_ = 0 then p.head else headQ l

theorem C110 (hd : DgR hp d) (hn : d.l.length ≤ 1000000) (h : K (.string (headQ d.l)) hp) : CF Try.prog 110 [ptr d.blk 0] hp K := by
  refine F110_ok _ hp K ?_
  unfold F110
  obtain ⟨h0, c, h1, h2, h3⟩ := hd
  have hc : ∀ o, hp.cell d.blk o = [Value.int .i64 d.id, .int .i64 d.due, .int .i64 d.fin, .slice (some ⟨d.rblk, 0, none⟩) d.l.length c][o]? := fun o => HP.cell_of h2
  have sh : Shows hp (some ⟨d.rblk, 0, none⟩) d.l.length 6 (d.l.flatMap pc) := .inr ⟨d.rblk, 0, rfl, by rw [HP.cellN_of h3]; exact cellsN_all (by rw [flat_len pc_len])⟩
  simp only [ptrN_some, hc, Nat.zero_add, List.getElem?_cons_succ, List.getElem?_cons_zero, ldV_some, slcV_slice]
  unfold F110_j1
  refine LoopP.by (J := fun m (y : Int) hp' => hp' = hp ∧ ∃ i : Nat, y = i ∧ i + m = d.l.length ∧ headQ d.l = headQ (d.l.drop i)) ?_ (n := d.l.length) ⟨rfl, 0, rfl, by omega, by simp⟩
  rintro I m y hp' ⟨rfl, i, rfl, him, hh⟩ hI
  unfold F110_l2
  by_cases hi : i < d.l.length
  · rw [decide_eq_true (by omega : (i : Int) < (d.l.length : Int)), ite2_true]
    obtain ⟨b, o, hao, hg⟩ := sh.get pc_len rfl hi
    have hz : splice [(Value.string ⟨#[]⟩), (Value.string ⟨#[]⟩), (Value.int .i64 0), (Value.bool false), (Value.string ⟨#[]⟩), (Value.string ⟨#[]⟩)] 0 (pc d.l[i]) = pc d.l[i] := splice_all rfl
    have k2 : (pc d.l[i])[2]? = some (.int .i64 d.l[i].at_) := rfl
    have k5 : (pc d.l[i])[5]? = some (.string d.l[i].head) := rfl
    cases hao
    simp only [ptrN_some, Int.toNat_natCast, hg, ldL_some, pc_len, pc_one, if_true, hz, k2, k5, ldV_some, intV_int, strV_string]
    refine ⟨by omega, by omega, ?_⟩
    refine ifI (Nat.le_refl _) ?_
    rw [List.drop_eq_getElem_cons hi, headQ] at hh
    by_cases h0 : d.l[i].at_ = 0
    · have e : (d.l[i].at_ == 0) = true := by simpa using h0
      rw [e, ite2_true]
      rw [if_pos h0] at hh
      rw [hh] at h; exact h
    · have e : (d.l[i].at_ == 0) = false := by simpa using h0
      have w1 : IntKind.wrap .i64 ((i : Int) + 1) = ((i + 1 : Nat) : Int) := wiN (by omega) (by omega)
      rw [e, ite2_false, w1]
      rw [if_neg h0] at hh
      exact hI (m - 1) _ _ (by omega) ⟨rfl, i + 1, rfl, by omega, hh⟩
  · rw [decide_eq_false (by omega : ¬ (i : Int) < (d.l.length : Int)), ite2_false]
    rw [List.drop_of_length_le (by omega), headQ] at hh
    rw [hh] at h; exact h
end

/-! The sort of a datagram's pieces. -/
def cfP (x y : Pc) : Int := if cmpN x.at_ y.at_ ≠ 0 then cmpN x.at_ y.at_ else cmpN x.toW y.toW
theorem cfP_lt {a b : Pc} : ltC cfP a b = true ↔ a.at_ < b.at_ ∨ (a.at_ = b.at_ ∧ a.toW < b.toW) := by
  unfold ltC cfP cmpN
  rw [decide_eq_true_iff]
  repeat' split
  all_goals omega
theorem cfP_ltf {a b : Pc} : ltC cfP a b = false ↔ ¬ (a.at_ < b.at_ ∨ (a.at_ = b.at_ ∧ a.toW < b.toW)) := by
  rw [← cfP_lt]; simp
theorem swo_cfP : Sort.SWO (ltC cfP) where
  irrefl x := by rw [cfP_ltf]; omega
  trans x y z := by simp only [cfP_lt]; omega
  ntrans x y z := by simp only [cfP_ltf]; omega

theorem C125 {x y : Pc} {hp : HP} {K : Value → HP → Prop} (h : K (.int .i64 (cfP x y)) hp) : CF Try.prog 125 [.agg ⟨pc x⟩, .agg ⟨pc y⟩] hp K := by
  refine CF.drop (F125_ok (pc x) (pc y) hp _ ?_)
  unfold F125
  have k2 : ∀ p : Pc, (pc p)[2]? = some (.int .i64 p.at_) := fun _ => rfl
  simp only [k2, ldV_some, intV_int, cellsN_all (pc_len _), ldL_some]
  refine D97 ?_
  rw [intV_int]
  refine C122 ?_
  rw [intV_int]
  refine C122 ?_
  rw [intV_int]
  refine D97 ?_
  rw [intV_int]
  intro b hb
  refine D96 (HP.set_eq ..) ?_
  rw [intV_int]
  exact ⟨hp, HSub.set_fresh hp _ hb, h⟩

theorem list_sorted {α : Type} [Inhabited α] {lt : α → α → Bool} {l : List α} {n : Nat} {d' : Array α} (hl : l.length = n) (hpm : Sort.PermIn 0 n l.toArray d') (hst : Sort.SortedIn lt 0 n d') : d'.toList.Perm l ∧ d'.toList.Pairwise (fun x y => lt y x = false) := by
  have hsz : d'.size = n := by rw [hpm.1]; simpa using hl
  refine ⟨?_, ?_⟩
  · have h3 := hpm.2.2
    have e1 : d'.extract 0 n = d' := by rw [← hsz]; simp
    have e2 : l.toArray.extract 0 n = l.toArray := by rw [← hl]; simp
    rw [e1, e2] at h3
    exact h3
  · rw [List.pairwise_iff_getElem]
    intro i j hi hj hij
    have := hst i j (Nat.zero_le _) hij (by simpa [hsz] using hj)
    rw [getElem!_pos d' j (by simpa using hj), getElem!_pos d' i (by simpa using hi)] at this
    simpa using this

end Go.Proofs

namespace Go.HL
open Go

section
variable {α : Type} {hp0 : HP} {b : Nat} {e : TypeId} {sp : Nat} {en : α → List Value} {d : Array α}
theorem HA.set_comm {r : Nat} (hr : r ≠ b) (x : Ent) : (HA hp0 b e sp en d).set r x = HA (hp0.set r x) b e sp en d := by
  unfold HA; rw [HP.set_comm _ _ _ hr]
theorem HA.ne {r : Nat} (h : r ≠ b) : HA hp0 b e sp en d r = hp0 r := by
  unfold HA; rw [HP.set_ne _ _ h]

end

section
variable {α : Type} [Inhabited α] {P : Program} {f : FuncId} {ga gb : List Value} {hp0 : HP} {b : Nat} {e : TypeId} {sp size : Nat} {en : α → List Value} {n : Nat} {cf : α → α → Int} {d : Array α}

theorem cmpP (hc : CmpOk P f ga gb hp0 b e sp en n cf) (he : ∀ x, (en x).length = size) {I J : Int} {i j : Nat} {X : Int → HP → Prop} (hs : d.size = n) (hI : I = i) (hJ : J = j) (hi : i < n) (hj : j < n)
    (h : X (cf d[i]! d[j]!) (HA hp0 b e sp en d)) :
    ((0 ≤ I) ∧ (I < (n : Nat)) ∧ (ptrN (some ⟨b, 0, none⟩) fun b1 o2 => (ldL (HP.cellN (HA hp0 b e sp en d) b1 (o2 + Int.toNat I * size) size) fun l3 => ((0 ≤ J) ∧ (J < (n : Nat)) ∧ (ptrN (some ⟨b, 0, none⟩) fun b4 o5 => (ldL (HP.cellN (HA hp0 b e sp en d) b4 (o5 + Int.toNat J * size) size) fun l6 =>
      (fnV (.func (.func f) ⟨ga⟩ ⟨gb⟩) fun f7 ga8 gb9 => (CF P f7 (ga8 ++ [(Value.agg ⟨l3⟩), (Value.agg ⟨l6⟩)] ++ gb9) (HA hp0 b e sp en d) fun u10 h11 => (intV u10 .i64 fun i12 => X i12 h11))))))))) := by
  subst hI hJ
  have g1 := HA.get (hp0 := hp0) (b := b) (e := e) (sp := sp) he (d := d) (i := i) (by omega)
  have g2 := HA.get (hp0 := hp0) (b := b) (e := e) (sp := sp) he (d := d) (i := j) (by omega)
  simp only [ptrN_some, Int.toNat_natCast, g1, g2, ldL_some, fnV_mk]
  refine ⟨by omega, by omega, by omega, by omega, ?_⟩
  refine hc d _ _ _ hs ?_
  rw [intV_int]
  exact h

theorem swapP (he : ∀ x, (en x).length = size) (h1 : ∀ x, (en x).all one = true) {I J : Int} {i j : Nat} {X : HP → Prop} (hs : d.size = n) (hI : I = i) (hJ : J = j) (hi : i < n) (hj : j < n)
    (h : X (HA hp0 b e sp en (Sort.swp d i j))) :
    ((0 ≤ J) ∧ (J < (n : Nat)) ∧ (ptrN (some ⟨b, 0, none⟩) fun b1 o2 => (ldL (HP.cellN (HA hp0 b e sp en d) b1 (o2 + Int.toNat J * size) size) fun l3 => ((0 ≤ I) ∧ (I < (n : Nat)) ∧ (ptrN (some ⟨b, 0, none⟩) fun b4 o5 => (ldL (HP.cellN (HA hp0 b e sp en d) b4 (o5 + Int.toNat I * size) size) fun l6 =>
      ((0 ≤ I) ∧ (I < (n : Nat)) ∧ (ptrN (some ⟨b, 0, none⟩) fun b7 o8 => ((List.length l3 = size) ∧ (HP.stN (HA hp0 b e sp en d) b7 (o8 + Int.toNat I * size) l3 fun h9 => ((0 ≤ J) ∧ (J < (n : Nat)) ∧ (ptrN (some ⟨b, 0, none⟩) fun b10 o11 => ((List.length l6 = size) ∧ (HP.stN h9 b10 (o11 + Int.toNat J * size) l6 fun h12 => X h12)))))))))))))) := by
  subst hI hJ
  have g1 := HA.get (hp0 := hp0) (b := b) (e := e) (sp := sp) he (d := d) (i := i) (by omega)
  have g2 := HA.get (hp0 := hp0) (b := b) (e := e) (sp := sp) he (d := d) (i := j) (by omega)
  simp only [ptrN_some, Int.toNat_natCast, g1, g2, ldL_some]
  refine ⟨by omega, by omega, by omega, by omega, by omega, by omega, he _, ?_⟩
  refine HA.st he h1 (by omega) _ ?_
  refine ⟨by omega, by omega, he _, ?_⟩
  refine HA.st he h1 (by rw [Array.size_setIfInBounds]; omega) _ ?_
  exact h

/-- A comparison that holds whatever else is known. -/
def CmpX (P : Program) (f : FuncId) (ga gb : List Value) (hp0 : HP) (b : Nat) (e : TypeId) (sp : Nat) (en : α → List Value) (n : Nat) (cf : α → α → Int) : Prop :=
  ∀ hp1, HSub hp0 hp1 → CmpOk P f ga gb hp1 b e sp en n cf

theorem CmpX.sub {hp1 : HP} (h : CmpX P f ga gb hp0 b e sp en n cf) (hs : HSub hp0 hp1) : CmpX P f ga gb hp1 b e sp en n cf := fun hp2 h2 => h hp2 (hs.trans h2)
theorem CmpX.ok (h : CmpX P f ga gb hp0 b e sp en n cf) : CmpOk P f ga gb hp0 b e sp en n cf := h hp0 (HSub.refl _)
end
end Go.HL

set_option linter.unusedVariables false
set_option maxRecDepth 20000
namespace Go.Proofs
open Go Go.HL

theorem half {x y : Nat} (hx : x ≤ 1000000000) (hy : y ≤ 1000000000) : IntKind.wrap .i64 (Int.fdiv (IntKind.wrap .u64 (IntKind.wrap .i64 ((x : Int) + (y : Int)))) (2 ^ (min (Int.toNat 1) (IntKind.bits .u64)))) = (((x + y) / 2 : Nat) : Int) := by
  have e1 : IntKind.wrap .i64 ((x : Int) + (y : Int)) = ((x + y : Nat) : Int) := wiN (by omega) (by omega)
  have e2 : (2 : Int) ^ (min (Int.toNat 1) (IntKind.bits .u64)) = 2 := rfl
  have e3 : IntKind.wrap .u64 ((x + y : Nat) : Int) = ((x + y : Nat) : Int) := by
    exact wu64 (by omega) (by omega)
  rw [e1, e2, e3]
  have e4 : Int.fdiv ((x + y : Nat) : Int) 2 = (((x + y) / 2 : Nat) : Int) := by
    rw [Int.fdiv_eq_ediv_of_nonneg _ (by omega)]; omega
  rw [e4]
  exact wiN rfl (by omega)

theorem swf_zero {α : Type} (g : Nat → α) (a b : Nat) : swf g a b 0 = g := by
  funext k; unfold swf; rw [if_neg (by omega), if_neg (by omega)]
theorem upf_zero {α : Type} (g : Nat → α) (a : Nat) : upf g a a = g := by
  funext k; unfold upf; rw [if_neg (by omega)]; split
  · rename_i h; rw [h]
  · rfl
theorem dnf_zero {α : Type} (g : Nat → α) (m : Nat) : dnf g m m = g := by
  funext k; unfold dnf; rw [if_neg (by omega)]; split
  · rename_i h; rw [h]
  · rfl

section
variable {f : FuncId} {ga gb : List Value} {hp0 : HP} {b sp n c : Nat} {cf : Pc → Pc → Int}

theorem S195 {v : Value} {d : Array Pc} {x y k : Nat} {K : Value → HP → Prop} (hs : d.size = n) (hxy : x + k ≤ y) (hy : y + k ≤ n) (hn : n ≤ 1000000)
    (h : ∀ d', d'.size = n → gA d' = swf (gA d) x y k → Sort.PermIn x (y + k) d d' → K (.tuple ⟨[]⟩) (HA hp0 b 29 sp pc d')) :
    CF Try.prog 195 [.slice (some ⟨b, 0, none⟩) n c, .int .i64 x, .int .i64 y, .int .i64 k, v] (HA hp0 b 29 sp pc d) K := by
  refine F195_ok _ n c x y k v _ K ?_
  unfold F195 F195_j1
  refine LoopP.by (J := fun r (z : Int) hp => ∃ (i : Nat) (d' : Array Pc), z = i ∧ hp = HA hp0 b 29 sp pc d' ∧ d'.size = n ∧ i + r = k ∧ gA d' = swf (gA d) x y i ∧ Sort.PermIn x (y + k) d d') ?_
    (n := k) ⟨0, d, rfl, rfl, hs, by omega, (swf_zero _ _ _).symm, Sort.permIn_refl d _ _⟩
  rintro I r z hp ⟨i, d', rfl, rfl, hs', hir, hg, hp'⟩ hI
  unfold F195_l2
  by_cases hi : i < k
  · rw [decide_eq_true (by omega : (i : Int) < (k : Int)), ite2_true]
    have w1 : IntKind.wrap .i64 ((x : Int) + (i : Int)) = ((x + i : Nat) : Int) := wiN (by omega) (by omega)
    have w2 : IntKind.wrap .i64 ((y : Int) + (i : Int)) = ((y + i : Nat) : Int) := wiN (by omega) (by omega)
    have w3 : IntKind.wrap .i64 ((i : Int) + 1) = ((i + 1 : Nat) : Int) := wiN (by omega) (by omega)
    rw [w1, w2, w3]
    refine swapP pc_len pc_one hs' rfl rfl (i := x + i) (j := y + i) (by omega) (by omega) ?_
    refine hI (r - 1) _ _ (by omega) ⟨i + 1, _, rfl, rfl, by rw [swp_size]; exact hs', by omega, swf_step hg (by omega) (by omega), ?_⟩
    exact Sort.permIn_trans _ _ _ _ _ hp' (Sort.swp_permIn d' _ _ _ _ (by omega) (by omega) (by omega) (by omega) (by omega))
  · rw [decide_eq_false (by omega : ¬ (i : Int) < (k : Int)), ite2_false]
    have : i = k := by omega
    subst this
    exact h d' hs' hg hp'

theorem S188 {v : Value} {d : Array Pc} {x m y : Nat} {K : Value → HP → Prop} (hs : d.size = n) (hxm : x < m) (hmy : m < y) (hy : y ≤ n) (hn : n ≤ 1000000)
    (h : ∀ d', d'.size = n → gA d' = rotf (gA d) x m y → Sort.PermIn x y d d' → K (.tuple ⟨[]⟩) (HA hp0 b 29 sp pc d')) :
    CF Try.prog 188 [.slice (some ⟨b, 0, none⟩) n c, .int .i64 x, .int .i64 m, .int .i64 y, v] (HA hp0 b 29 sp pc d) K := by
  refine F188_ok _ n c x m y v _ K ?_
  unfold F188 F188_j1
  have w1 : IntKind.wrap .i64 ((m : Int) - (x : Int)) = ((m - x : Nat) : Int) := wiN (by omega) (by omega)
  have w2 : IntKind.wrap .i64 ((y : Int) - (m : Int)) = ((y - m : Nat) : Int) := wiN (by omega) (by omega)
  rw [w1, w2]
  refine LoopP.by (J := fun r (z : Int × Int) hp => ∃ (i j : Nat) (d' : Array Pc), z = ((i : Int), (j : Int)) ∧ hp = HA hp0 b 29 sp pc d' ∧ d'.size = n ∧ r = i + j ∧ 0 < i ∧ 0 < j ∧ x + i ≤ m ∧ m + j ≤ y ∧ rotf (gA d') (m - i) m (m + j) = rotf (gA d) x m y ∧ Sort.PermIn x y d d') ?_
    (n := (m - x) + (y - m)) ⟨m - x, y - m, d, rfl, rfl, hs, rfl, by omega, by omega, by omega, by omega, by congr 1 <;> omega, Sort.permIn_refl d _ _⟩
  rintro I r z hp ⟨i, j, d', rfl, rfl, hs', hr, hi0, hj0, hi, hj, hg, hp'⟩ hI
  unfold F188_l3
  simp only []
  have w3 : IntKind.wrap .i64 ((m : Int) - (i : Int)) = ((m - i : Nat) : Int) := wiN (by omega) (by omega)
  have w4 : IntKind.wrap .i64 ((m : Int) + (j : Int)) = ((m + j : Nat) : Int) := wiN (by omega) (by omega)
  have w5 : IntKind.wrap .i64 (((m + j : Nat) : Int) - (i : Int)) = ((m + j - i : Nat) : Int) := wiN (by omega) (by omega)
  rw [w3, w4, w5]
  by_cases hij : i = j
  · have e : ((i : Int) != (j : Int)) = false := by rw [hij]; simp
    rw [e, ite2_false]
    unfold F188_j2
    rw [w3]
    refine S195 hs' (by omega) (by omega) hn ?_
    intro d2 hs2 hg2 hp2
    refine h d2 hs2 ?_ (Sort.permIn_trans _ _ _ _ _ hp' (Sort.permIn_mono _ _ _ _ _ _ (by omega) (by omega) (by omega) hp2))
    rw [hg2, rot_same (by omega), ← hg, hij]
  · have e : ((i : Int) != (j : Int)) = true := by rw [bne_iff_ne]; omega
    rw [e, ite2_true]
    by_cases hgt : i > j
    · rw [decide_eq_true (by omega : (i : Int) > (j : Int)), ite2_true]
      have w6 : IntKind.wrap .i64 ((i : Int) - (j : Int)) = ((i - j : Nat) : Int) := wiN (by omega) (by omega)
      rw [w6]
      refine S195 hs' (by omega) (by omega) hn ?_
      intro d2 hs2 hg2 hp2
      refine hI (i - j + j) _ _ (by omega) ⟨i - j, j, d2, rfl, rfl, hs2, rfl, by omega, hj0, by omega, hj, ?_, Sort.permIn_trans _ _ _ _ _ hp' (Sort.permIn_mono _ _ _ _ _ _ (by omega) (by omega) (by omega) hp2)⟩
      rw [hg2, rot_left (by omega) hgt hj0, hg]
    · rw [decide_eq_false (by omega : ¬ (i : Int) > (j : Int)), ite2_false]
      have w6 : IntKind.wrap .i64 ((j : Int) - (i : Int)) = ((j - i : Nat) : Int) := wiN (by omega) (by omega)
      rw [w6]
      refine S195 hs' (by omega) (by omega) hn ?_
      intro d2 hs2 hg2 hp2
      refine hI (i + (j - i)) _ _ (by omega) ⟨i, j - i, d2, rfl, rfl, hs2, rfl, hi0, by omega, hi, by omega, ?_, Sort.permIn_trans _ _ _ _ _ hp' (Sort.permIn_mono _ _ _ _ _ _ (by omega) (by omega) (by omega) hp2)⟩
      rw [hg2, rot_right (by omega) (by omega) hi0, hg]

theorem S170 (hc : CmpOk Try.prog f ga gb hp0 b 29 sp pc n cf) (hS : Sort.SWO (ltC cf)) (hn : n ≤ 1000000) : ∀ (N : Nat) {d : Array Pc} {x m y : Nat} {K : Value → HP → Prop}, y - x ≤ N → d.size = n → x < m → m < y → y ≤ n →
    (∀ d', d'.size = n → Sort.PermIn x y d d' → (Sort.SortedIn (ltC cf) x m d → Sort.SortedIn (ltC cf) m y d → Sort.SortedIn (ltC cf) x y d') → K (.tuple ⟨[]⟩) (HA hp0 b 29 sp pc d')) →
    CF Try.prog 170 [.slice (some ⟨b, 0, none⟩) n c, .int .i64 x, .int .i64 m, .int .i64 y, .func (.func f) ⟨ga⟩ ⟨gb⟩] (HA hp0 b 29 sp pc d) K := by
  intro N
  induction N with
  | zero => intro d x m y K h0 _ h1 h2; omega
  | succ N ih =>
  intro d x m y K hN hs hxm hmy hy h
  refine F170_ok _ n c x m y _ _ K ?_
  unfold F170
  have w1 : IntKind.wrap .i64 ((m : Int) - (x : Int)) = ((m - x : Nat) : Int) := wiN (by omega) (by omega)
  have w2 : IntKind.wrap .i64 ((y : Int) - (m : Int)) = ((y - m : Nat) : Int) := wiN (by omega) (by omega)
  rw [w1]
  by_cases h1 : m = x + 1
  · -- one thing on the left
    have e : (((m - x : Nat) : Int) == 1) = true := by rw [beq_iff_eq]; omega
    rw [e, ite2_true]
    unfold F170_j17
    refine LoopP.by (J := fun r (z : Int × Int) hp => ∃ (i j : Nat), z = ((i : Int), (j : Int)) ∧ hp = HA hp0 b 29 sp pc d ∧ r = j - i ∧ m ≤ i ∧ i ≤ j ∧ j ≤ y ∧ (i = m ∨ ltC cf d[i - 1]! d[x]! = true) ∧ (j = y ∨ ltC cf d[j]! d[x]! = false)) ?_
      (n := y - m) ⟨m, y, rfl, rfl, rfl, by omega, by omega, by omega, .inl rfl, .inl rfl⟩
    rintro I r z hp ⟨i, j, rfl, rfl, rfl, hmi, hij, hjy, q1, q2⟩ hI
    unfold F170_l21
    simp only []
    by_cases hlt : i < j
    · rw [decide_eq_true (by omega : (i : Int) < (j : Int)), ite2_true, half (by omega) (by omega)]
      refine ⟨by decide, ?_⟩
      have w3 : IntKind.wrap .i64 ((((i + j) / 2 : Nat) : Int) + 1) = (((i + j) / 2 + 1 : Nat) : Int) := wiN (by omega) (by omega)
      rw [w3]
      refine cmpP hc pc_len hs rfl rfl (i := (i + j) / 2) (j := x) (by omega) (by omega) ?_
      cases hl : ltC cf d[(i + j) / 2]! d[x]!
      · have e2 : decide (cf d[(i + j) / 2]! d[x]! < 0) = false := hl
        rw [e2, ite2_false]
        exact hI _ _ _ (by omega) ⟨i, (i + j) / 2, rfl, rfl, rfl, hmi, by omega, by omega, q1, .inr hl⟩
      · have e2 : decide (cf d[(i + j) / 2]! d[x]! < 0) = true := hl
        rw [e2, ite2_true]
        exact hI _ _ _ (by omega) ⟨(i + j) / 2 + 1, j, rfl, rfl, rfl, by omega, by omega, hjy, .inr (by simpa using hl), q2⟩
    · rw [decide_eq_false (by omega : ¬ (i : Int) < (j : Int)), ite2_false]
      have hji : j = i := by omega
      subst hji
      unfold F170_j18 F170_j19
      have hf : HL.Found (fun h => ltC cf d[h]! d[x]!) (x + 1) y j := ⟨by omega, hjy, by rw [← h1]; exact q1, q2⟩
      refine LoopP.by (J := fun r (z : Int) hp => ∃ (k : Nat) (d' : Array Pc), z = k ∧ hp = HA hp0 b 29 sp pc d' ∧ d'.size = n ∧ x ≤ k ∧ k + r = j - 1 ∧ gA d' = upf (gA d) x k ∧ Sort.PermIn x y d d') ?_
        (n := j - 1 - x) ⟨x, d, rfl, rfl, hs, Nat.le_refl _, by omega, (upf_zero _ _).symm, Sort.permIn_refl d _ _⟩
      rintro I2 r2 z2 hp2 ⟨k, d', rfl, rfl, hs', hxk, hkr, hg, hp'⟩ hI2
      unfold F170_l20
      have w3 : IntKind.wrap .i64 ((j : Int) - 1) = ((j - 1 : Nat) : Int) := wiN (by omega) (by omega)
      have w4 : IntKind.wrap .i64 ((k : Int) + 1) = ((k + 1 : Nat) : Int) := wiN (by omega) (by omega)
      rw [w3]
      by_cases hk : k < j - 1
      · rw [decide_eq_true (by omega : (k : Int) < ((j - 1 : Nat) : Int)), ite2_true, w4]
        refine swapP pc_len pc_one hs' rfl rfl (i := k) (j := k + 1) (by omega) (by omega) ?_
        refine hI2 (r2 - 1) _ _ (by omega) ⟨k + 1, _, rfl, rfl, by rw [swp_size]; exact hs', by omega, by omega, upf_step hxk hg (by omega), ?_⟩
        exact Sort.permIn_trans _ _ _ _ _ hp' (Sort.swp_permIn d' _ _ _ _ (by omega) (by omega) (by omega) (by omega) (by omega))
      · rw [decide_eq_false (by omega : ¬ (k : Int) < ((j - 1 : Nat) : Int)), ite2_false]
        have hkj : k = j - 1 := by omega
        subst hkj
        exact h d' hs' hp' fun _ s2 => up_sorted hS (by omega) (by rw [← h1]; exact s2) hf hg
  have e : (((m - x : Nat) : Int) == 1) = false := by rw [beq_eq_false_iff_ne]; omega
  rw [e, ite2_false]
  unfold F170_j1
  rw [w2]
  by_cases h2 : y = m + 1
  · -- one thing on the right
    have e : (((y - m : Nat) : Int) == 1) = true := by rw [beq_iff_eq]; omega
    rw [e, ite2_true]
    unfold F170_j12
    refine LoopP.by (J := fun r (z : Int × Int) hp => ∃ (i j : Nat), z = ((i : Int), (j : Int)) ∧ hp = HA hp0 b 29 sp pc d ∧ r = j - i ∧ x ≤ i ∧ i ≤ j ∧ j ≤ m ∧ (i = x ∨ (!ltC cf d[m]! d[i - 1]!) = true) ∧ (j = m ∨ (!ltC cf d[m]! d[j]!) = false)) ?_
      (n := m - x) ⟨x, m, rfl, rfl, rfl, by omega, by omega, by omega, .inl rfl, .inl rfl⟩
    rintro I r z hp ⟨i, j, rfl, rfl, rfl, hmi, hij, hjy, q1, q2⟩ hI
    unfold F170_l16
    simp only []
    by_cases hlt : i < j
    · rw [decide_eq_true (by omega : (i : Int) < (j : Int)), ite2_true, half (by omega) (by omega)]
      refine ⟨by decide, ?_⟩
      have w3 : IntKind.wrap .i64 ((((i + j) / 2 : Nat) : Int) + 1) = (((i + j) / 2 + 1 : Nat) : Int) := wiN (by omega) (by omega)
      rw [w3]
      refine cmpP hc pc_len hs rfl rfl (i := m) (j := (i + j) / 2) (by omega) (by omega) ?_
      cases hl : ltC cf d[m]! d[(i + j) / 2]!
      · have e2 : decide (cf d[m]! d[(i + j) / 2]! < 0) = false := hl
        rw [e2, Bool.not_false, ite2_true]
        exact hI _ _ _ (by omega) ⟨(i + j) / 2 + 1, j, rfl, rfl, rfl, by omega, by omega, hjy, .inr (by simp [hl]), q2⟩
      · have e2 : decide (cf d[m]! d[(i + j) / 2]! < 0) = true := hl
        rw [e2, Bool.not_true, ite2_false]
        exact hI _ _ _ (by omega) ⟨i, (i + j) / 2, rfl, rfl, rfl, hmi, by omega, by omega, q1, .inr (by simp [hl])⟩
    · rw [decide_eq_false (by omega : ¬ (i : Int) < (j : Int)), ite2_false]
      have hji : j = i := by omega
      subst hji
      unfold F170_j13 F170_j14
      have hf : HL.Found (fun h => !ltC cf d[m]! d[h]!) x m j := ⟨hmi, hjy, q1, q2⟩
      refine LoopP.by (J := fun r (z : Int) hp => ∃ (k : Nat) (d' : Array Pc), z = k ∧ hp = HA hp0 b 29 sp pc d' ∧ d'.size = n ∧ k ≤ m ∧ k = j + r ∧ gA d' = dnf (gA d) k m ∧ Sort.PermIn x y d d') ?_
        (n := m - j) ⟨m, d, rfl, rfl, hs, Nat.le_refl _, by omega, (dnf_zero _ _).symm, Sort.permIn_refl d _ _⟩
      rintro I2 r2 z2 hp2 ⟨k, d', rfl, rfl, hs', hxk, hkr, hg, hp'⟩ hI2
      unfold F170_l15
      by_cases hk : j < k
      · rw [decide_eq_true (by omega : (k : Int) > (j : Int)), ite2_true]
        obtain ⟨k', rfl⟩ : ∃ k', k = k' + 1 := ⟨k - 1, by omega⟩
        have w4 : IntKind.wrap .i64 (((k' + 1 : Nat) : Int) - 1) = (k' : Int) := wiN (by omega) (by omega)
        rw [w4]
        refine swapP pc_len pc_one hs' rfl rfl (i := k' + 1) (j := k') (by omega) (by omega) ?_
        refine hI2 (r2 - 1) _ _ (by omega) ⟨k', _, rfl, rfl, by rw [swp_size]; exact hs', by omega, by omega, dnf_step hxk hg (by omega), ?_⟩
        exact Sort.permIn_trans _ _ _ _ _ hp' (Sort.swp_permIn d' _ _ _ _ (by omega) (by omega) (by omega) (by omega) (by omega))
      · rw [decide_eq_false (by omega : ¬ (k : Int) > (j : Int)), ite2_false]
        have hkj : k = j := by omega
        subst hkj
        exact h d' hs' hp' fun s1 _ => by rw [h2]; exact dn_sorted hS (by omega) s1 hf hg
  have e : (((y - m : Nat) : Int) == 1) = false := by rw [beq_eq_false_iff_ne]; omega
  rw [e, ite2_false]
  unfold F170_j2
  rw [half (by omega) (by omega)]
  refine ⟨by decide, ?_⟩
  have hmid0 : x + 1 < (x + y) / 2 := by omega
  generalize hmid : (x + y) / 2 = mid at *
  have w3 : IntKind.wrap .i64 ((mid : Int) + (m : Int)) = ((mid + m : Nat) : Int) := wiN (by omega) (by omega)
  rw [w3]
  -- whatever the bounds of the search
  have go : ∀ lo hi : Nat, (lo = if m > mid then mid + m - y else x) → (hi = if m > mid then mid else m) → F170_j3 (some ⟨b, 0, none⟩) n c x m y (.func (.func f) ⟨ga⟩ ⟨gb⟩) mid ((mid + m : Nat) : Int) lo hi (HA hp0 b 29 sp pc d) K := by
    intro lo hi hlo hhi
    have hb0 : x ≤ lo ∧ lo ≤ hi ∧ hi ≤ m ∧ hi ≤ mid ∧ mid + m - lo ≤ y ∧ m ≤ mid + m - lo := by split at hlo <;> split at hhi <;> omega
    obtain ⟨b1, b2, b3, b4, b5, b6⟩ := hb0
    unfold F170_j3 F170_j4
    have w4 : IntKind.wrap .i64 (((mid + m : Nat) : Int) - 1) = ((mid + m - 1 : Nat) : Int) := wiN (by omega) (by omega)
    rw [w4]
    refine LoopP.by (J := fun r (z : Int × Int) hp => ∃ (i j : Nat), z = ((i : Int), (j : Int)) ∧ hp = HA hp0 b 29 sp pc d ∧ r = j - i ∧ lo ≤ i ∧ i ≤ j ∧ j ≤ hi ∧ (i = lo ∨ (!ltC cf d[mid + m - 1 - (i - 1)]! d[i - 1]!) = true) ∧ (j = hi ∨ (!ltC cf d[mid + m - 1 - j]! d[j]!) = false)) ?_
      (n := hi - lo) ⟨lo, hi, rfl, rfl, rfl, by omega, by omega, by omega, .inl rfl, .inl rfl⟩
    rintro I r z hp ⟨i, j, rfl, rfl, rfl, hmi, hij, hjy, q1, q2⟩ hI
    unfold F170_l11
    simp only []
    by_cases hlt : i < j
    · rw [decide_eq_true (by omega : (i : Int) < (j : Int)), ite2_true, half (by omega) (by omega)]
      refine ⟨by decide, ?_⟩
      have w5 : IntKind.wrap .i64 ((((i + j) / 2 : Nat) : Int) + 1) = (((i + j) / 2 + 1 : Nat) : Int) := wiN (by omega) (by omega)
      have w6 : IntKind.wrap .i64 (((mid + m - 1 : Nat) : Int) - (((i + j) / 2 : Nat) : Int)) = ((mid + m - 1 - (i + j) / 2 : Nat) : Int) := wiN (by omega) (by omega)
      rw [w5, w6]
      refine cmpP hc pc_len hs rfl rfl (i := mid + m - 1 - (i + j) / 2) (j := (i + j) / 2) (by omega) (by omega) ?_
      cases hl : ltC cf d[mid + m - 1 - (i + j) / 2]! d[(i + j) / 2]!
      · have e2 : decide (cf d[mid + m - 1 - (i + j) / 2]! d[(i + j) / 2]! < 0) = false := hl
        rw [e2, Bool.not_false, ite2_true]
        exact hI _ _ _ (by omega) ⟨(i + j) / 2 + 1, j, rfl, rfl, rfl, by omega, by omega, hjy, .inr (by simp [hl]), q2⟩
      · have e2 : decide (cf d[mid + m - 1 - (i + j) / 2]! d[(i + j) / 2]! < 0) = true := hl
        rw [e2, Bool.not_true, ite2_false]
        exact hI _ _ _ (by omega) ⟨i, (i + j) / 2, rfl, rfl, rfl, hmi, by omega, by omega, q1, .inr (by simp [hl])⟩
    rw [decide_eq_false (by omega : ¬ (i : Int) < (j : Int)), ite2_false]
    have hji : j = i := by omega
    subst hji
    have hf : HL.Found (fun c => !ltC cf d[mid + m - 1 - c]! d[c]!) lo hi j := ⟨hmi, hjy, q1, q2⟩
    clear hI
    unfold F170_j5
    have w5 : IntKind.wrap .i64 (((mid + m : Nat) : Int) - (j : Int)) = ((mid + m - j : Nat) : Int) := wiN (by omega) (by omega)
    rw [w5]
    generalize he : mid + m - j = e' at *
    have c1 : x ≤ j ∧ j ≤ mid ∧ j ≤ m ∧ m ≤ e' ∧ mid ≤ e' ∧ e' ≤ y := by omega
    obtain ⟨c1, c2, c3, c4, c5, c6⟩ := c1
    -- behind the rotation
    have fin : ∀ d1 : Array Pc, d1.size = n → gA d1 = rotf (gA d) j m e' → Sort.PermIn x y d d1 → F170_j6 (some ⟨b, 0, none⟩) n c x y (.func (.func f) ⟨ga⟩ ⟨gb⟩) mid j e' (HA hp0 b 29 sp pc d1) K := by
      intro d1 hs1 hg1 hp1
      have rgt : ∀ d2 : Array Pc, d2.size = n → Sort.PermIn x mid d1 d2 → (Sort.SortedIn (ltC cf) x j d1 → Sort.SortedIn (ltC cf) j mid d1 → Sort.SortedIn (ltC cf) x mid d2) → F170_j7 (some ⟨b, 0, none⟩) n c y (.func (.func f) ⟨ga⟩ ⟨gb⟩) mid e' (HA hp0 b 29 sp pc d2) K := by
        intro d2 hs2 hp2 hq2
        have done : ∀ d3 : Array Pc, d3.size = n → Sort.PermIn mid y d2 d3 → (Sort.SortedIn (ltC cf) mid e' d2 → Sort.SortedIn (ltC cf) e' y d2 → Sort.SortedIn (ltC cf) mid y d3) → K (.tuple ⟨[]⟩) (HA hp0 b 29 sp pc d3) := by
          intro d3 hs3 hp3 hq3
          refine h d3 hs3 ?_ ?_
          · exact Sort.permIn_trans _ _ _ _ _ hp1 (Sort.permIn_trans _ _ _ _ _ (Sort.permIn_mono _ _ _ _ _ _ (by omega) (by omega) (by omega) hp2) (Sort.permIn_mono _ _ _ _ _ _ (by omega) (by omega) (by omega) hp3))
          · intro s1 s2
            obtain ⟨p1, p2, p3, p4, p5⟩ := sym_parts hS hxm hmy s1 s2 hmid.symm hlo hhi hf he.symm hg1
            exact sym_done (by omega) c1 c2 c5 c6 p1 p2 p3 p4 p5 hp2 hq2 hp3 hq3
        have none : ¬ (mid < e' ∧ e' < y) → K (.tuple ⟨[]⟩) (HA hp0 b 29 sp pc d2) := by
          intro hno
          refine done d2 hs2 (Sort.permIn_refl d2 _ _) fun t1 t2 => ?_
          rcases Nat.lt_or_ge mid e' with g | g
          · have : e' = y := by omega
            rw [← this]; exact t1
          · have : e' = mid := by omega
            rw [← this]; exact t2
        unfold F170_j7 F170_j8
        by_cases g1 : mid < e'
        · rw [decide_eq_true (by omega : (mid : Int) < (e' : Int)), ite2_true]
          by_cases g2 : e' < y
          · rw [decide_eq_true (by omega : (e' : Int) < (y : Int)), ite2_true]
            exact ih (by omega) hs2 g1 g2 hy done
          · rw [decide_eq_false (by omega : ¬ (e' : Int) < (y : Int)), ite2_false]
            exact none (fun x => g2 x.2)
        · rw [decide_eq_false (by omega : ¬ (mid : Int) < (e' : Int)), ite2_false, ite2_false]
          exact none (fun x => g1 x.1)
      have none : ¬ (x < j ∧ j < mid) → F170_j7 (some ⟨b, 0, none⟩) n c y (.func (.func f) ⟨ga⟩ ⟨gb⟩) mid e' (HA hp0 b 29 sp pc d1) K := by
        intro hno
        refine rgt d1 hs1 (Sort.permIn_refl d1 _ _) fun t1 t2 => ?_
        rcases Nat.lt_or_ge x j with g | g
        · have : j = mid := by omega
          rw [← this]; exact t1
        · have : j = x := by omega
          rw [← this]; exact t2
      unfold F170_j6 F170_j9
      by_cases g1 : x < j
      · rw [decide_eq_true (by omega : (x : Int) < (j : Int)), ite2_true]
        by_cases g2 : j < mid
        · rw [decide_eq_true (by omega : (j : Int) < (mid : Int)), ite2_true]
          exact ih (by omega) hs1 g1 g2 (by omega) rgt
        · rw [decide_eq_false (by omega : ¬ (j : Int) < (mid : Int)), ite2_false]
          exact none (fun x => g2 x.2)
      · rw [decide_eq_false (by omega : ¬ (x : Int) < (j : Int)), ite2_false, ite2_false]
        exact none (fun x => g1 x.1)
    have stay : ¬ (j < m ∧ m < e') → F170_j6 (some ⟨b, 0, none⟩) n c x y (.func (.func f) ⟨ga⟩ ⟨gb⟩) mid j e' (HA hp0 b 29 sp pc d) K := fun hno =>
      fin d hs (rot_id (by omega) c3 c4).symm (Sort.permIn_refl d _ _)
    unfold F170_j10
    by_cases g1 : j < m
    · rw [decide_eq_true (by omega : (j : Int) < (m : Int)), ite2_true]
      by_cases g2 : m < e'
      · rw [decide_eq_true (by omega : (m : Int) < (e' : Int)), ite2_true]
        refine S188 hs g1 g2 (by omega) hn ?_
        intro d1 hs1 hg1 hp1
        exact fin d1 hs1 hg1 (Sort.permIn_mono _ _ _ _ _ _ (by omega) (by omega) (by omega) hp1)
      · rw [decide_eq_false (by omega : ¬ (m : Int) < (e' : Int)), ite2_false]
        exact stay (fun x => g2 x.2)
    · rw [decide_eq_false (by omega : ¬ (j : Int) < (m : Int)), ite2_false, ite2_false]
      exact stay (fun x => g1 x.1)
  by_cases hgt : m > mid
  · rw [decide_eq_true (by omega : (m : Int) > (mid : Int)), ite2_true]
    have w4 : IntKind.wrap .i64 (((mid + m : Nat) : Int) - (y : Int)) = ((mid + m - y : Nat) : Int) := wiN (by omega) (by omega)
    rw [w4]
    exact go _ _ (if_pos hgt).symm (if_pos hgt).symm
  · rw [decide_eq_false (by omega : ¬ (m : Int) > (mid : Int)), ite2_false]
    exact go _ _ (if_neg hgt).symm (if_neg hgt).symm
end

/-- The stable sort of pieces, whole. -/
theorem S145 {hp : HP} {b c n : Nat} {l : List Pc} {K : Value → HP → Prop} (hb : hp b = .cells 29 (l.flatMap pc) ((c - n) * 6)) (hl : l.length = n) (hn : n ≤ 100000)
    (h : ∀ l' : List Pc, l'.Perm l → l'.Pairwise (fun x y => ltC cfP y x = false) → K (.tuple ⟨[]⟩) (hp.set b (.cells 29 (l'.flatMap pc) ((c - n) * 6)))) :
    CF Try.prog 124 [.slice (some ⟨b, 0, none⟩) n c, .func (.func 125) ⟨[]⟩ ⟨[]⟩] hp K := by
  refine F124_ok _ n c _ hp K ?_
  unfold F124
  refine F145_ok _ n c (n : Int) _ hp _ ?_
  unfold F145 F145_j1
  have hc : CmpOk Try.prog 125 [] [] hp b 29 ((c - n) * 6) pc n cfP := fun d x y K _ hK => C125 hK
  have hH : hp = HA hp b 29 ((c - n) * 6) pc l.toArray := by
    unfold HA; exact (HP.set_self hp b _ (by simpa using hb)).symm
  have hls : l.toArray.size = n := by simpa using hl
  -- what is asked of the row behind
  have fin : ∀ d' : Array Pc, Sort.PermIn 0 n l.toArray d' → Sort.SortedIn (ltC cfP) 0 n d' → K (.tuple ⟨[]⟩) (HA hp b 29 ((c - n) * 6) pc d') := by
    intro d' i1 i2
    obtain ⟨g1, g2⟩ := list_sorted hl i1 i2
    exact h _ g1 g2
  -- the merges
  have mrg : ∀ d0 : Array Pc, d0.size = n → Sort.PermIn 0 n l.toArray d0 → Lev (ltC cfP) 20 0 n d0 → F145_j3 (some ⟨b, 0, none⟩) n c n (.func (.func 125) ⟨[]⟩ ⟨[]⟩) 20 (HA hp b 29 ((c - n) * 6) pc d0) (fun u_1 h_2 => K (.tuple ⟨[]⟩) h_2) := by
    intro d0 hs0 hp0 hl0
    unfold F145_j3
    refine LoopP.by (J := fun r (z : Int) hp' => ∃ (w : Nat) (d' : Array Pc), z = w ∧ hp' = HA hp b 29 ((c - n) * 6) pc d' ∧ d'.size = n ∧ 0 < w ∧ w ≤ 200000 ∧ r = n - w ∧ Sort.PermIn 0 n l.toArray d' ∧ Lev (ltC cfP) w 0 n d') ?_
      (n := n - 20) ⟨20, d0, rfl, rfl, hs0, by omega, by omega, rfl, hp0, hl0⟩
    rintro I r z hp' ⟨w, d1, rfl, rfl, hs1, hw0, hw1, rfl, hp1, hl1⟩ hI
    unfold F145_l4
    by_cases hwn : w < n
    rotate_left
    · rw [decide_eq_false (by omega : ¬ (w : Int) < (n : Int)), ite2_false]
      exact fin d1 hp1 (hl1.all (by omega))
    rw [decide_eq_true (by omega : (w : Int) < (n : Int)), ite2_true]
    have w1 : IntKind.wrap .i64 (2 * (w : Int)) = ((2 * w : Nat) : Int) := wiN (by omega) (by omega)
    rw [w1]
    unfold F145_j5
    refine LoopP.by (J := fun r (z : Int × Int) hp' => ∃ (t : Nat) (d' : Array Pc), z = (((2 * w * t : Nat) : Int), ((2 * w * t + 2 * w : Nat) : Int)) ∧ hp' = HA hp b 29 ((c - n) * 6) pc d' ∧ d'.size = n ∧ 2 * w * t ≤ n ∧ r = n - 2 * w * t ∧ Sort.PermIn 0 n l.toArray d' ∧ Lev (ltC cfP) (2 * w) 0 (2 * w * t) d' ∧ Lev (ltC cfP) w (2 * w * t) n d') ?_
      (n := n) ⟨0, d1, by simp, rfl, hs1, by omega, by omega, hp1, Lev.nil, by simpa using hl1⟩
    rintro I2 r2 z2 hp2 ⟨t, d2, rfl, rfl, hs2, ht, rfl, hp2', hla, hlb⟩ hI2
    unfold F145_l8
    simp only []
    have e2w : 2 * w * t = w * (2 * t) := by rw [Nat.mul_comm 2 w, Nat.mul_assoc]
    have e2w1 : 2 * w * t + w = w * (2 * t + 1) := by rw [e2w, Nat.mul_succ]
    have e2w2 : 2 * w * t + 2 * w = w * (2 * t + 1 + 1) := by rw [Nat.mul_succ, ← e2w1]; omega
    have e2w3 : 2 * w * t + 2 * w = 2 * w * (t + 1) := (Nat.mul_succ _ _).symm
    have w2 : IntKind.wrap .i64 (((2 * w * t : Nat) : Int) + (w : Int)) = ((2 * w * t + w : Nat) : Int) := wiN (by omega) (by omega)
    rw [w2]
    by_cases hb2 : 2 * w * t + 2 * w ≤ n
    · rw [decide_eq_true (by omega : ((2 * w * t + 2 * w : Nat) : Int) ≤ (n : Int)), ite2_true]
      have w3 : IntKind.wrap .i64 (((2 * w * t + 2 * w : Nat) : Int) + ((2 * w : Nat) : Int)) = ((2 * w * t + 2 * w + 2 * w : Nat) : Int) := wiN (by omega) (by omega)
      rw [w1, w3]
      refine S170 hc swo_cfP (by omega) (2 * w) (by omega) hs2 (by omega) (by omega) hb2 ?_
      intro d3 hs3 hp3 hq3
      have k1 : Sort.SortedIn (ltC cfP) (2 * w * t) (2 * w * t + w) d2 := by
        have := hlb.part (t := 2 * t) (hi := 2 * w * t + w) hw0 (by omega) (by omega) (by omega)
        rw [← e2w] at this; exact this
      have k2 : Sort.SortedIn (ltC cfP) (2 * w * t + w) (2 * w * t + 2 * w) d2 := by
        have := hlb.part (t := 2 * t + 1) (hi := 2 * w * t + 2 * w) hw0 (by omega) (by omega) (by omega)
        rw [← e2w1] at this; exact this
      have k3 := hq3 k1 k2
      have k4 := (hla.off hp3 (.inl (Nat.le_refl _))).add (by omega) k3
      have k5 := (hlb.up (show 2 * w * t ≤ 2 * w * t + 2 * w by omega)).off hp3 (.inr (Nat.le_refl _))
      refine hI2 (n - 2 * w * (t + 1)) _ _ (by omega) ⟨t + 1, d3, by rw [← e2w3], rfl, hs3, by omega, rfl, Sort.permIn_trans _ _ _ _ _ hp2' (Sort.permIn_mono _ _ _ _ _ _ (by omega) hb2 (by omega) hp3), by rw [← e2w3]; exact k4, by rw [← e2w3]; exact k5⟩
    rw [decide_eq_false (by omega : ¬ ((2 * w * t + 2 * w : Nat) : Int) ≤ (n : Int)), ite2_false]
    have last : ∀ d3 : Array Pc, d3.size = n → Sort.PermIn (2 * w * t) n d2 d3 → Sort.SortedIn (ltC cfP) (2 * w * t) n d3 → F145_j7 (some ⟨b, 0, none⟩) n c n (.func (.func 125) ⟨[]⟩ ⟨[]⟩) w (HA hp b 29 ((c - n) * 6) pc d3) I (fun u_1 h_2 => K (.tuple ⟨[]⟩) h_2) := by
      intro d3 hs3 hp3 hq3
      unfold F145_j7
      have w3 : IntKind.wrap .i64 ((w : Int) * 2) = ((2 * w : Nat) : Int) := wiN (by omega) (by omega)
      rw [w3]
      refine hI (n - 2 * w) _ _ (by omega) ⟨2 * w, d3, rfl, rfl, hs3, by omega, by omega, rfl, Sort.permIn_trans _ _ _ _ _ hp2' (Sort.permIn_mono _ _ _ _ _ _ (by omega) (Nat.le_refl _) (by omega) hp3), ?_⟩
      exact (hla.off hp3 (.inl (Nat.le_refl _))).add (by omega) hq3
    unfold F145_j6
    rw [w2]
    by_cases hm : 2 * w * t + w < n
    · rw [decide_eq_true (by omega : ((2 * w * t + w : Nat) : Int) < (n : Int)), ite2_true]
      refine S170 hc swo_cfP (by omega) (2 * w) (by omega) hs2 (by omega) hm (Nat.le_refl _) ?_
      intro d3 hs3 hp3 hq3
      have k1 : Sort.SortedIn (ltC cfP) (2 * w * t) (2 * w * t + w) d2 := by
        have := hlb.part (t := 2 * t) (hi := 2 * w * t + w) hw0 (by omega) (by omega) (by omega)
        rw [← e2w] at this; exact this
      have k2 : Sort.SortedIn (ltC cfP) (2 * w * t + w) n d2 := by
        have := hlb.part (t := 2 * t + 1) (hi := n) hw0 (by omega) (by omega) (by omega)
        rw [← e2w1] at this; exact this
      exact last d3 hs3 hp3 (hq3 k1 k2)
    · rw [decide_eq_false (by omega : ¬ ((2 * w * t + w : Nat) : Int) < (n : Int)), ite2_false]
      refine last d2 hs2 (Sort.permIn_refl d2 _ _) ?_
      have := hlb.part (t := 2 * t) (hi := n) hw0 (by omega) (by omega) (by omega)
      rw [← e2w] at this; exact this
  -- the blocks
  have z0 : ((0 : Int), (20 : Int)) = (((20 * 0 : Nat) : Int), ((20 * 0 + 20 : Nat) : Int)) := rfl
  rw [z0]
  refine LoopP.by (J := fun r (y : Int × Int) hp' => ∃ (t : Nat) (d' : Array Pc), y = (((20 * t : Nat) : Int), ((20 * t + 20 : Nat) : Int)) ∧ hp' = HA hp b 29 ((c - n) * 6) pc d' ∧ d'.size = n ∧ 20 * t ≤ n ∧ r = n - 20 * t ∧ Sort.PermIn 0 n l.toArray d' ∧ Lev (ltC cfP) 20 0 (20 * t) d') ?_
    (n := n) ⟨0, l.toArray, rfl, hH, hls, by omega, by omega, Sort.permIn_refl _ _ _, Lev.nil⟩
  rintro I r y hp' ⟨t, d1, rfl, rfl, hs1, ht, rfl, hp1, hl1⟩ hI
  unfold F145_l9
  simp only []
  by_cases hb2 : 20 * t + 20 ≤ n
  · rw [decide_eq_true (by omega : ((20 * t + 20 : Nat) : Int) ≤ (n : Int)), ite2_true]
    have w3 : IntKind.wrap .i64 (((20 * t + 20 : Nat) : Int) + 20) = ((20 * (t + 1) + 20 : Nat) : Int) := wiN (by omega) (by omega)
    rw [w3]
    refine S169 hc hs1 (by omega) hb2 (by omega) ?_
    obtain ⟨i1, i2⟩ := Sort.insertionSort_holds swo_cfP d1 (20 * t) (20 * t + 20) (by omega) (by omega)
    have k4 := (hl1.off i1 (.inl (Nat.le_refl _))).add (by omega) i2
    exact hI (n - 20 * (t + 1)) _ _ (by omega) ⟨t + 1, _, rfl, rfl, by rw [i1.1]; exact hs1, by omega, rfl, Sort.permIn_trans _ _ _ _ _ hp1 (Sort.permIn_mono _ _ _ _ _ _ (by omega) hb2 (by omega) i1), k4⟩
  · rw [decide_eq_false (by omega : ¬ ((20 * t + 20 : Nat) : Int) ≤ (n : Int)), ite2_false]
    unfold F145_j2
    refine S169 hc hs1 ht (Nat.le_refl _) (by omega) ?_
    obtain ⟨i1, i2⟩ := Sort.insertionSort_holds swo_cfP d1 (20 * t) n ht (by omega)
    exact mrg _ (by rw [i1.1]; exact hs1) (Sort.permIn_trans _ _ _ _ _ hp1 (Sort.permIn_mono _ _ _ _ _ _ (by omega) (Nat.le_refl _) (by omega) i1)) ((hl1.off i1 (.inl (Nat.le_refl _))).add (by omega) i2)
end Go.Proofs

set_option linter.unusedVariables false
set_option maxRecDepth 20000
namespace Go.Proofs
open Go Go.HL

def e0s : ByteArray := ⟨#[]⟩
/-- A datagram as it is told. -/
def wh (key head data : ByteArray) (n : Int) : List Value := [.string key, .string head, .string data, .int .i64 n]
def joinG : List Pc → ByteArray → Option ByteArray
  | [], w => some w
  | p :: l, w => if p.at_ = w.size then joinG l (w ++ p.data) else none
def wholeQ (fin : Int) (l : List Pc) : Option ByteArray := (joinG l e0s).bind fun w => if (w.size : Int) = fin then some w else none
def whO (key head : ByteArray) (n : Int) : Option ByteArray → List Value
  | some w => wh key head w n
  | none => wh e0s e0s e0s 0

theorem DgR.setl {hp : HP} {d : Dg} {l' : List Pc} {c : Nat} (hne : d.rblk ≠ d.blk) (hd : DgR hp d) (hp' : l'.Perm d.l) (hb : hp d.blk = .cells 135 [.int .i64 d.id, .int .i64 d.due, .int .i64 d.fin, .slice (some ⟨d.rblk, 0, none⟩) d.l.length c] 0) (hc : d.l.length ≤ c) :
    DgR (hp.set d.rblk (.cells 29 (l'.flatMap pc) ((c - d.l.length) * 6))) { d with l := l' } := by
  have hl := hp'.length_eq
  refine ⟨fun e => hd.1 ?_, c, by simpa [hl] using hc, ?_, ?_⟩
  · simp only at e; rw [e] at hl; exact List.eq_nil_of_length_eq_zero hl.symm
  · simp only; rw [HP.set_ne _ _ hne.symm, hl]; exact hb
  · simp only; rw [HP.set_eq, hl]

section
variable {hp : HP} {K : Value → HP → Prop} {d : Dg} {key : ByteArray}

theorem C81 (hd : DgR hp d) (hn : d.l.length ≤ 100000) (hok : ∀ p ∈ d.l, rightP p = true)
    (hneg : d.fin < 0 → K (.tuple ⟨[.agg ⟨wh e0s e0s e0s 0⟩, .bool false]⟩) hp)
    (hpos : 0 ≤ d.fin → ∀ (l' : List Pc) (x : Ent), l'.Perm d.l → l'.Pairwise (fun x y => ltC cfP y x = false) → DgR (hp.set d.rblk x) { d with l := l' } →
      K (.tuple ⟨[.agg ⟨whO key (headQ d.l) d.l.length (wholeQ d.fin l')⟩, .bool (wholeQ d.fin l').isSome]⟩) (hp.set d.rblk x)) :
    CF Try.prog 81 [ptr d.blk 0, .string key] hp K := by
  refine F81_ok _ key hp K ?_
  unfold F81
  have hd0 := hd
  obtain ⟨h0, c, h1, h2, h3⟩ := hd
  have hne : d.rblk ≠ d.blk := fun e => by rw [e, h2] at h3; cases h3
  have hc : ∀ o, hp.cell d.blk o = [Value.int .i64 d.id, .int .i64 d.due, .int .i64 d.fin, .slice (some ⟨d.rblk, 0, none⟩) d.l.length c][o]? := fun o => HP.cell_of h2
  have hz : splice [(Value.string ⟨#[]⟩), (Value.string ⟨#[]⟩), (Value.string ⟨#[]⟩), (Value.int .i64 0)] 0 [(Value.string ⟨#[]⟩), (Value.string ⟨#[]⟩), (Value.string ⟨#[]⟩), (Value.int .i64 0)] = wh e0s e0s e0s 0 := splice_all rfl
  have whl : ∀ a b c d, (wh a b c d).length = 4 := fun _ _ _ _ => rfl
  have who : ∀ a b c d, (wh a b c d).all one = true := fun _ _ _ _ => rfl
  have hz0 : [(Value.string ⟨#[]⟩), (Value.string ⟨#[]⟩), (Value.string ⟨#[]⟩), (Value.int .i64 0)] = wh e0s e0s e0s 0 := rfl
  have hsp : ∀ a b c d a' b' c' d', splice (wh a b c d) 0 (wh a' b' c' d') = wh a' b' c' d' := fun _ _ _ _ _ _ _ _ => splice_all rfl
  simp only [ptrN_some, hc, Nat.zero_add, List.getElem?_cons_succ, List.getElem?_cons_zero, ldV_some, intV_int, slcV_slice, hz0, whl, who, if_true, hsp, cellsN_all (whl _ _ _ _), ldL_some]
  by_cases hf : d.fin < 0
  · rw [decide_eq_true hf, ite2_true]
    exact ifI (Nat.le_refl _) (hneg hf)
  rw [decide_eq_false hf, ite2_false]
  -- behind the head
  have one : F81_j1 (some ⟨d.blk, 0, none⟩) (wh e0s e0s e0s 0) (wh key (headQ d.l) e0s d.l.length) hp K := by
    unfold F81_j1
    simp only [ptrN_some, hc, Nat.zero_add, List.getElem?_cons_succ, List.getElem?_cons_zero, ldV_some, slcV_slice]
    refine S145 h3 rfl hn fun l' hperm hsort => ?_
    have hK := hpos (by omega) l' _ hperm hsort (hd0.setl hne hperm h2 h1)
    generalize hh1 : hp.set d.rblk (.cells 29 (l'.flatMap pc) ((c - d.l.length) * 6)) = hp1 at hK ⊢
    have hc1 : ∀ o, hp1.cell d.blk o = [Value.int .i64 d.id, .int .i64 d.due, .int .i64 d.fin, .slice (some ⟨d.rblk, 0, none⟩) d.l.length c][o]? := fun o => by
      rw [← hh1]; exact HP.cell_of (by rw [HP.set_ne _ _ hne.symm]; exact h2)
    have hll := hperm.length_eq
    have sh : Shows hp1 (some ⟨d.rblk, 0, none⟩) d.l.length 6 (l'.flatMap pc) := .inr ⟨d.rblk, 0, rfl, by rw [← hh1, HP.cellN_of (HP.set_eq ..)]; exact cellsN_all (by rw [flat_len pc_len, hll])⟩
    simp only [ptrN_some, hc1, Nat.zero_add, List.getElem?_cons_succ, List.getElem?_cons_zero, ldV_some, slcV_slice]
    unfold F81_j3
    have hwq : wholeQ d.fin l' = (joinG l' e0s).bind fun w => if (w.size : Int) = d.fin then some w else none := rfl
    -- it is not
    have no : wholeQ d.fin l' = none → K (.tuple ⟨[.agg ⟨wh e0s e0s e0s 0⟩, .bool false]⟩) hp1 := fun e => by rw [e] at hK; exact hK
    refine LoopP.by (J := fun m (y : Int × List Value × List Value) hp' => hp' = hp1 ∧ ∃ (i : Nat) (w : ByteArray), y.1 = i ∧ i + m = d.l.length ∧ y.2.1 = wh e0s e0s e0s 0 ∧ y.2.2 = wh key (headQ d.l) w d.l.length ∧ joinG l' e0s = joinG (l'.drop i) w) ?_ (n := d.l.length)
      ⟨rfl, 0, e0s, rfl, by omega, rfl, rfl, by simp⟩
    rintro I m ⟨y, k4, k6⟩ hp' ⟨rfl, i, w, hy, him, hk4, hk6, hj⟩ hI
    simp only at hy hk4 hk6
    subst hy hk4 hk6
    unfold F81_l4
    simp only []
    have w2 : ∀ a b c d, (wh a b c d)[2]? = some (.string c) := fun _ _ _ _ => rfl
    by_cases hi : i < d.l.length
    · have hil : i < l'.length := by omega
      rw [decide_eq_true (by omega : (i : Int) < (d.l.length : Int)), ite2_true]
      obtain ⟨b, o, hao, hg⟩ := sh.get pc_len hll hi
      have hzp : splice [(Value.string ⟨#[]⟩), (Value.string ⟨#[]⟩), (Value.int .i64 0), (Value.bool false), (Value.string ⟨#[]⟩), (Value.string ⟨#[]⟩)] 0 (pc l'[i]) = pc l'[i] := splice_all rfl
      have k2 : (pc l'[i])[2]? = some (.int .i64 l'[i].at_) := rfl
      have k4 : (pc l'[i])[4]? = some (.string l'[i].data) := rfl
      cases hao
      simp only [ptrN_some, Int.toNat_natCast, hg, ldL_some, pc_len, pc_one, if_true, hzp, k2, k4, w2, ldV_some, intV_int, strV_string, hz0, whl, who, hsp, cellsN_all (whl _ _ _ _)]
      refine ⟨by omega, by omega, ?_⟩
      refine ifI (Nat.le_refl _) ?_
      rw [List.drop_eq_getElem_cons hil, joinG] at hj
      have hr := rightP_iff.1 (hok l'[i] (hperm.mem_iff.1 (List.getElem_mem hil)))
      by_cases ha : l'[i].at_ = w.size
      · have e : (l'[i].at_ != (w.size : Int)) = false := by simpa using ha
        have w1 : IntKind.wrap .i64 ((i : Int) + 1) = ((i + 1 : Nat) : Int) := wiN (by omega) (by omega)
        rw [e, ite2_false, w1]
        rw [if_pos ha] at hj
        refine ⟨by omega, ?_⟩
        rw [if_pos (by decide)]
        exact hI (m - 1) _ _ (by omega) ⟨rfl, i + 1, w ++ l'[i].data, rfl, by omega, rfl, rfl, hj⟩
      · have e : (l'[i].at_ != (w.size : Int)) = true := by simpa using ha
        rw [e, ite2_true]
        rw [if_neg ha] at hj
        refine ifI (Nat.le_refl _) (no ?_)
        rw [hwq, hj]; rfl
    · rw [decide_eq_false (by omega : ¬ (i : Int) < (d.l.length : Int)), ite2_false]
      rw [List.drop_of_length_le (by omega), joinG] at hj
      unfold F81_j2
      simp only [w2, ldV_some, strV_string, ptrN_some, hc1, Nat.zero_add, List.getElem?_cons_succ, List.getElem?_cons_zero, intV_int, hz0, whl, who, if_true, hsp, cellsN_all (whl _ _ _ _), ldL_some]
      by_cases hwf : (w.size : Int) = d.fin
      · have e : ((w.size : Int) != d.fin) = false := by simpa using hwf
        rw [e, ite2_false]
        have hq : wholeQ d.fin l' = some w := by rw [hwq, hj]; simp [hwf]
        rw [hq] at hK
        exact ifI (Nat.le_refl _) hK
      · have e : ((w.size : Int) != d.fin) = true := by simpa using hwf
        rw [e, ite2_true]
        refine ifI (Nat.le_refl _) (no ?_)
        rw [hwq, hj]; simp [hwf]
  have hz2 : ∀ (s : ByteArray) (x : Int), [Value.string key, .string s, .string ⟨#[]⟩, .int .i64 x] = wh key s e0s x := fun _ _ => rfl
  refine ⟨?_, ?_⟩
  · refine C110 hd0 (by omega) ?_
    simp only [strV_string, hz2, whl, who, if_true, hsp]
    exact ifI (Nat.le_refl _) one
  · refine C110 hd0 (by omega) ?_
    simp only [strV_string, hc, Nat.zero_add, List.getElem?_cons_succ, List.getElem?_cons_zero, ldV_some, slcV_slice, hz2, whl, who, if_true, hsp]
    exact ifI (Nat.le_refl _) one
end
end Go.Proofs

set_option linter.unusedVariables false
set_option maxRecDepth 20000
namespace Go.Proofs
open Go Go.HL

def jw (n : Int) : Value := .int .i64 n
def dv (d : Dg) : Value := .pointer (some ⟨d.blk, 0, none⟩)
theorem zeroF {P : Program} {t : TypeId} {z : Value} (h : (P.info? t).bind (·.zero) = some z) (w : World) : (zeroValue t).run P w = .ok z w := by
  cases hi : P.info? t with
  | none => rw [hi] at h; cases h
  | some i => rw [hi] at h; simp only [Option.bind_some] at h; simp [zeroValue, typeInfo, hi, h]
theorem zj : ∀ w : World, (zeroValue 3).run Try.prog w = .ok (.int .i64 0) w := zeroF (by kernel_rfl)
theorem zpt : ∀ w : World, (zeroValue 131).run Try.prog w = .ok (.pointer none) w := zeroF (by kernel_rfl)
theorem jw_get {k : ByteArray} {l : List (ByteArray × Int)} : ((getL k l).map jw).getD (.int .i64 0) = .int .i64 ((getL k l).getD 0) := by cases getL k l <;> rfl

/-- What a store has. -/
structure Stt where
  max : Int
  source : Int
  last : Int
  n : Int
  D : List (ByteArray × Dg)
  of : List (ByteArray × Int)

def stc (S : Stt) (m mo : Nat) : List Value := [.int .i64 S.max, .int .i64 S.source, .int .i64 S.last, .int .i64 S.n, .map (some m), .map (some mo)]
/-- A store in memory, beside what is known. -/
def StR (hp0 hp : HP) (q m mo : Nat) (S : Stt) : Prop :=
  HSub hp0 hp ∧ hp0 q = .none ∧ hp0 m = .none ∧ hp0 mo = .none ∧ m ≠ mo ∧ hp q = .cells 130 (stc S m mo) 0 ∧ MapE sw dv S.D (hp m) ∧ MapE sw jw S.of (hp mo) ∧
  (∀ kd ∈ S.D, DgR hp kd.2 ∧ hp0 kd.2.blk = .none ∧ hp0 kd.2.rblk = .none) ∧ (S.D.map (·.2.blk)).Nodup ∧ (S.D.map (·.2.rblk)).Nodup ∧ (S.D.map (·.1)).Nodup
/-- A step of a store, whatever is known beside it. -/
def Stp (q m mo : Nat) (hp : HP) (S : Stt) (hp' : HP) (S' : Stt) : Prop := ∀ hp0, StR hp0 hp q m mo S → StR hp0 hp' q m mo S'
theorem Stp.refl {q m mo : Nat} {hp : HP} {S : Stt} : Stp q m mo hp S hp S := fun _ h => h
theorem Stp.trans {q m mo : Nat} {a b c : HP} {A B C : Stt} (h : Stp q m mo a A b B) (k : Stp q m mo b B c C) : Stp q m mo a A c C := fun hp0 x => k hp0 (h hp0 x)

theorem mapE_obj {κ ν : Type} {ek : κ → Value} {ev : ν → Value} {l : List (κ × ν)} {e : Ent} (h : MapE ek ev l e) : ∃ o, e = .obj o := by
  obtain ⟨es, clock, he, _⟩ := h; exact ⟨_, he⟩
theorem DgR.ne {hp : HP} {d : Dg} {x : Nat} {e : Ent} (h : DgR hp d) (h1 : x ≠ d.blk) (h2 : x ≠ d.rblk) : DgR (hp.set x e) d := by
  obtain ⟨h0, c, g1, g2, g3⟩ := h
  exact ⟨h0, c, g1, by rw [HP.set_ne _ _ h1.symm]; exact g2, by rw [HP.set_ne _ _ h2.symm]; exact g3⟩
theorem DgR.ne_obj {hp : HP} {d : Dg} {x : Nat} {o : Obj} (h : DgR hp d) (hx : hp x = .obj o) : x ≠ d.blk ∧ x ≠ d.rblk := by
  obtain ⟨h0, c, g1, g2, g3⟩ := h
  exact ⟨fun e => (by rw [e, g2] at hx; cases hx), fun e => (by rw [e, g3] at hx; cases hx)⟩
theorem DgR.ne_st {hp : HP} {d : Dg} {x : Nat} {cs : List Value} (h : DgR hp d) (hx : hp x = .cells 130 cs 0) : x ≠ d.blk ∧ x ≠ d.rblk := by
  obtain ⟨h0, c, g1, g2, g3⟩ := h
  exact ⟨fun e => (by rw [e, g2] at hx; cases hx), fun e => (by rw [e, g3] at hx; cases hx)⟩

section
variable {hp0 hp : HP} {q m mo : Nat} {S : Stt} {K : Value → HP → Prop}

theorem StR.sub {hp' : HP} (h : StR hp0 hp q m mo S) (hs : HSub hp hp') : StR hp0 hp' q m mo S := by
  obtain ⟨h1, h2, h3, h4, h5, h6, h7, h8, h9, h10, h11, h12⟩ := h
  refine ⟨h1.trans hs, h2, h3, h4, h5, hs.cells h6, ?_, ?_, fun kd hk => ⟨(h9 kd hk).1.sub hs, (h9 kd hk).2⟩, h10, h11, h12⟩
  · obtain ⟨es, clock, he, r⟩ := h7; exact ⟨es, clock, hs.obj he, r⟩
  · obtain ⟨es, clock, he, r⟩ := h8; exact ⟨es, clock, hs.obj he, r⟩
theorem StR.cell (h : StR hp0 hp q m mo S) (o : Nat) : hp.cell q o = (stc S m mo)[o]? := HP.cell_of h.2.2.2.2.2.1
theorem StR.mapD (h : StR hp0 hp q m mo S) : MapE sw dv S.D (hp m) := h.2.2.2.2.2.2.1
theorem StR.mapOf (h : StR hp0 hp q m mo S) : MapE sw jw S.of (hp mo) := h.2.2.2.2.2.2.2.1
theorem StR.dg (h : StR hp0 hp q m mo S) {key : ByteArray} {d : Dg} (hg : getL key S.D = some d) : DgR hp d := (h.2.2.2.2.2.2.2.2.1 _ (getL_some_mem hg)).1

/-- The store's own cells. -/
theorem Stp.own {last n : Int} : Stp q m mo hp S (hp.set q (.cells 130 (stc { S with last := last, n := n } m mo) 0)) { S with last := last, n := n } := by
  rintro hp0 ⟨h1, h2, h3, h4, h5, h6, h7, h8, h9, h10, h11, h12⟩
  obtain ⟨o1, e1⟩ := (mapE_obj h7)
  obtain ⟨o2, e2⟩ := (mapE_obj h8)
  refine ⟨h1.up h2 _, h2, h3, h4, h5, HP.set_eq .., ?_, ?_, fun kd hk => ⟨(h9 kd hk).1.ne ((h9 kd hk).1.ne_st h6).1 ((h9 kd hk).1.ne_st h6).2, (h9 kd hk).2⟩, h10, h11, h12⟩
  · rw [HP.set_ne _ _ (fun e => by rw [e, h6] at e1; cases e1)]; exact h7
  · rw [HP.set_ne _ _ (fun e => by rw [e, h6] at e2; cases e2)]; exact h8
/-- How many of a source. -/
theorem Stp.ofs {of : List (ByteArray × Int)} {e : Ent} (he : MapE sw jw of e) : Stp q m mo hp S (hp.set mo e) { S with of := of } := by
  rintro hp0 ⟨h1, h2, h3, h4, h5, h6, h7, h8, h9, h10, h11, h12⟩
  obtain ⟨o2, e2⟩ := (mapE_obj h8)
  refine ⟨h1.up h4 _, h2, h3, h4, h5, ?_, ?_, by simp only; rw [HP.set_eq]; exact he, fun kd hk => ⟨(h9 kd hk).1.ne ((h9 kd hk).1.ne_obj e2).1 ((h9 kd hk).1.ne_obj e2).2, (h9 kd hk).2⟩, h10, h11, h12⟩
  · rw [HP.set_ne _ _ (fun e => by rw [e, e2] at h6; cases h6)]; exact h6
  · rw [HP.set_ne _ _ h5]; exact h7
/-- Fewer datagrams. -/
theorem Stp.fewer {D : List (ByteArray × Dg)} {e : Ent} (he : MapE sw dv D e) (hs : D.Sublist S.D) : Stp q m mo hp S (hp.set m e) { S with D := D } := by
  rintro hp0 ⟨h1, h2, h3, h4, h5, h6, h7, h8, h9, h10, h11, h12⟩
  obtain ⟨o1, e1⟩ := (mapE_obj h7)
  refine ⟨h1.up h3 _, h2, h3, h4, h5, ?_, by simp only; rw [HP.set_eq]; exact he, ?_, fun kd hk => ?_, (hs.map _).nodup h10, (hs.map _).nodup h11, (hs.map _).nodup h12⟩
  · rw [HP.set_ne _ _ (fun e => by rw [e, e1] at h6; cases h6)]; exact h6
  · rw [HP.set_ne _ _ h5.symm]; exact h8
  · have hk' := hs.subset hk
    exact ⟨(h9 kd hk').1.ne ((h9 kd hk').1.ne_obj e1).1 ((h9 kd hk').1.ne_obj e1).2, (h9 kd hk').2⟩

theorem del_sub {κ ν : Type} [DecidableEq κ] (k : κ) : ∀ l : List (κ × ν), (delL k l).Sublist l
  | [] => .slnil
  | p :: l => by
    unfold delL
    split
    · exact List.sublist_cons_self _ _
    · exact (del_sub k l).cons_cons _

/-- What is left of the sources' numbers, and of the pieces', when a datagram goes. -/
def cutOf : List Pc → List (ByteArray × Int) → List (ByteArray × Int)
  | [], of => of
  | p :: l, of => cutOf l (if IntKind.wrap .i64 ((getL p.src of).getD 0 - 1) = 0 then delL p.src (putL p.src (IntKind.wrap .i64 ((getL p.src of).getD 0 - 1)) of) else putL p.src (IntKind.wrap .i64 ((getL p.src of).getD 0 - 1)) of)
def cutN : Nat → Int → Int
  | 0, n => n
  | k + 1, n => cutN k (IntKind.wrap .i64 (n - 1))

theorem C79 {key : ByteArray} {d : Dg} (h : StR hp0 hp q m mo S) (hg : getL key S.D = some d) (hn : d.l.length ≤ 1000000)
    (hK : ∀ hp', Stp q m mo hp S hp' { S with n := cutN d.l.length S.n, D := delL key S.D, of := cutOf d.l S.of } → K (.tuple ⟨[]⟩) hp') :
    CF Try.prog 79 [ptr q 0, .string key] hp K := by
  refine F79_ok _ key hp K ?_
  unfold F79
  have c4 : ∀ S : Stt, (stc S m mo)[4]? = some (.map (some m)) := fun _ => rfl
  have c5 : ∀ S : Stt, (stc S m mo)[5]? = some (.map (some mo)) := fun _ => rfl
  have c3 : ∀ S : Stt, (stc S m mo)[3]? = some (.int .i64 S.n) := fun _ => rfl
  simp only [ptrN_some, h.cell, Nat.zero_add, c4, ldV_some, mapV_map]
  refine rdS_lookup u128 enc9 zpt h.mapD key ?_
  simp only [Bool.false_eq_true, if_false, hg, Option.map_some, Option.getD_some, dv, ptrV_pointer, ptrN_some, Nat.zero_add]
  obtain ⟨h0, c, h1, h2, h3⟩ := h.dg hg
  have hc : ∀ o, hp.cell d.blk o = [Value.int .i64 d.id, .int .i64 d.due, .int .i64 d.fin, .slice (some ⟨d.rblk, 0, none⟩) d.l.length c][o]? := fun o => HP.cell_of h2
  simp only [hc, List.getElem?_cons_succ, List.getElem?_cons_zero, ldV_some, slcV_slice]
  unfold F79_j2
  refine LoopP.by (J := fun k (y : Int) hp' => ∃ (i : Nat) (n' : Int) (of' : List (ByteArray × Int)), y = i ∧ i + k = d.l.length ∧ Stp q m mo hp S hp' { S with n := n', of := of' } ∧ cutN d.l.length S.n = cutN (d.l.length - i) n' ∧ cutOf d.l S.of = cutOf (d.l.drop i) of') ?_ (n := d.l.length)
    ⟨0, S.n, S.of, rfl, by omega, Stp.refl, rfl, rfl⟩
  rintro I k y hp' ⟨i, n', of', rfl, hik, hS, hcn, hco⟩ hI
  have h' := hS hp0 h
  unfold F79_l3
  by_cases hi : i < d.l.length
  · rw [decide_eq_true (by omega : (i : Int) < (d.l.length : Int)), ite2_true]
    obtain ⟨_, c', h1', h2', h3'⟩ := StR.dg h' hg
    have sh : Shows hp' (some ⟨d.rblk, 0, none⟩) d.l.length 6 (d.l.flatMap pc) := .inr ⟨d.rblk, 0, rfl, by rw [HP.cellN_of h3']; exact cellsN_all (by rw [flat_len pc_len])⟩
    obtain ⟨b, o, hao, hgp⟩ := sh.get pc_len rfl hi
    have hz : splice [(Value.string ⟨#[]⟩), (Value.string ⟨#[]⟩), (Value.int .i64 0), (Value.bool false), (Value.string ⟨#[]⟩), (Value.string ⟨#[]⟩)] 0 (pc d.l[i]) = pc d.l[i] := splice_all rfl
    have k1 : (pc d.l[i])[1]? = some (.string d.l[i].src) := rfl
    cases hao
    rw [Nat.zero_add] at hgp
    simp only [ptrN_some, Int.toNat_natCast, hgp, ldL_some, pc_len, pc_one, if_true, hz, h'.cell, Nat.zero_add, c3, ldV_some, intV_int]
    refine ⟨by omega, by omega, ?_⟩
    refine ifI (Nat.le_refl _) ?_
    refine HP.st_at h'.2.2.2.2.2.1 (by simp [stc]) ?_
    have e1 : (stc { S with n := n', of := of' } m mo).set 3 (.int .i64 (IntKind.wrap .i64 (n' - 1))) = stc { S with last := S.last, n := IntKind.wrap .i64 (n' - 1), of := of' } m mo := rfl
    rw [e1]
    have s1 := hS.trans (Stp.own (last := S.last) (n := IntKind.wrap .i64 (n' - 1)))
    have g1 := s1 hp0 h
    generalize hp'.set q (.cells 130 (stc { S with last := S.last, n := IntKind.wrap .i64 (n' - 1), of := of' } m mo) 0) = hp2 at s1 g1 ⊢
    simp only [g1.cell, c5, ldV_some, mapV_map, k1, strV_string]
    refine rdS_lookup u97 enc9 zj g1.mapOf d.l[i].src ?_
    simp only [Bool.false_eq_true, if_false, jw_get, intV_int]
    refine opS_mapUpdate u97 enc9 (ev := jw) g1.mapOf d.l[i].src (IntKind.wrap .i64 ((getL d.l[i].src of').getD 0 - 1)) ?_
    intro e he
    have s2 := s1.trans (Stp.ofs he)
    have g2 := s2 hp0 h
    generalize hp2.set mo e = hp3 at s2 g2 ⊢
    simp only [g2.cell, c5, ldV_some, mapV_map, k1, strV_string]
    refine rdS_lookup u97 enc9 zj g2.mapOf d.l[i].src ?_
    have w1 : IntKind.wrap .i64 ((i : Int) + 1) = ((i + 1 : Nat) : Int) := wiN (by omega) (by omega)
    simp only [Bool.false_eq_true, if_false, jw_get, intV_int, getL_put, if_true, Option.getD_some, Option.map_some, jw]
    have hcn2 : cutN d.l.length S.n = cutN (d.l.length - (i + 1)) (IntKind.wrap .i64 (n' - 1)) := by
      rw [hcn]
      have : d.l.length - i = (d.l.length - (i + 1)) + 1 := by omega
      rw [this]; rfl
    rw [List.drop_eq_getElem_cons hi, cutOf] at hco
    by_cases hv : IntKind.wrap .i64 ((getL d.l[i].src of').getD 0 - 1) = 0
    · have e : (IntKind.wrap .i64 ((getL d.l[i].src of').getD 0 - 1) == 0) = true := by simpa using hv
      rw [e, ite2_true]
      rw [if_pos hv] at hco
      refine opS_delete u97 enc9 g2.mapOf d.l[i].src ?_
      intro e' he'
      have s3 := s2.trans (Stp.ofs he')
      unfold F79_j4
      rw [w1]
      exact hI (k - 1) _ _ (by omega) ⟨i + 1, _, _, rfl, by omega, s3, hcn2, hco⟩
    · have e : (IntKind.wrap .i64 ((getL d.l[i].src of').getD 0 - 1) == 0) = false := by simpa using hv
      rw [e, ite2_false]
      rw [if_neg hv] at hco
      unfold F79_j4
      rw [w1]
      exact hI (k - 1) _ _ (by omega) ⟨i + 1, _, _, rfl, by omega, s2, hcn2, hco⟩
  · rw [decide_eq_false (by omega : ¬ (i : Int) < (d.l.length : Int)), ite2_false]
    have hie : i = d.l.length := by omega
    subst hie
    rw [Nat.sub_self, cutN] at hcn
    rw [List.drop_of_length_le (Nat.le_refl _), cutOf] at hco
    unfold F79_j1
    simp only [ptrN_some, h'.cell, Nat.zero_add, c4, ldV_some, mapV_map]
    refine opS_delete u128 enc9 h'.mapD key ?_
    intro e he
    refine hK _ ?_
    rw [hcn, hco]
    exact hS.trans (Stp.fewer he (del_sub key _))
end
end Go.Proofs

set_option linter.unusedVariables false
set_option maxRecDepth 20000
namespace Go.Proofs
open Go Go.HL

theorem map_inj_of_nodup {α β : Type} {f : α → β} : ∀ {l : List α} {x y : α}, (l.map f).Nodup → x ∈ l → y ∈ l → f x = f y → x = y
  | a :: l, x, y, hn, hx, hy, e => by
    rw [List.map_cons, List.nodup_cons] at hn
    rcases List.mem_cons.1 hx with h1 | h1
    · rcases List.mem_cons.1 hy with h2 | h2
      · rw [h1, h2]
      · exact absurd (List.mem_map.2 ⟨y, h2, by rw [← e, h1]⟩) hn.1
    · rcases List.mem_cons.1 hy with h2 | h2
      · exact absurd (List.mem_map.2 ⟨x, h1, by rw [e, h2]⟩) hn.1
      · exact map_inj_of_nodup hn.2 h1 h2 e

section
variable {κ ν : Type} [DecidableEq κ]
theorem mem_put {k : κ} {v : ν} : ∀ {l : List (κ × ν)} {x : κ × ν}, (l.map (·.1)).Nodup → x ∈ putL k v l → x = (k, v) ∨ (x ∈ l ∧ x.1 ≠ k)
  | [], x, _, h => by simp only [putL, List.mem_singleton] at h; exact .inl h
  | p :: l, x, hn, h => by
    rw [List.map_cons, List.nodup_cons] at hn
    by_cases hk : k = p.1
    · simp only [putL, hk, if_true, List.mem_cons] at h
      rcases h with h | h
      · exact .inl (by rw [h, hk])
      · exact .inr ⟨by simp [h], fun e => hn.1 (by rw [← hk, ← e]; exact List.mem_map.2 ⟨x, h, rfl⟩)⟩
    · simp only [putL, hk, if_false, List.mem_cons] at h
      rcases h with h | h
      · exact .inr ⟨by simp [h], by rw [h]; exact fun e => hk e.symm⟩
      · rcases mem_put hn.2 h with h | ⟨h, h'⟩
        · exact .inl h
        · exact .inr ⟨by simp [h], h'⟩
theorem nodup_put_map {β : Type} {f : ν → β} {k : κ} {v : ν} : ∀ {l : List (κ × ν)}, (l.map (·.1)).Nodup → (l.map (fun x => f x.2)).Nodup → (∀ x ∈ l, x.1 ≠ k → f x.2 ≠ f v) → ((putL k v l).map (fun x => f x.2)).Nodup
  | [], _, _, _ => by simp [putL]
  | p :: l, hk, hf, h => by
    rw [List.map_cons, List.nodup_cons] at hk hf
    by_cases hkp : k = p.1
    · simp only [putL, hkp, if_true, List.map_cons, List.nodup_cons]
      refine ⟨fun hm => ?_, hf.2⟩
      obtain ⟨x, hx, e⟩ := List.mem_map.1 hm
      exact h x (by simp [hx]) (fun e' => hk.1 (by rw [← hkp, ← e']; exact List.mem_map.2 ⟨x, hx, rfl⟩)) e
    · simp only [putL, hkp, if_false, List.map_cons, List.nodup_cons]
      refine ⟨fun hm => ?_, nodup_put_map hk.2 hf.2 fun x hx => h x (by simp [hx])⟩
      obtain ⟨x, hx, e⟩ := List.mem_map.1 hm
      rcases mem_put hk.2 hx with rfl | ⟨hx, _⟩
      · exact h p (by simp) (fun e' => hkp e'.symm) e.symm
      · exact hf.1 (by rw [← e]; exact List.mem_map.2 ⟨x, hx, rfl⟩)
theorem put_same_map {β : Type} {f : κ × ν → β} {k : κ} {v u : ν} : ∀ {l : List (κ × ν)}, getL k l = some u → f (k, v) = f (k, u) → (putL k v l).map f = l.map f
  | [], h, _ => by cases h
  | p :: l, h, e => by
    simp only [getL] at h
    by_cases hk : k = p.1
    · simp only [hk, if_true, Option.some.injEq] at h
      simp only [putL, hk, if_true, List.map_cons]
      have hp : p = (k, u) := Prod.ext hk.symm h
      rw [hp] at *
      simp only [e]
    · simp only [hk, if_false] at h
      simp only [putL, hk, if_false, List.map_cons, put_same_map h e]
end
theorem mapE_same {κ ν : Type} {ek : κ → Value} {ev : ν → Value} {l l' : List (κ × ν)} {e : Ent} (h : MapE ek ev l e) (hl : l'.map (fun p => (ek p.1, ev p.2)) = l.map (fun p => (ek p.1, ev p.2))) : MapE ek ev l' e := by
  obtain ⟨es, clock, h1, h2, h3, h4⟩ := h
  exact ⟨es, clock, h1, h2.trans hl.symm, h3, h4⟩

section
variable {hp0 hp : HP} {q m mo : Nat} {S : Stt} {K : Value → HP → Prop} {p : Pc}

/-- The store, but for one datagram, of which only where it is is known. -/
def Pre (hp0 hp : HP) (q m mo : Nat) (S : Stt) (key : ByteArray) (blk : Nat) (s : Option Addr) : Prop :=
  HSub hp0 hp ∧ hp0 q = .none ∧ hp0 m = .none ∧ hp0 mo = .none ∧ m ≠ mo ∧ hp q = .cells 130 (stc S m mo) 0 ∧ MapE sw jw S.of (hp mo) ∧
  (∀ d : Dg, d.blk = blk → MapE sw dv (putL key d S.D) (hp m)) ∧ hp0 blk = .none ∧ (∀ b, s = some ⟨b, 0, none⟩ → hp0 b = .none) ∧
  (∀ kd ∈ S.D, kd.1 ≠ key → DgR hp kd.2 ∧ hp0 kd.2.blk = .none ∧ hp0 kd.2.rblk = .none ∧ kd.2.blk ≠ blk ∧ ∀ b, s = some ⟨b, 0, none⟩ → kd.2.rblk ≠ b) ∧
  (S.D.map (·.2.blk)).Nodup ∧ (S.D.map (·.2.rblk)).Nodup ∧ (S.D.map (·.1)).Nodup

/-- What stays. -/
def Fr2 (hp hp' : HP) (blk rb : Nat) (s : Option Addr) : Prop := ∀ h0 : HP, HSub h0 hp → h0 blk = .none → (∀ b, s = some ⟨b, 0, none⟩ → h0 b = .none) → HSub h0 hp' ∧ h0 rb = .none

theorem Pre.done {hp' : HP} {key : ByteArray} {d' : Dg} {s : Option Addr} (h : Pre hp0 hp q m mo S key d'.blk s) (hb : ∃ cs, hp d'.blk = .cells 135 cs 0) (hs : ∀ b, s = some ⟨b, 0, none⟩ → ∃ cs sp, hp b = .cells 29 cs sp) (hf : Fr2 hp hp' d'.blk d'.rblk s) (hd : DgR hp' d') : StR hp0 hp' q m mo { S with D := putL key d' S.D } := by
  obtain ⟨h1, h2, h3, h4, h5, h6, h7, h8, h9, h10, h11, h12, h13, h14⟩ := h
  obtain ⟨cs, hb⟩ := hb
  have hM := h8 d' rfl
  obtain ⟨o1, e1⟩ := (mapE_obj hM)
  obtain ⟨o2, e2⟩ := (mapE_obj h7)
  obtain ⟨f1, f2⟩ := hf hp0 h1 h9 h10
  -- one block that is neither
  have keep : ∀ x e, hp x = e → e ≠ .none → x ≠ d'.blk → (∀ b, s = some ⟨b, 0, none⟩ → x ≠ b) → hp' x = e ∧ x ≠ d'.rblk := by
    intro x e hx he hxb hxs
    obtain ⟨g1, g2⟩ := hf (HP.onlyF x e) (HSub.onlyF hx) (HP.onlyF_ne _ hxb.symm) (fun b e' => HP.onlyF_ne _ (hxs b e').symm)
    refine ⟨g1.some (HP.onlyF_eq ..) he, fun e' => ?_⟩
    rw [← e', HP.onlyF_eq] at g2
    exact he g2
  have kq := keep q _ h6 (by simp) (fun e => by rw [e, hb] at h6; cases h6) (fun b e e' => by obtain ⟨c, sp, hc⟩ := hs b e; rw [e', hc] at h6; cases h6)
  have km := keep m _ e1 (by simp) (fun e => by rw [e, hb] at e1; cases e1) (fun b e e' => by obtain ⟨c, sp, hc⟩ := hs b e; rw [e', hc] at e1; cases e1)
  have kmo := keep mo _ e2 (by simp) (fun e => by rw [e, hb] at e2; cases e2) (fun b e e' => by obtain ⟨c, sp, hc⟩ := hs b e; rw [e', hc] at e2; cases e2)
  have ko : ∀ kd ∈ S.D, kd.1 ≠ key → DgR hp' kd.2 ∧ kd.2.rblk ≠ d'.rblk := by
    intro kd hkd hne
    obtain ⟨⟨g0, c, g1, g2, g3⟩, _, _, g4, g5⟩ := h11 kd hkd hne
    have kb := keep kd.2.blk _ g2 (by simp) g4 (fun b e e' => by obtain ⟨c, sp, hc⟩ := hs b e; rw [e', hc] at g2; cases g2)
    have kr := keep kd.2.rblk _ g3 (by simp) (fun e => by rw [e, hb] at g3; cases g3) (fun b e => g5 b e)
    exact ⟨⟨g0, c, g1, kb.1, kr.1⟩, kr.2⟩
  refine ⟨f1, h2, h3, h4, h5, kq.1, ?_, ?_, fun kd hkd => ?_, nodup_put_map (f := fun d : Dg => d.blk) h14 h12 fun x hx hne => (h11 x hx hne).2.2.2.1, nodup_put_map (f := fun d : Dg => d.rblk) h14 h13 fun x hx hne => (ko x hx hne).2, nodup_put h14⟩
  · simp only; rw [km.1, ← e1]; exact hM
  · simp only; rw [kmo.1, ← e2]; exact h7
  · rcases mem_put h14 hkd with rfl | ⟨hkd, hne⟩
    · exact ⟨hd, h9, f2⟩
    · obtain ⟨_, a, b, _, _⟩ := h11 kd hkd hne
      exact ⟨(ko kd hkd hne).1, a, b⟩

/-- The piece is put behind the others, and its end is known, if it is the last. -/
theorem J80 {blk : Nat} {id due fin : Int} {s : Option Addr} {n c : Nat} {l : List Pc} (hb : hp blk = .cells 135 [.int .i64 id, .int .i64 due, .int .i64 fin, .slice s n c] 0) (hr : Row hp s n c 29 6 (l.flatMap pc)) (hl : l.length = n) (hn : n ≤ 1000000)
    (hK : ∀ hp' rb, DgR hp' ⟨blk, rb, id, due, if p.more then fin else p.toW, l ++ [p]⟩ → Fr2 hp hp' blk rb s → F80_j3 (some ⟨q, 0, none⟩) (pc p) hp' K) :
    F80_j1 (some ⟨q, 0, none⟩) (some ⟨blk, 0, none⟩) (pc p) hp K := by
  have hc : ∀ hp', HSub hp hp' → ∀ o, hp'.cell blk o = [Value.int .i64 id, .int .i64 due, .int .i64 fin, .slice s n c][o]? := fun hp' hs o => HP.cell_of (hs.cells hb)
  have hz : splice [(Value.string ⟨#[]⟩), (Value.string ⟨#[]⟩), (Value.int .i64 0), (Value.bool false), (Value.string ⟨#[]⟩), (Value.string ⟨#[]⟩)] 0 (pc p) = pc p := splice_all rfl
  -- behind the append
  have tail : ∀ b, hp b = .none → opS Try.prog (Builtin.append_ #[26, 26] 26 ⟨[.slice s n c, .slice (some ⟨b, 0, none⟩) 1 1]⟩) (hp.set b (.cells 29 (pc p) 0)) fun u h => slcV u fun a n c => HP.st h blk 3 (.slice a n c) fun h => F80_j2 (some ⟨q, 0, none⟩) (some ⟨blk, 0, none⟩) (pc p) h K := by
    intro b hbn
    have sb := HSub.set_fresh hp (.cells 29 (pc p) 0) hbn
    refine opS_appF (e := 29) (size := 6) (bytes := 80) (by kernel_rfl) (hr.sub sb) (.inr ⟨b, 0, rfl, by rw [HP.cellN_of (HP.set_eq ..)]; exact cellsN_all rfl⟩) (pc_one p) (by omega) (by omega) ?_
    intro s3 c3 hp3 hrow hf
    rw [slcV_slice]
    rcases hrow with ⟨_, h0, _, _⟩ | ⟨rb, rfl, hnc, _, hrb⟩
    · omega
    have hb3 : hp3 blk = .cells 135 [.int .i64 id, .int .i64 due, .int .i64 fin, .slice s n c] 0 := by
      have := (hf (HP.onlyF blk (.cells 135 [.int .i64 id, .int .i64 due, .int .i64 fin, .slice s n c] 0)) (HSub.onlyF (sb.cells hb)) (fun b' e => by
        refine HP.onlyF_ne _ fun e' => ?_
        rcases hr with ⟨h0, _, _, _⟩ | ⟨b2, h0, _, _, h3⟩
        · rw [h0] at e; cases e
        · rw [h0] at e; cases e; rw [e', hb] at h3; cases h3)).1
      exact this.cells (HP.onlyF_eq ..)
    have hne : rb ≠ blk := fun e => by rw [e, hb3] at hrb; cases hrb
    have fr : ∀ v, Fr2 hp (hp3.set blk v) blk rb s := fun v h0 g1 g2 g3 => by
      obtain ⟨k1, k2⟩ := hf h0 (g1.trans sb) g3
      exact ⟨k1.up g2 _, k2 rb rfl⟩
    refine HP.st_at hb3 (by simp) ?_
    have hfl : l.flatMap pc ++ pc p = (l ++ [p]).flatMap pc := by simp
    rw [hfl] at hrb
    have dg : ∀ fin' : Int, DgR (hp3.set blk (.cells 135 [.int .i64 id, .int .i64 due, .int .i64 fin', .slice (some ⟨rb, 0, none⟩) (n + 1) c3] 0)) ⟨blk, rb, id, due, fin', l ++ [p]⟩ := fun fin' => by
      refine ⟨by simp, c3, by simp [hl]; exact hnc, ?_, ?_⟩
      · simp only; rw [HP.set_eq]; simp [hl]
      · simp only; rw [HP.set_ne _ _ hne, hrb]; simp [hl]
    unfold F80_j2
    have k3 : (pc p)[3]? = some (.bool p.more) := rfl
    simp only [k3, ldV_some, boolV_bool]
    cases hm : p.more
    · rw [Bool.not_false, ite2_true, cellsN_all (pc_len p), ldL_some]
      refine C122 ?_
      rw [intV_int, ptrN_some]
      refine HP.st_at (HP.set_eq ..) (by simp) ?_
      rw [HP.set_set]
      have := hK _ rb (by rw [hm]; exact dg p.toW) (fr _)
      exact this
    · rw [Bool.not_true, ite2_false]
      exact hK _ rb (by rw [hm]; exact dg fin) (fr _)
  unfold F80_j1
  refine ⟨?_, ?_⟩
  · simp only [ptrN_some, hc hp (HSub.refl _), Nat.zero_add, List.getElem?_cons_succ, List.getElem?_cons_zero, ldV_some, slcV_slice, cellsN_all (pc_len p), ldL_some, hz]
    refine ifI (pc_len p) ?_
    exact tail
  · simp only [ptrN_some, cellsN_all (pc_len p), ldL_some, hz]
    refine ifI (pc_len p) ?_
    intro b hbn
    simp only [hc _ (HSub.set_fresh hp (.cells 29 (pc p) 0) hbn), Nat.zero_add, List.getElem?_cons_succ, List.getElem?_cons_zero, ldV_some, slcV_slice]
    exact tail b hbn

/-- What the store has behind a piece. -/
def takeS (S : Stt) (p : Pc) (last : Int) (d' : Dg) : Stt :=
  { S with last := last, n := IntKind.wrap .i64 (S.n + 1), D := putL p.key d' S.D, of := putL p.src (IntKind.wrap .i64 ((getL p.src S.of).getD 0 + 1)) S.of }

theorem J80c {hp' : HP} (h : StR hp0 hp' q m mo S) (hK : ∀ hp2, Stp q m mo hp' S hp2 { S with n := IntKind.wrap .i64 (S.n + 1), of := putL p.src (IntKind.wrap .i64 ((getL p.src S.of).getD 0 + 1)) S.of } → K (.tuple ⟨[]⟩) hp2) : F80_j3 (some ⟨q, 0, none⟩) (pc p) hp' K := by
  unfold F80_j3
  have c5 : ∀ S : Stt, (stc S m mo)[5]? = some (.map (some mo)) := fun _ => rfl
  have c3 : ∀ S : Stt, (stc S m mo)[3]? = some (.int .i64 S.n) := fun _ => rfl
  have k1 : (pc p)[1]? = some (.string p.src) := rfl
  simp only [ptrN_some, h.cell, Nat.zero_add, c3, ldV_some, intV_int]
  refine HP.st_at h.2.2.2.2.2.1 (by simp [stc]) ?_
  have e1 : (stc S m mo).set 3 (.int .i64 (IntKind.wrap .i64 (S.n + 1))) = stc { S with last := S.last, n := IntKind.wrap .i64 (S.n + 1) } m mo := rfl
  rw [e1]
  have s1 : Stp q m mo hp' S _ _ := Stp.own (last := S.last) (n := IntKind.wrap .i64 (S.n + 1))
  have g1 := s1 hp0 h
  generalize hp'.set q (.cells 130 (stc { S with last := S.last, n := IntKind.wrap .i64 (S.n + 1) } m mo) 0) = hp2 at s1 g1 ⊢
  simp only [g1.cell, c5, ldV_some, mapV_map, k1, strV_string]
  refine rdS_lookup u97 enc9 zj g1.mapOf p.src ?_
  simp only [Bool.false_eq_true, if_false, jw_get, intV_int]
  refine opS_mapUpdate u97 enc9 (ev := jw) g1.mapOf p.src (IntKind.wrap .i64 ((getL p.src S.of).getD 0 + 1)) ?_
  intro e he
  exact hK _ (s1.trans (Stp.ofs he))
theorem put_map_congr {κ ν β : Type} [DecidableEq κ] {f : κ × ν → β} {k : κ} {v u : ν} (e : f (k, v) = f (k, u)) : ∀ l : List (κ × ν), (putL k v l).map f = (putL k u l).map f
  | [] => by simp only [putL, List.map_cons, List.map_nil, e]
  | p :: l => by
    by_cases hk : k = p.1
    · subst hk; simp only [putL, if_true, List.map_cons, e]
    · simp only [putL, hk, if_false, List.map_cons, put_map_congr e l]

/-- What becomes of a piece's datagram. -/
def Took (S : Stt) (p : Pc) (due last' : Int) (d' : Dg) : Prop :=
  (getL p.key S.D = none ∧ last' = IntKind.wrap .i64 (S.last + 1) ∧ d'.id = last' ∧ d'.due = due ∧ d'.fin = (if p.more then -1 else p.toW) ∧ d'.l = [p]) ∨
  ∃ d, getL p.key S.D = some d ∧ last' = S.last ∧ d'.id = d.id ∧ d'.due = d.due ∧ d'.fin = (if p.more then d.fin else p.toW) ∧ d'.l = d.l ++ [p]

theorem C80 {due : Int} (h : StR hp0 hp q m mo S) (hlen : ∀ d, getL p.key S.D = some d → d.l.length ≤ 100000)
    (hK : ∀ hp' d' last', Took S p due last' d' → Stp q m mo hp S hp' (takeS S p last' d') → K (.tuple ⟨[]⟩) hp') : CF Try.prog 80 [ptr q 0, .agg ⟨pc p⟩, .int .i64 due] hp K := by
  refine F80_ok _ (pc p) due hp K ?_
  unfold F80
  have c4 : ∀ S : Stt, (stc S m mo)[4]? = some (.map (some m)) := fun _ => rfl
  have c2 : ∀ S : Stt, (stc S m mo)[2]? = some (.int .i64 S.last) := fun _ => rfl
  have k0 : (pc p)[0]? = some (.string p.key) := rfl
  simp only [ptrN_some, h.cell, Nat.zero_add, c4, k0, ldV_some, mapV_map, strV_string]
  refine rdS_lookup u128 enc9 zpt h.mapD p.key ?_
  simp only [if_true, tup2V_mk, boolV_bool]
  cases hg : getL p.key S.D with
  | none =>
    simp only [Option.map_none, Option.getD_none, Option.isSome_none, ptrV_pointer, boolV_bool, Bool.not_false, ite2_true, ptrN_some, h.cell, Nat.zero_add, c2, ldV_some, intV_int]
    refine HP.st_at h.2.2.2.2.2.1 (by simp [stc]) ?_
    have e1 : (stc S m mo).set 2 (.int .i64 (IntKind.wrap .i64 (S.last + 1))) = stc { S with last := IntKind.wrap .i64 (S.last + 1), n := S.n } m mo := rfl
    rw [e1]
    have s1 : Stp q m mo hp S _ _ := Stp.own (last := IntKind.wrap .i64 (S.last + 1)) (n := S.n)
    have g1 := s1 hp0 h
    generalize hp.set q (.cells 130 (stc { S with last := IntKind.wrap .i64 (S.last + 1), n := S.n } m mo) 0) = hp1 at s1 g1 ⊢
    simp only [ptrN_some, g1.cell, c2, ldV_some, intV_int]
    intro b hb
    have sb := HSub.set_fresh hp1 (.cells 135 [.int .i64 (IntKind.wrap .i64 (S.last + 1)), .int .i64 due, .int .i64 (-1), .slice none 0 0] 0) hb
    have g2 := g1.sub sb
    simp only [ptrN_some, g2.cell, c4, ldV_some, mapV_map, k0, strV_string]
    refine opS_mapUpdate u128 enc9 (ev := dv) g2.mapD p.key ⟨b, b, 0, 0, 0, []⟩ ?_
    intro e he
    obtain ⟨o1, ho1⟩ := (mapE_obj g1.mapD)
    have hbm : b ≠ m := fun e' => by rw [e', ho1] at hb; cases hb
    have hb3 : ((hp1.set b (.cells 135 [.int .i64 (IntKind.wrap .i64 (S.last + 1)), .int .i64 due, .int .i64 (-1), .slice none 0 0] 0)).set m e) b = .cells 135 [.int .i64 (IntKind.wrap .i64 (S.last + 1)), .int .i64 due, .int .i64 (-1), .slice none 0 0] 0 := by
      rw [HP.set_ne _ _ hbm, HP.set_eq]
    refine J80 hb3 (l := []) (.inl ⟨rfl, rfl, rfl, rfl⟩) rfl (by omega) ?_
    intro hp4 rb hd4 hf4
    have st : ∀ hp0', StR hp0' hp q m mo S → StR hp0' hp4 q m mo { S with last := IntKind.wrap .i64 (S.last + 1), n := S.n, D := putL p.key ⟨b, rb, IntKind.wrap .i64 (S.last + 1), due, if p.more then -1 else p.toW, [] ++ [p]⟩ S.D } := by
      intro hp0' x
      have x1 := s1 hp0' x
      have x2 := x1.sub sb
      obtain ⟨a1, a2, a3, a4, a5, a6, a7, a8, a9, a10, a11, a12⟩ := x2
      have hb0 : hp0' b = .none := x1.1.none hb
      obtain ⟨oo, ho⟩ := (mapE_obj a8)
      refine Pre.done (s := none) ⟨a1.up a3 e, a2, a3, a4, a5, ?_, ?_, ?_, hb0, (fun b e => by cases e), ?_, a10, a11, a12⟩ ⟨_, hb3⟩ (fun b e => by cases e) hf4 hd4
      · rw [HP.set_ne _ _ (fun e' => by rw [e'] at a6; obtain ⟨o, ho⟩ := (mapE_obj a7); rw [ho] at a6; cases a6)]; exact a6
      · rw [HP.set_ne _ _ a5.symm]; exact a8
      · intro d hdb
        rw [HP.set_eq]
        exact mapE_same he (put_map_congr (by simp only [dv, hdb]) _)
      · intro kd hkd _
        obtain ⟨o, ho⟩ := (mapE_obj a7)
        obtain ⟨y1, y2, y3⟩ := a9 kd hkd
        refine ⟨y1.ne (y1.ne_obj ho).1 (y1.ne_obj ho).2, y2, y3, fun e' => ?_, fun b e => by cases e⟩
        obtain ⟨_, _, _, z, _⟩ := (x1.2.2.2.2.2.2.2.2.1 kd hkd).1
        rw [e', hb] at z; cases z
    have g4 := st hp0 h
    refine J80c g4 fun hp5 s5 => ?_
    exact hK hp5 ⟨b, rb, IntKind.wrap .i64 (S.last + 1), due, if p.more then -1 else p.toW, [p]⟩ (IntKind.wrap .i64 (S.last + 1)) (.inl ⟨hg, rfl, rfl, rfl, rfl, rfl⟩) fun hp0' x => s5 hp0' (st hp0' x)
  | some d =>
    simp only [Option.map_some, Option.getD_some, Option.isSome_some, dv, ptrV_pointer, boolV_bool, Bool.not_true, ite2_false]
    obtain ⟨h0, c, h1, h2, h3⟩ := h.dg hg
    have hr : Row hp (some ⟨d.rblk, 0, none⟩) d.l.length c 29 6 (d.l.flatMap pc) := .inr ⟨d.rblk, rfl, h1, flat_len pc_len _, h3⟩
    refine J80 h2 hr rfl (by have := hlen d hg; omega) ?_
    intro hp4 rb hd4 hf4
    have st : ∀ hp0', StR hp0' hp q m mo S → StR hp0' hp4 q m mo { S with D := putL p.key ⟨d.blk, rb, d.id, d.due, if p.more then d.fin else p.toW, d.l ++ [p]⟩ S.D } := by
      rintro hp0' ⟨a1, a2, a3, a4, a5, a6, a7, a8, a9, a10, a11, a12⟩
      obtain ⟨y1, y2, y3⟩ := a9 _ (getL_some_mem hg)
      refine Pre.done (s := some ⟨d.rblk, 0, none⟩) ⟨a1, a2, a3, a4, a5, a6, a8, ?_, y2, (fun b e => by cases e; exact y3), ?_, a10, a11, a12⟩ ⟨_, h2⟩ (fun b e => by cases e; exact ⟨_, _, h3⟩) hf4 hd4
      · intro d2 hdb
        exact mapE_same a7 (put_same_map hg (by simp only [dv, hdb]))
      · intro kd hkd hne
        obtain ⟨z1, z2, z3⟩ := a9 kd hkd
        refine ⟨z1, z2, z3, fun e => hne ?_, fun b e e' => hne ?_⟩
        · have := map_inj_of_nodup (f := fun x : ByteArray × Dg => x.2.blk) a10 hkd (getL_some_mem hg) e
          rw [this]
        · cases e
          have := map_inj_of_nodup (f := fun x : ByteArray × Dg => x.2.rblk) a11 hkd (getL_some_mem hg) e'
          rw [this]
    have g4 := st hp0 h
    refine J80c g4 fun hp5 s5 => ?_
    exact hK hp5 ⟨d.blk, rb, d.id, d.due, if p.more then d.fin else p.toW, d.l ++ [p]⟩ S.last (.inr ⟨d, hg, rfl, rfl, rfl, rfl, rfl⟩) fun hp0' x => s5 hp0' (st hp0' x)
end
end Go.Proofs

set_option linter.unusedVariables false
set_option maxRecDepth 20000
namespace Go.Proofs
open Go Go.HL

def zeroW : List Value := wh e0s e0s e0s 0
def cutS (S : Stt) (key : ByteArray) (d : Dg) : Stt := { S with n := cutN d.l.length S.n, D := delL key S.D, of := cutOf d.l S.of }
def setS (S : Stt) (key : ByteArray) (d : Dg) : Stt := { S with D := putL key d S.D }
def okDue (due : Int) : Prop := 0 ≤ due ∧ due ≤ 4611686018427387904
/-- There is room for it in its datagram, or it begins one. -/
def Room (S : Stt) (p : Pc) : Prop := match getL p.key S.D with
  | none => ¬ (p.at_ = 0 ∧ p.more = false)
  | some d => d.l.any (sameP p) = false ∧ fitsQ d.fin d.l p = true

/-- What comes of a piece. -/
inductive PutR (S : Stt) (p : Pc) (due : Int) : List Value → Bool → Int → Stt → Prop
  | arg : ¬ okDue due → PutR S p due zeroW false 1 S
  | form : okDue due → rightP p = false → PutR S p due zeroW false 8 S
  | again (d : Dg) : okDue due → rightP p = true → getL p.key S.D = some d → d.l.any (sameP p) = true → PutR S p due zeroW false 0 S
  | clash (d : Dg) : okDue due → rightP p = true → getL p.key S.D = some d → d.l.any (sameP p) = false → fitsQ d.fin d.l p = false → PutR S p due zeroW false 5 (cutS S p.key d)
  | alone : okDue due → rightP p = true → getL p.key S.D = none → p.at_ = 0 → p.more = false → PutR S p due (wh p.key p.head p.data 1) true 0 S
  | full : okDue due → rightP p = true → Room S p → S.n ≥ S.max → PutR S p due zeroW false 6 S
  | state : okDue due → rightP p = true → Room S p → S.n < S.max → (getL p.src S.of).getD 0 ≥ S.source → PutR S p due zeroW false 11 S
  | part (d' : Dg) (last' : Int) : okDue due → rightP p = true → Room S p → S.n < S.max → (getL p.src S.of).getD 0 < S.source → Took S p due last' d' → d'.fin < 0 → PutR S p due zeroW false 0 (takeS S p last' d')
  | none (d' : Dg) (last' : Int) (l' : List Pc) : okDue due → rightP p = true → Room S p → S.n < S.max → (getL p.src S.of).getD 0 < S.source → Took S p due last' d' → 0 ≤ d'.fin →
      l'.Perm d'.l → l'.Pairwise (fun x y => ltC cfP y x = false) → wholeQ d'.fin l' = Option.none → PutR S p due zeroW false 0 (setS (takeS S p last' d') p.key { d' with l := l' })
  | whole (d' : Dg) (last' : Int) (l' : List Pc) (w : ByteArray) : okDue due → rightP p = true → Room S p → S.n < S.max → (getL p.src S.of).getD 0 < S.source → Took S p due last' d' → 0 ≤ d'.fin →
      l'.Perm d'.l → l'.Pairwise (fun x y => ltC cfP y x = false) → wholeQ d'.fin l' = some w →
      PutR S p due (wh p.key (headQ d'.l) w d'.l.length) true 0 (cutS (setS (takeS S p last' d') p.key { d' with l := l' }) p.key { d' with l := l' })

section
variable {hp0 hp : HP} {q m mo : Nat} {S : Stt} {K : Value → HP → Prop} {p : Pc}

theorem C75 (h : StR hp0 hp q m mo S) (hK : K (.bool false) hp) : CF Try.prog 75 [ptr q 0] hp K := by
  refine F75_ok _ hp K ?_
  unfold F75
  have c4 : (stc S m mo)[4]? = some (.map (some m)) := rfl
  simp only [Option.isNone_some, ite2_false, ptrN_some, h.cell, Nat.zero_add, c4, ldV_some, mapV_map]
  exact hK
theorem C27 (h : StR hp0 hp q m mo S) (hK : K (.int .i64 S.n) hp) : CF Try.prog 27 [ptr q 0] hp K := by
  refine F27_ok _ hp K ?_
  unfold F27
  refine C75 h ?_
  have c3 : (stc S m mo)[3]? = some (.int .i64 S.n) := rfl
  simp only [boolV_bool, ite2_false, ptrN_some, h.cell, Nat.zero_add, c3, ldV_some, intV_int]
  exact hK

theorem C25 {max source : Int} (hbad : ¬ (1 ≤ max ∧ max ≤ 65536 ∧ 1 ≤ source ∧ source ≤ 65536) → K (.tuple ⟨[.pointer none, .int .i64 1]⟩) hp)
    (hok : 1 ≤ max ∧ max ≤ 65536 ∧ 1 ≤ source ∧ source ≤ 65536 → ∀ (q m mo : Nat) (hp' : HP), (∀ hp0, HSub hp0 hp → StR hp0 hp' q m mo ⟨max, source, 0, 0, [], []⟩) → K (.tuple ⟨[ptr q 0, .int .i64 0]⟩) hp') :
    CF Try.prog 25 [.int .i64 max, .int .i64 source] hp K := by
  refine F25_ok max source hp K ?_
  unfold F25
  have bad : ¬ (1 ≤ max ∧ max ≤ 65536 ∧ 1 ≤ source ∧ source ≤ 65536) → F25_j1 max source true hp K := fun h => by
    unfold F25_j1; rw [ite2_true]; exact hbad h
  by_cases h1 : max < 1
  · rw [decide_eq_true h1, ite2_true]; exact bad (by omega)
  rw [decide_eq_false h1, ite2_false]
  by_cases h2 : max > 65536
  · rw [decide_eq_true h2, ite2_true]; exact bad (by omega)
  rw [decide_eq_false h2, ite2_false]
  by_cases h3 : source < 1
  · rw [decide_eq_true h3, ite2_true]; exact bad (by omega)
  rw [decide_eq_false h3, ite2_false]
  by_cases h4 : source > 65536
  · rw [decide_eq_true h4]; exact bad (by omega)
  rw [decide_eq_false h4]
  unfold F25_j1
  rw [ite2_false]
  intro b1 hb1 b2 hb2 b3 hb3
  have n21 : b2 ≠ b1 := fun e => by rw [e, HP.set_eq] at hb2; cases hb2
  have n32 : b3 ≠ b2 := fun e => by rw [e, HP.set_eq] at hb3; cases hb3
  have n31 : b3 ≠ b1 := fun e => by rw [e, HP.set_ne _ _ n21.symm, HP.set_eq] at hb3; cases hb3
  have f2 : hp b2 = .none := by rw [HP.set_ne _ _ n21] at hb2; exact hb2
  have f3 : hp b3 = .none := by rw [HP.set_ne _ _ n32, HP.set_ne _ _ n31] at hb3; exact hb3
  refine hok ⟨by omega, by omega, by omega, by omega⟩ b3 b1 b2 _ fun hp0 hs => ?_
  refine ⟨((hs.up (hs.none hb1) _).up (hs.none f2) _).up (hs.none f3) _, hs.none f3, hs.none hb1, hs.none f2, n21.symm, HP.set_eq .., ?_, ?_, (fun kd h => by cases h), .nil, .nil, .nil⟩
  · rw [HP.set_ne _ _ n31.symm, HP.set_ne _ _ n21.symm, HP.set_eq]; exact MapE.empty _ _
  · rw [HP.set_ne _ _ n32.symm, HP.set_eq]; exact MapE.empty _ _

theorem pre_of {key : ByteArray} {d : Dg} (h : StR hp0 hp q m mo S) (hg : getL key S.D = some d) : Pre hp0 hp q m mo S key d.blk (some ⟨d.rblk, 0, none⟩) := by
  obtain ⟨a1, a2, a3, a4, a5, a6, a7, a8, a9, a10, a11, a12⟩ := h
  obtain ⟨y1, y2, y3⟩ := a9 _ (getL_some_mem hg)
  refine ⟨a1, a2, a3, a4, a5, a6, a8, ?_, y2, (fun b e => by cases e; exact y3), ?_, a10, a11, a12⟩
  · intro d2 hdb
    exact mapE_same a7 (put_same_map hg (by simp only [dv, hdb]))
  · intro kd hkd hne
    obtain ⟨z1, z2, z3⟩ := a9 kd hkd
    refine ⟨z1, z2, z3, fun e => hne ?_, fun b e e' => hne ?_⟩
    · have := map_inj_of_nodup (f := fun x : ByteArray × Dg => x.2.blk) a10 hkd (getL_some_mem hg) e
      rw [this]
    · cases e
      have := map_inj_of_nodup (f := fun x : ByteArray × Dg => x.2.rblk) a11 hkd (getL_some_mem hg) e'
      rw [this]

/-- A datagram's pieces in another order. -/
theorem Stp.order {key : ByteArray} {d : Dg} {l' : List Pc} {x : Ent} (hg : getL key S.D = some d) (hd : DgR hp d) (hd' : DgR (hp.set d.rblk x) { d with l := l' }) : Stp q m mo hp S (hp.set d.rblk x) (setS S key { d with l := l' }) := by
  intro hp0 h
  obtain ⟨h0, c, h1, h2, h3⟩ := hd
  exact Pre.done (d' := { d with l := l' }) (pre_of (d := d) h hg) ⟨_, h2⟩ (fun b e => by cases e; exact ⟨_, _, h3⟩) (fun h0 g1 g2 g3 => ⟨g1.up (g3 _ rfl) _, g3 _ rfl⟩) hd'

theorem C26 {due : Int} (h : StR hp0 hp q m mo S) (hok : okP p) (hlen : ∀ d, getL p.key S.D = some d → d.l.length ≤ 70000) (hri : ∀ d, getL p.key S.D = some d → ∀ x ∈ d.l, rightP x = true)
    (hK : ∀ hp' w b e S', PutR S p due w b e S' → Stp q m mo hp S hp' S' → K (.tuple ⟨[.agg ⟨w⟩, .bool b, .int .i64 e]⟩) hp') :
    CF Try.prog 26 [ptr q 0, .agg ⟨pc p⟩, .int .i64 due] hp K := by
  refine F26_ok _ (pc p) due hp K ?_
  unfold F26
  refine C75 h ?_
  rw [boolV_bool, ite2_false]
  have hz0 : [(Value.string ⟨#[]⟩), (Value.string ⟨#[]⟩), (Value.string ⟨#[]⟩), (Value.int .i64 0)] = wh e0s e0s e0s 0 := rfl
  have whl : ∀ a b c d, (wh a b c d).length = 4 := fun _ _ _ _ => rfl
  have who : ∀ a b c d, (wh a b c d).all one = true := fun _ _ _ _ => rfl
  have hsp : ∀ a b c d a' b' c' d', splice (wh a b c d) 0 (wh a' b' c' d') = wh a' b' c' d' := fun _ _ _ _ _ _ _ _ => splice_all rfl
  have whc : ∀ a b c d, cellsN (wh a b c d) 0 4 = some (wh a b c d) := fun a b c d => cellsN_all (whl a b c d)
  have k0 : (pc p)[0]? = some (.string p.key) := rfl
  have k1 : (pc p)[1]? = some (.string p.src) := rfl
  have k2 : (pc p)[2]? = some (.int .i64 p.at_) := rfl
  have k3 : (pc p)[3]? = some (.bool p.more) := rfl
  have k4 : (pc p)[4]? = some (.string p.data) := rfl
  have k5 : (pc p)[5]? = some (.string p.head) := rfl
  have kN : cellsN (pc p) 0 6 = some (pc p) := cellsN_all (pc_len p)
  have c0 : ∀ S : Stt, (stc S m mo)[0]? = some (.int .i64 S.max) := fun _ => rfl
  have c1 : ∀ S : Stt, (stc S m mo)[1]? = some (.int .i64 S.source) := fun _ => rfl
  have c3 : ∀ S : Stt, (stc S m mo)[3]? = some (.int .i64 S.n) := fun _ => rfl
  have c4 : ∀ S : Stt, (stc S m mo)[4]? = some (.map (some m)) := fun _ => rfl
  have c5 : ∀ S : Stt, (stc S m mo)[5]? = some (.map (some mo)) := fun _ => rfl
  have bad : ¬ okDue due → F26_j1 (some ⟨q, 0, none⟩) due true (pc p) [(Value.string ⟨#[]⟩), (Value.string ⟨#[]⟩), (Value.string ⟨#[]⟩), (Value.int .i64 0)] hp K := by
    intro hd
    unfold F26_j1
    simp only [ite2_true, hz0, whl, who, if_true, hsp, whc, ldL_some]
    exact ifI (Nat.le_refl _) (hK _ _ _ _ _ (.arg hd) Stp.refl)
  by_cases hd1 : due < 0
  · rw [decide_eq_true hd1, ite2_true]; exact bad (by unfold okDue; omega)
  rw [decide_eq_false hd1, ite2_false]
  by_cases hd2 : due > 4611686018427387904
  · rw [decide_eq_true hd2]; exact bad (by unfold okDue; omega)
  rw [decide_eq_false hd2]
  have hod : okDue due := ⟨by omega, by omega⟩
  unfold F26_j1
  rw [ite2_false, kN, ldL_some]
  refine C67 hok ?_
  rw [boolV_bool]
  cases hrp : rightP p
  · simp only [Bool.not_false, ite2_true, hz0, whl, who, if_true, hsp, whc, ldL_some]
    exact ifI (Nat.le_refl _) (hK _ _ _ _ _ (.form hod hrp) Stp.refl)
  rw [Bool.not_true, ite2_false]
  simp only [ptrN_some, h.cell, Nat.zero_add, c4, k0, ldV_some, mapV_map, strV_string]
  refine rdS_lookup u128 enc9 zpt h.mapD p.key ?_
  simp only [if_true, tup2V_mk, boolV_bool]
  -- there is room
  have four : Room S p → F26_j4 (some ⟨q, 0, none⟩) due false (pc p) (wh e0s e0s e0s 0) hp K := by
    intro hroom
    unfold F26_j4
    simp only [ite2_false, ptrN_some, h.cell, Nat.zero_add, c3, c0, ldV_some, intV_int, hz0, whl, who, if_true, hsp, whc, ldL_some, Nat.le_refl]
    by_cases hf : S.n ≥ S.max
    · rw [decide_eq_true hf, ite2_true]
      exact hK _ _ _ _ _ (.full hod hrp hroom hf) Stp.refl
    rw [decide_eq_false hf, ite2_false]
    simp only [c5, c1, k1, ldV_some, mapV_map, strV_string]
    refine rdS_lookup u97 enc9 zj h.mapOf p.src ?_
    simp only [Bool.false_eq_true, if_false, jw_get, intV_int]
    by_cases hs : (getL p.src S.of).getD 0 ≥ S.source
    · rw [decide_eq_true hs, ite2_true]
      exact hK _ _ _ _ _ (.state hod hrp hroom (by omega) hs) Stp.refl
    rw [decide_eq_false hs, ite2_false, kN, ldL_some]
    refine C80 h (fun d hg => by have := hlen d hg; omega) ?_
    intro hp1 d' last' htook s1
    have g1 := s1 hp0 h
    have hg1 : getL p.key (takeS S p last' d').D = some d' := by
      unfold takeS; simp only [getL_put, if_true]
    have hll : d'.l.length ≤ 100000 := by
      rcases htook with ⟨_, _, _, _, _, e⟩ | ⟨d, hg, _, _, _, _, e⟩
      · rw [e]; simp
      · rw [e, List.length_append]; have := hlen d hg; simp only [List.length_cons, List.length_nil]; omega
    have hrr : ∀ x ∈ d'.l, rightP x = true := by
      rcases htook with ⟨_, _, _, _, _, e⟩ | ⟨d, hg, _, _, _, _, e⟩
      · rw [e]; intro x hx; rw [List.mem_singleton] at hx; rw [hx]; exact hrp
      · rw [e]; intro x hx
        rw [List.mem_append, List.mem_singleton] at hx
        rcases hx with hx | hx
        · exact hri d hg x hx
        · rw [hx]; exact hrp
    simp only [ptrN_some, g1.cell, Nat.zero_add, c4, k0, ldV_some, mapV_map, strV_string]
    refine rdS_lookup u128 enc9 zpt g1.mapD p.key ?_
    simp only [Bool.false_eq_true, if_false, hg1, Option.map_some, Option.getD_some, dv, ptrV_pointer]
    refine C81 (g1.dg hg1) hll hrr ?_ ?_
    · intro hneg
      simp only [tup2V_mk, aggV_agg, boolV_bool, whl, who, if_true, hsp, Nat.zero_add, Nat.le_refl, ite2_false]
      unfold F26_j5
      simp only [whl, who, if_true, hsp, whc, ldL_some, Nat.zero_add, Nat.le_refl]
      exact hK _ _ _ _ _ (.part d' last' hod hrp hroom (by omega) (by omega) htook hneg) s1
    · intro hpos l' x hperm hsort hd2
      have s2 := s1.trans (Stp.order hg1 (g1.dg hg1) hd2)
      generalize hp1.set d'.rblk x = hp2 at s2 hd2 ⊢
      cases hw : wholeQ d'.fin l' with
      | none =>
        simp only [whO, Option.isSome_none, tup2V_mk, aggV_agg, boolV_bool, whl, who, if_true, hsp, Nat.zero_add, Nat.le_refl, ite2_false]
        unfold F26_j5
        simp only [whl, who, if_true, hsp, whc, ldL_some, Nat.zero_add, Nat.le_refl]
        exact hK _ _ _ _ _ (.none d' last' l' hod hrp hroom (by omega) (by omega) htook hpos hperm hsort hw) s2
      | some w =>
        simp only [whO, Option.isSome_some, tup2V_mk, aggV_agg, boolV_bool, whl, who, if_true, hsp, Nat.zero_add, Nat.le_refl, ite2_true, k0, ldV_some, strV_string]
        have g2 := s2 hp0 h
        have hg2 : getL p.key (setS (takeS S p last' d') p.key { d' with l := l' }).D = some { d' with l := l' } := by
          unfold setS; simp only [getL_put, if_true]
        refine C79 g2 hg2 (by simp only; rw [hperm.length_eq]; omega) ?_
        intro hp3 s3
        unfold F26_j5
        simp only [whl, who, if_true, hsp, whc, ldL_some, Nat.zero_add, Nat.le_refl]
        exact hK _ _ _ _ _ (.whole d' last' l' w hod hrp hroom (by omega) (by omega) htook hpos hperm hsort hw) (s2.trans s3)
  cases hg : getL p.key S.D with
  | none =>
    simp only [Option.map_none, Option.getD_none, Option.isSome_none, ptrV_pointer, boolV_bool, ite2_false, hz0]
    unfold F26_j2
    simp only [ite2_false]
    unfold F26_j3
    simp only [ite2_false, Bool.not_false, ite2_true, k2, k3, ldV_some, intV_int, boolV_bool]
    by_cases ha : p.at_ = 0
    · have e : (p.at_ == 0) = true := by simpa using ha
      rw [e, ite2_true]
      cases hm : p.more
      · rw [Bool.not_false]
        unfold F26_j4
        have hl3 : [Value.string p.key, .string p.head, .string p.data, .int .i64 1] = wh p.key p.head p.data 1 := rfl
        simp only [ite2_true, k0, k4, k5, ldV_some, strV_string, hl3, whl, who, if_true, hsp, whc, ldL_some, Nat.zero_add, Nat.le_refl]
        exact hK _ _ _ _ _ (.alone hod hrp hg ha hm) Stp.refl
      · rw [Bool.not_true]
        exact four (by unfold Room; rw [hg]; simp [hm])
    · have e : (p.at_ == 0) = false := by simpa using ha
      rw [e, ite2_false]
      exact four (by unfold Room; rw [hg]; simp [ha])
  | some d =>
    simp only [Option.map_some, Option.getD_some, Option.isSome_some, dv, ptrV_pointer, boolV_bool, ite2_true, ptrN_some, Nat.zero_add, hz0]
    have hdg := h.dg hg
    have hl19 := hlen d hg
    obtain ⟨h0, c, h1, h2, h3⟩ := hdg
    have hc : ∀ o, hp.cell d.blk o = [Value.int .i64 d.id, .int .i64 d.due, .int .i64 d.fin, .slice (some ⟨d.rblk, 0, none⟩) d.l.length c][o]? := fun o => HP.cell_of h2
    have sh : Shows hp (some ⟨d.rblk, 0, none⟩) d.l.length 6 (d.l.flatMap pc) := .inr ⟨d.rblk, 0, rfl, by rw [HP.cellN_of h3]; exact cellsN_all (by rw [flat_len pc_len])⟩
    simp only [hc, List.getElem?_cons_succ, List.getElem?_cons_zero, ldV_some, slcV_slice, kN, ldL_some]
    refine C76 (g := sameP p) sh rfl (by omega) (fun x _ K' hK' => C77 hK') ?_
    rw [boolV_bool]
    unfold F26_j2
    cases hany : d.l.any (sameP p)
    rotate_left
    · simp only [ite2_true, hz0, whl, who, if_true, hsp, whc, ldL_some, Nat.zero_add, Nat.le_refl]
      exact hK _ _ _ _ _ (.again d hod hrp hg hany) Stp.refl
    simp only [ite2_false, ite2_true, kN, ldL_some]
    refine C78 (h.dg hg) (by omega) ?_
    rw [boolV_bool]
    unfold F26_j3
    cases hfit : fitsQ d.fin d.l p
    · simp only [Bool.not_false, ite2_true, k0, ldV_some, strV_string]
      refine C79 h hg (by omega) ?_
      intro hp3 s3
      simp only [hz0, whl, who, if_true, hsp, whc, ldL_some, Nat.zero_add, Nat.le_refl]
      exact hK _ _ _ _ _ (.clash d hod hrp hg hany hfit) s3
    · simp only [Bool.not_true, ite2_false]
      exact four (by unfold Room; rw [hg]; exact ⟨hany, hfit⟩)
end
end Go.Proofs

set_option linter.unusedVariables false
namespace Go.HL
open Go

def ssT {T : Type} (en : T → ByteArray) (x : T) : List Value := [sw (en x)]
/-- The comparison that a sort of strings is handed. -/
def CmpOk1 {T : Type} (P : Program) (f : FuncId) (ga gb : List Value) (hp0 : HP) (b : Nat) (e : TypeId) (sp : Nat) (n : Nat) (cf : T → T → Int) (en : T → ByteArray) : Prop :=
  ∀ (d : Array T) (x y : T) (K : Value → HP → Prop), d.size = n → x ∈ d.toList → y ∈ d.toList → K (.int .i64 (cf x y)) (HA hp0 b e sp (ssT en) d) → CF P f (ga ++ [.string (en x), .string (en y)] ++ gb) (HA hp0 b e sp (ssT en) d) K
def CmpX1 {T : Type} (P : Program) (f : FuncId) (ga gb : List Value) (hp0 : HP) (b : Nat) (e : TypeId) (sp : Nat) (n : Nat) (cf : T → T → Int) (en : T → ByteArray) : Prop :=
  ∀ hp1, HSub hp0 hp1 → CmpOk1 P f ga gb hp1 b e sp n cf en

section
variable {P : Program} {f : FuncId} {ga gb : List Value} {hp0 : HP} {b : Nat} {e : TypeId} {sp n : Nat} {T : Type} [Inhabited T] {en : T → ByteArray} {cf : T → T → Int} {d : Array T}
omit [Inhabited T] in
theorem CmpX1.sub {hp1 : HP} (h : CmpX1 P f ga gb hp0 b e sp n cf en) (hs : HSub hp0 hp1) : CmpX1 P f ga gb hp1 b e sp n cf en := fun hp2 h2 => h hp2 (hs.trans h2)
omit [Inhabited T] in
theorem CmpX1.ok (h : CmpX1 P f ga gb hp0 b e sp n cf en) : CmpOk1 P f ga gb hp0 b e sp n cf en := h hp0 (HSub.refl _)
end
end Go.HL

set_option linter.unusedVariables false
set_option maxRecDepth 20000
namespace Go.Proofs
open Go Go.HL
-- 180 slices.insertionSortCmpFunc[string]
section
variable (e : Env) (x0a : Option Addr) (x0n x0c : Nat) (x1 x2 : Int) (x3 : Value) (x8 x9 : Int) (hp : HP) (K : Env → PV → HP → Prop)
abbrev R180 (p : List Nat) (n : Nat) := RW Try.prog 53 [] (opsAt Try.f180 p) (List.range n)
theorem F180_r0 : R180 [1, 0, 0, 0, 0] 3 (upd (upd e 8 (sI x8)) 2 (sI x2)) V0 hp K =
    (K (upd (upd (upd (upd (upd e 8 (sI x8)) 2 (sI x2)) 12 (sI x8)) 13 (sI x2)) 14 (sB (decide (x8 < x2)))) V0 hp) := by kernel_rfl
theorem F180_r1 : R180 [1, 0, 0, 1, 1] 3 (upd e 8 (sI x8)) V0 hp K =
    (K (upd (upd (upd (upd e 8 (sI x8)) 15 (sI x8)) 16 (sI ((wr (x8 + 1))))) 8 (sI ((wr (x8 + 1))))) V0 hp) := by kernel_rfl
def F180_j3 (x0a : Option Addr) (x0n : Nat) (x0c : Nat) (x1 : Int) (x2 : Int) (x3 : Value) (x8 : Int) (hp : HP) (I2 : (Int) → HP → Prop) (K : Value → HP → Prop) : Prop :=
  (I2 (IntKind.wrap .i64 (x8 + 1)) hp)
theorem F180_r2 : R180 [1, 0, 0, 1, 0, 0, 1, 0, 0, 1, 0, 0] 18 (upd (upd e 9 (sI x9)) 0 (sS x0a x0n x0c)) V0 hp K =
    ((0 ≤ ((wr (x9 - 1)) : Int)) ∧ (((wr (x9 - 1)) : Int) < x0n) ∧ (ptrN x0a fun b1 o2 => (ldV (HP.cell hp b1 (o2 + Int.toNat (wr (x9 - 1)) * 1)) fun v3 => (strV v3 fun s4 => ((0 ≤ x9) ∧ (x9 < x0n) ∧ (ptrN x0a fun b5 o6 => (ldV (HP.cell hp b5 (o6 + Int.toNat x9 * 1)) fun v7 => (strV v7 fun s8 => ((0 ≤ x9) ∧ (x9 < x0n) ∧ (ptrN x0a fun b9 o10 => (HP.st hp b9 (o10 + Int.toNat x9 * 1) (.string s4) fun h11 => ((0 ≤ ((wr (x9 - 1)) : Int)) ∧ (((wr (x9 - 1)) : Int) < x0n) ∧ (ptrN x0a fun b12 o13 => (HP.st h11 b12 (o13 + Int.toNat (wr (x9 - 1)) * 1) (.string s8) fun h14 => (K (upd (upd (upd (upd (upd (upd (upd (upd (upd (upd (upd (upd (upd (upd (upd (upd (upd (upd e 9 (sI x9)) 0 (sS x0a x0n x0c)) 37 (sS x0a x0n x0c)) 38 (sI x9)) 39 (sS x0a x0n x0c)) 40 (sI x9)) 41 (sI ((wr (x9 - 1))))) 42 (sS x0a x0n x0c)) 43 (sI x9)) 44 (sI ((wr (x9 - 1))))) 45 (sV (ptr b1 (o2 + Int.toNat (wr (x9 - 1)) * 1)))) 46 (sV (.string s4))) 47 (sS x0a x0n x0c)) 48 (sI x9)) 49 (sQ b5 (o6 + Int.toNat x9 * 1))) 50 (sV (.string s8))) 51 (sQ b9 (o10 + Int.toNat x9 * 1))) 52 (sV (ptr b12 (o13 + Int.toNat (wr (x9 - 1)) * 1)))) V0 h14))))))))))))))) := by kernel_rfl
theorem F180_r3 : R180 [1, 0, 0, 1, 0, 0, 1, 0, 0, 1, 1] 3 (upd e 9 (sI x9)) V0 hp K =
    (K (upd (upd (upd (upd e 9 (sI x9)) 35 (sI x9)) 36 (sI ((wr (x9 - 1))))) 9 (sI ((wr (x9 - 1))))) V0 hp) := by kernel_rfl
def F180_j6 (x0a : Option Addr) (x0n : Nat) (x0c : Nat) (x1 : Int) (x2 : Int) (x3 : Value) (x8 : Int) (x9 : Int) (x34 : Bool) (hp : HP) (I2 : (Int) → HP → Prop) (I5 : (Int) → HP → Prop) (K : Value → HP → Prop) : Prop :=
  (ite2 x34 ((0 ≤ ((IntKind.wrap .i64 (x9 - 1)) : Int)) ∧ (((IntKind.wrap .i64 (x9 - 1)) : Int) < x0n) ∧ (ptrN x0a fun b_1 o_2 => (ldV (HP.cell hp b_1 (o_2 + Int.toNat (IntKind.wrap .i64 (x9 - 1)) * 1)) fun v_3 => (strV v_3 fun s_4 => ((0 ≤ x9) ∧ (x9 < x0n) ∧ (ptrN x0a fun b_5 o_6 => (ldV (HP.cell hp b_5 (o_6 + Int.toNat x9 * 1)) fun v_7 => (strV v_7 fun s_8 => ((0 ≤ x9) ∧ (x9 < x0n) ∧ (ptrN x0a fun b_9 o_10 => (HP.st hp b_9 (o_10 + Int.toNat x9 * 1) (.string s_4) fun h_11 => ((0 ≤ ((IntKind.wrap .i64 (x9 - 1)) : Int)) ∧ (((IntKind.wrap .i64 (x9 - 1)) : Int) < x0n) ∧ (ptrN x0a fun b_12 o_13 => (HP.st h_11 b_12 (o_13 + Int.toNat (IntKind.wrap .i64 (x9 - 1)) * 1) (.string s_8) fun h_14 => (I5 (IntKind.wrap .i64 (x9 - 1)) h_14))))))))))))))) (F180_j3 x0a x0n x0c x1 x2 x3 x8 hp I2 K))
theorem F180_r4 : R180 [1, 0, 0, 1, 0, 0, 1, 0, 0, 0, 0] 17 (upd (upd (upd (upd e 9 (sI x9)) 3 (sV x3)) 1 (sI x1)) 0 (sS x0a x0n x0c)) V0 hp K =
    (ite2 (decide (x9 > x1)) ((0 ≤ x9) ∧ (x9 < x0n) ∧ (ptrN x0a fun b1 o2 => (ldV (HP.cell hp b1 (o2 + Int.toNat x9 * 1)) fun v3 => (strV v3 fun s4 => ((0 ≤ ((wr (x9 - 1)) : Int)) ∧ (((wr (x9 - 1)) : Int) < x0n) ∧ (ptrN x0a fun b5 o6 => (ldV (HP.cell hp b5 (o6 + Int.toNat (wr (x9 - 1)) * 1)) fun v7 => (strV v7 fun s8 => (fnV x3 fun f9 ga10 gb11 => (CF Try.prog f9 (ga10 ++ [(Value.string s4), (.string s8)] ++ gb11) hp fun u12 h13 => (intV u12 .i64 fun i14 => (K (upd (upd (upd (upd (upd (upd (upd (upd (upd (upd (upd (upd (upd (upd (upd (upd (upd (upd (upd (upd (upd e 9 (sI x9)) 3 (sV x3)) 1 (sI x1)) 0 (sS x0a x0n x0c)) 18 (sI x9)) 19 (sI x1)) 20 (sB (decide (x9 > x1)))) 21 (sB true)) 22 (sV x3)) 23 (sS x0a x0n x0c)) 24 (sI x9)) 25 (sQ b1 (o2 + Int.toNat x9 * 1))) 26 (sV (.string s4))) 27 (sS x0a x0n x0c)) 28 (sI x9)) 29 (sI ((wr (x9 - 1))))) 30 (sV (ptr b5 (o6 + Int.toNat (wr (x9 - 1)) * 1)))) 31 (sV (.string s8))) 32 (sI i14)) 33 (sB (decide (i14 < 0)))) 34 (sB (decide (i14 < 0)))) V0 h13)))))))))))) (K (upd (upd (upd (upd (upd (upd (upd (upd (upd (upd (upd (upd (upd (upd (upd (upd (upd (upd (upd (upd (upd e 9 (sI x9)) 3 (sV x3)) 1 (sI x1)) 0 (sS x0a x0n x0c)) 18 (sI x9)) 19 (sI x1)) 20 (sB (decide (x9 > x1)))) 21 (sB false)) 22 sU) 23 sU) 24 sU) 25 sU) 26 sU) 27 sU) 28 sU) 29 sU) 30 sU) 31 sU) 32 sU) 33 sU) 34 (sB false)) V0 hp)) := by kernel_rfl
def F180_l5 (x0a : Option Addr) (x0n : Nat) (x0c : Nat) (x1 : Int) (x2 : Int) (x3 : Value) (x8 : Int) (I2 : (Int) → HP → Prop) (K : Value → HP → Prop) (I5 : (Int) → HP → Prop) (x9 : Int) (hp : HP) : Prop :=
  (ite2 (decide (x9 > x1)) ((0 ≤ x9) ∧ (x9 < x0n) ∧ (ptrN x0a fun b_15 o_16 => (ldV (HP.cell hp b_15 (o_16 + Int.toNat x9 * 1)) fun v_17 => (strV v_17 fun s_18 => ((0 ≤ ((IntKind.wrap .i64 (x9 - 1)) : Int)) ∧ (((IntKind.wrap .i64 (x9 - 1)) : Int) < x0n) ∧ (ptrN x0a fun b_19 o_20 => (ldV (HP.cell hp b_19 (o_20 + Int.toNat (IntKind.wrap .i64 (x9 - 1)) * 1)) fun v_21 => (strV v_21 fun s_22 => (fnV x3 fun f_23 ga_24 gb_25 => (CF Try.prog f_23 (ga_24 ++ [(Value.string s_18), (.string s_22)] ++ gb_25) hp fun u_26 h_27 => (intV u_26 .i64 fun i_28 => (F180_j6 x0a x0n x0c x1 x2 x3 x8 x9 (decide (i_28 < 0)) h_27 I2 I5 K)))))))))))) (F180_j6 x0a x0n x0c x1 x2 x3 x8 x9 false hp I2 I5 K))
def F180_j4 (x0a : Option Addr) (x0n : Nat) (x0c : Nat) (x1 : Int) (x2 : Int) (x3 : Value) (x8 : Int) (x9 : Int) (hp : HP) (I2 : (Int) → HP → Prop) (K : Value → HP → Prop) : Prop :=
  (LoopP (σ := Int) (fun I s hp => F180_l5 x0a x0n x0c x1 x2 x3 x8 I2 K I s hp) x9 hp)
theorem F180_r5 : R180 [1, 0, 0, 1, 0, 0, 0] 2 (upd e 8 (sI x8)) V0 hp K =
    (K (upd (upd (upd e 8 (sI x8)) 17 (sI x8)) 9 (sI x8)) V0 hp) := by kernel_rfl
def F180_l2 (x0a : Option Addr) (x0n : Nat) (x0c : Nat) (x1 : Int) (x2 : Int) (x3 : Value) (K : Value → HP → Prop) (I2 : (Int) → HP → Prop) (x8 : Int) (hp : HP) : Prop :=
  (ite2 (decide (x8 < x2)) (F180_j4 x0a x0n x0c x1 x2 x3 x8 x8 hp I2 K) (K (.tuple ⟨[]⟩) hp))
def F180_j1 (x0a : Option Addr) (x0n : Nat) (x0c : Nat) (x1 : Int) (x2 : Int) (x3 : Value) (x8 : Int) (hp : HP) (K : Value → HP → Prop) : Prop :=
  (LoopP (σ := Int) (fun I s hp => F180_l2 x0a x0n x0c x1 x2 x3  K I s hp) x8 hp)
theorem F180_r6 : R180 [0] 3 (upd e 1 (sI x1)) V0 hp K =
    (K (upd (upd (upd (upd e 1 (sI x1)) 10 (sI x1)) 11 (sI ((wr (x1 + 1))))) 8 (sI ((wr (x1 + 1))))) V0 hp) := by kernel_rfl
def F180 (x0a : Option Addr) (x0n : Nat) (x0c : Nat) (x1 : Int) (x2 : Int) (x3 : Value) (hp : HP) (K : Value → HP → Prop) : Prop :=
  (F180_j1 x0a x0n x0c x1 x2 x3 (IntKind.wrap .i64 (x1 + 1)) hp  K)
noncomputable def F180_code : Code := (.seq (.region 0 (opsAt Try.f180 [0]) false) (.block 0 (.loop (.seq (.seq (.region 1 (opsAt Try.f180 [1, 0, 0, 0, 0]) false) (.cond (.tmp 14) .skip (.exit 0))) (.seq (.block 1 (.seq (.region 3 (opsAt Try.f180 [1, 0, 0, 1, 0, 0, 0]) false) (.block 2 (.loop (.seq (.seq (.region 4 (opsAt Try.f180 [1, 0, 0, 1, 0, 0, 1, 0, 0, 0, 0]) true) (.cond (.tmp 34) .skip (.exit 2))) (.seq (.block 3 (.region 6 (opsAt Try.f180 [1, 0, 0, 1, 0, 0, 1, 0, 0, 1, 0, 0]) true)) (.region 5 (opsAt Try.f180 [1, 0, 0, 1, 0, 0, 1, 0, 0, 1, 1]) false))))))) (.region 2 (opsAt Try.f180 [1, 0, 0, 1, 1]) false))))))
theorem F180_body : Try.f180.body = some F180_code := by kernel_rfl
theorem F180_ok (x0a : Option Addr) (x0n : Nat) (x0c : Nat) (x1 : Int) (x2 : Int) (x3 : Value) (hp : HP) (K : Value → HP → Prop) (h : F180 x0a x0n x0c x1 x2 x3 hp K) : CF Try.prog 180 [(.slice x0a x0n x0c), (.int .i64 x1), (.int .i64 x2), x3] hp K := by
 refine .inl ⟨by kernel_rfl, AC.intro (N := 53) Try.func180 F180_body rfl (Nat.le_of_ble_eq_true rfl) ?_⟩
 unfold F180 at h
 unfold F180_code
 refine AWP.seq (fun env pv hp => ∃ (x0a : Option Addr) (x0n : Nat) (x0c : Nat) (x1 : Int) (x2 : Int) (x3 : Value) (x8 : Int), Sub (upd (upd (upd (upd (upd E0 8 (sI x8)) 3 (sV x3)) 2 (sI x2)) 1 (sI x1)) 0 (sS x0a x0n x0c)) env ∧ Sub V0 pv ∧ (F180_j1 x0a x0n x0c x1 x2 x3 x8 hp  K)) ?_ ?_
 ·refine AWP.rgn (F180_r6 (upd (upd (upd E0 3 (sV x3)) 2 (sI x2)) 0 (sS x0a x0n x0c)) x1 hp _) ?_ (Ru 1 (Ru 0 (Ru 2 (Ru 3 Rn)))) (Sc rfl (Sc rfl (Sc rfl (Sc rfl Sn)))) Sn
  exact ⟨x0a, x0n, x0c, x1, x2, x3, (wr (x1 + 1)), (Sc rfl (Sc rfl (Sc rfl (Sc rfl (Sc rfl Sn))))), Sn, h⟩
 ·rintro env pv hp ⟨x0a, x0n, x0c, x1, x2, x3, x8, he, hv, h⟩
  refine AWP.sub (env' := (upd (upd (upd (upd (upd E0 8 (sI x8)) 3 (sV x3)) 2 (sI x2)) 1 (sI x1)) 0 (sS x0a x0n x0c))) (pv' := V0) ?_ (Ru 0 (Ru 1 (Ru 2 (Ru 3 (Ru 8 Rn))))) he hv (HSub.refl _)
  clear he hv
  unfold F180_j1 at h
  refine AWP.block ?_
  refine AWP.loop (σ := Int) (fun I s hp => F180_l2 x0a x0n x0c x1 x2 x3  K I s hp) (fun s => (upd (upd (upd (upd (upd E0 8 (sI s)) 3 (sV x3)) 2 (sI x2)) 1 (sI x1)) 0 (sS x0a x0n x0c))) (fun s => V0) x8 h (fun s => (Ru 0 (Ru 1 (Ru 2 (Ru 3 (Ru 8 Rn)))))) (Sc rfl (Sc rfl (Sc rfl (Sc rfl (Sc rfl Sn))))) Sn ?_
  intro I2 s hp h
  obtain ⟨x8, hs⟩ : ∃ x, x = s := ⟨s, rfl⟩
  subst hs
  replace h : F180_l2 x0a x0n x0c x1 x2 x3  K I2 x8 hp := h
  unfold F180_l2 at h
  refine AWP.seq' ?_
  refine AWP.seq' ?_
  refine AWP.rgn (F180_r0 (upd (upd (upd E0 3 (sV x3)) 1 (sI x1)) 0 (sS x0a x0n x0c)) x2 x8 hp _) ?_ (Ru 2 (Ru 8 (Ru 0 (Ru 1 (Ru 3 Rn))))) (Sc rfl (Sc rfl (Sc rfl (Sc rfl (Sc rfl Sn))))) Sn
  refine AWP.cond (t := (decide (x8 < x2))) rfl (fun e => ?_) (fun e => ?_)
  ·replace h := ite2_t h e
   refine AWP.skip ?_
   refine AWP.seq (fun env pv hp => ∃ (x8 : Int), Sub (upd (upd (upd (upd (upd E0 8 (sI x8)) 3 (sV x3)) 2 (sI x2)) 1 (sI x1)) 0 (sS x0a x0n x0c)) env ∧ Sub V0 pv ∧ (F180_j3 x0a x0n x0c x1 x2 x3 x8 hp I2 K)) ?_ ?_
   ·refine AWP.block ?_
    refine AWP.seq (fun env pv hp => ∃ (x8 : Int) (x9 : Int), Sub (upd (upd (upd (upd (upd (upd E0 9 (sI x9)) 8 (sI x8)) 3 (sV x3)) 2 (sI x2)) 1 (sI x1)) 0 (sS x0a x0n x0c)) env ∧ Sub V0 pv ∧ (F180_j4 x0a x0n x0c x1 x2 x3 x8 x9 hp I2 K)) ?_ ?_
    ·refine AWP.rgn (F180_r5 (upd (upd (upd (upd E0 3 (sV x3)) 2 (sI x2)) 1 (sI x1)) 0 (sS x0a x0n x0c)) x8 hp _) ?_ (Ru 8 (Ru 0 (Ru 1 (Ru 2 (Ru 3 Rn))))) (Sc rfl (Sc rfl (Sc rfl (Sc rfl (Sc rfl Sn))))) Sn
     exact ⟨x8, x8, (Sc rfl (Sc rfl (Sc rfl (Sc rfl (Sc rfl (Sc rfl Sn)))))), Sn, h⟩
    ·rintro env pv hp ⟨x8, x9, he, hv, h⟩
     refine AWP.sub (env' := (upd (upd (upd (upd (upd (upd E0 9 (sI x9)) 8 (sI x8)) 3 (sV x3)) 2 (sI x2)) 1 (sI x1)) 0 (sS x0a x0n x0c))) (pv' := V0) ?_ (Ru 0 (Ru 1 (Ru 2 (Ru 3 (Ru 8 (Ru 9 Rn)))))) he hv (HSub.refl _)
     clear he hv
     unfold F180_j4 at h
     refine AWP.block ?_
     refine AWP.loop (σ := Int) (fun I s hp => F180_l5 x0a x0n x0c x1 x2 x3 x8 I2 K I s hp) (fun s => (upd (upd (upd (upd (upd (upd E0 9 (sI s)) 8 (sI x8)) 3 (sV x3)) 2 (sI x2)) 1 (sI x1)) 0 (sS x0a x0n x0c))) (fun s => V0) x9 h (fun s => (Ru 0 (Ru 1 (Ru 2 (Ru 3 (Ru 8 (Ru 9 Rn))))))) (Sc rfl (Sc rfl (Sc rfl (Sc rfl (Sc rfl (Sc rfl Sn)))))) Sn ?_
     intro I5 s hp h
     obtain ⟨x9, hs⟩ : ∃ x, x = s := ⟨s, rfl⟩
     subst hs
     replace h : F180_l5 x0a x0n x0c x1 x2 x3 x8 I2 K I5 x9 hp := h
     unfold F180_l5 at h
     refine AWP.seq' ?_
     refine AWP.seq (fun env pv hp => ∃ (x9 : Int) (x34 : Bool), Sub (upd (upd (upd (upd (upd (upd (upd E0 34 (sB x34)) 9 (sI x9)) 8 (sI x8)) 3 (sV x3)) 2 (sI x2)) 1 (sI x1)) 0 (sS x0a x0n x0c)) env ∧ Sub V0 pv ∧ (F180_j6 x0a x0n x0c x1 x2 x3 x8 x9 x34 hp I2 I5 K)) ?_ ?_
     ·refine AWP.rgnD (by kernel_rfl) (by kernel_rfl) (F180_r4 (upd (upd E0 8 (sI x8)) 2 (sI x2)) x0a x0n x0c x1 x3 x9 hp _) ?_ (Ru 0 (Ru 1 (Ru 3 (Ru 9 (Ru 2 (Ru 8 Rn)))))) (Sc rfl (Sc rfl (Sc rfl (Sc rfl (Sc rfl (Sc rfl Sn)))))) Sn
      refine mt h (fun h => ?_) (fun h => ?_)
      ·refine ⟨h.1, h.2.1, mN h.2.2 (fun b_15 o_16 h => mV h (fun v_17 h => ms h (fun s_18 h => ⟨h.1, h.2.1, mN h.2.2 fun b_19 o_20 h => mV h fun v_21 h => ms h fun s_22 h => mF h fun f_23 ga_24 gb_25 h => mC h fun u_26 h_27 h => mI h fun i_28 h => ?_⟩)))⟩
       exact ⟨x9, (decide (i_28 < 0)), (Sc rfl (Sc rfl (Sc rfl (Sc rfl (Sc rfl (Sc rfl (Sc rfl Sn))))))), Sn, h⟩
      ·exact ⟨x9, false, (Sc rfl (Sc rfl (Sc rfl (Sc rfl (Sc rfl (Sc rfl (Sc rfl Sn))))))), Sn, h⟩
     ·rintro env pv hp ⟨x9, x34, he, hv, h⟩
      refine AWP.sub (env' := (upd (upd (upd (upd (upd (upd (upd E0 34 (sB x34)) 9 (sI x9)) 8 (sI x8)) 3 (sV x3)) 2 (sI x2)) 1 (sI x1)) 0 (sS x0a x0n x0c))) (pv' := V0) ?_ (Ru 0 (Ru 1 (Ru 2 (Ru 3 (Ru 8 (Ru 9 (Ru 34 Rn))))))) he hv (HSub.refl _)
      clear he hv
      unfold F180_j6 at h
      refine AWP.cond (t := x34) rfl (fun e => ?_) (fun e => ?_)
      ·replace h := ite2_t h e
       refine AWP.skip ?_
       refine AWP.seq' ?_
       refine AWP.block ?_
       refine AWP.rgnD (by kernel_rfl) (by kernel_rfl) (F180_r2 (upd (upd (upd (upd E0 8 (sI x8)) 3 (sV x3)) 2 (sI x2)) 1 (sI x1)) x0a x0n x0c x9 hp _) ?_ (Ru 0 (Ru 9 (Ru 1 (Ru 2 (Ru 3 (Ru 8 Rn)))))) (Sc rfl (Sc rfl (Sc rfl (Sc rfl (Sc rfl (Sc rfl Sn)))))) Sn
       refine ⟨h.1, h.2.1, mN h.2.2 (fun b_1 o_2 h => mV h (fun v_3 h => ms h (fun s_4 h => ⟨h.1, h.2.1, mN h.2.2 (fun b_5 o_6 h => mV h (fun v_7 h => ms h (fun s_8 h => ⟨h.1, h.2.1, mN h.2.2 (fun b_9 o_10 h => mw h (fun h_11 h => ⟨h.1, h.2.1, mN h.2.2 fun b_12 o_13 h => mw h fun h_14 h => ?_⟩))⟩)))⟩)))⟩
       refine AWP.rgn (F180_r3 (upd (upd (upd (upd (upd E0 8 (sI x8)) 3 (sV x3)) 2 (sI x2)) 1 (sI x1)) 0 (sS x0a x0n x0c)) x9 h_14 _) ?_ (Ru 9 (Ru 0 (Ru 1 (Ru 2 (Ru 3 (Ru 8 Rn)))))) (Sc rfl (Sc rfl (Sc rfl (Sc rfl (Sc rfl (Sc rfl Sn)))))) Sn
       exact ⟨(wr (x9 - 1)), (Sc rfl (Sc rfl (Sc rfl (Sc rfl (Sc rfl (Sc rfl Sn)))))), Sn, h⟩
      ·replace h := ite2_f h e
       refine AWP.exit ?_
       exact ⟨x8, (Sc rfl (Sc rfl (Sc rfl (Sc rfl (Sc rfl Sn))))), Sn, h⟩
   ·rintro env pv hp ⟨x8, he, hv, h⟩
    refine AWP.sub (env' := (upd (upd (upd (upd (upd E0 8 (sI x8)) 3 (sV x3)) 2 (sI x2)) 1 (sI x1)) 0 (sS x0a x0n x0c))) (pv' := V0) ?_ (Ru 0 (Ru 1 (Ru 2 (Ru 3 (Ru 8 Rn))))) he hv (HSub.refl _)
    clear he hv
    unfold F180_j3 at h
    refine AWP.rgn (F180_r1 (upd (upd (upd (upd E0 3 (sV x3)) 2 (sI x2)) 1 (sI x1)) 0 (sS x0a x0n x0c)) x8 hp _) ?_ (Ru 8 (Ru 0 (Ru 1 (Ru 2 (Ru 3 Rn))))) (Sc rfl (Sc rfl (Sc rfl (Sc rfl (Sc rfl Sn))))) Sn
    exact ⟨(wr (x8 + 1)), (Sc rfl (Sc rfl (Sc rfl (Sc rfl (Sc rfl Sn))))), Sn, h⟩
  ·replace h := ite2_f h e
   refine AWP.exit ?_
   exact h
end
end Go.Proofs

set_option linter.unusedVariables false
set_option maxRecDepth 20000
namespace Go.Proofs
open Go Go.HL

section
variable {f : FuncId} {ga gb : List Value} {hp0 : HP} {b sp n c : Nat} {T : Type} [Inhabited T] {en : T → ByteArray} {cf : T → T → Int}

end
end Go.Proofs

set_option linter.unusedVariables false
set_option maxRecDepth 20000
namespace Go.Proofs
open Go Go.HL

section
variable {f : FuncId} {ga gb : List Value} {hp0 : HP} {b sp n c : Nat} {T : Type} [Inhabited T] {en : T → ByteArray} {cf : T → T → Int}

end
end Go.Proofs

set_option linter.unusedVariables false
set_option maxRecDepth 20000
namespace Go.Proofs
open Go Go.HL

section
variable {f : FuncId} {ga gb : List Value} {hp0 : HP} {b sp n c : Nat} {T : Type} [Inhabited T] {en : T → ByteArray} {cf : T → T → Int}

end
end Go.Proofs

set_option linter.unusedVariables false
set_option maxRecDepth 20000
namespace Go.Proofs
open Go Go.HL

section
variable {f : FuncId} {ga gb : List Value} {hp0 : HP} {b sp n c : Nat} {T : Type} [Inhabited T] {en : T → ByteArray} {cf : T → T → Int}

end
end Go.Proofs

set_option linter.unusedVariables false
set_option maxRecDepth 20000
namespace Go.Proofs
open Go Go.HL

section
variable {f : FuncId} {ga gb : List Value} {hp0 : HP} {b sp n c : Nat} {T : Type} [Inhabited T] {en : T → ByteArray} {cf : T → T → Int}

end
end Go.Proofs

set_option linter.unusedVariables false
set_option maxRecDepth 20000
namespace Go.Proofs
open Go Go.HL
-- 166 slices.pdqsortCmpFunc[string]
section
variable (e : Env) (x0a : Option Addr) (x0n x0c : Nat) (x1 x2 x3 : Int) (x4 : Value) (x10 x11 : Bool) (x12 x13 x14 x15 x16 : Int) (x17 : Bool) (x18 x19 x20 : Int) (hp : HP) (K : Env → PV → HP → Prop)
abbrev R166 (p : List Nat) (n : Nat) := RW Try.prog 148 [] (opsAt Try.f166 p) (List.range n)
theorem F166_r0 : R166 [0] 1 e V0 hp K =
    (K (upd e 10 (sB true)) V0 hp) := by kernel_rfl
theorem F166_r1 : R166 [1, 1, 0, 0, 0, 0] 4 (upd (upd e 2 (sI x2)) 1 (sI x1)) V0 hp K =
    (K (upd (upd (upd (upd (upd (upd e 2 (sI x2)) 1 (sI x1)) 21 (sI x2)) 22 (sI x1)) 23 (sI ((wr (x2 - x1))))) 12 (sI ((wr (x2 - x1))))) V0 hp) := by kernel_rfl
theorem F166_r2 : R166 [1, 1, 0, 0, 0, 1, 0, 0] 2 (upd e 12 (sI x12)) V0 hp K =
    (K (upd (upd (upd e 12 (sI x12)) 24 (sI x12)) 25 (sB (decide (x12 ≤ 12)))) V0 hp) := by kernel_rfl
theorem F166_r3 : R166 [1, 1, 0, 0, 0, 1, 0, 1, 0, 0] 5 (upd (upd (upd (upd e 4 (sV x4)) 2 (sI x2)) 1 (sI x1)) 0 (sS x0a x0n x0c)) V0 hp K =
    (CF Try.prog 180 [(.slice x0a x0n x0c), (.int .i64 x1), (.int .i64 x2), x4] hp fun u1 h2 => (K (upd (upd (upd (upd (upd (upd (upd (upd (upd e 4 (sV x4)) 2 (sI x2)) 1 (sI x1)) 0 (sS x0a x0n x0c)) 26 (sS x0a x0n x0c)) 27 (sI x1)) 28 (sI x2)) 29 (sV x4)) 30 (sV u1)) V0 h2)) := by kernel_rfl
theorem F166_r4 : R166 [1, 1, 0, 0, 0, 1, 1, 0, 0] 2 (upd e 3 (sI x3)) V0 hp K =
    (K (upd (upd (upd e 3 (sI x3)) 31 (sI x3)) 32 (sB ((x3 == 0)))) V0 hp) := by kernel_rfl
theorem F166_r5 : R166 [1, 1, 0, 0, 0, 1, 1, 0, 1, 0, 0] 5 (upd (upd (upd (upd e 4 (sV x4)) 2 (sI x2)) 1 (sI x1)) 0 (sS x0a x0n x0c)) V0 hp K =
    (CF Try.prog 181 [(.slice x0a x0n x0c), (.int .i64 x1), (.int .i64 x2), x4] hp fun u1 h2 => (K (upd (upd (upd (upd (upd (upd (upd (upd (upd e 4 (sV x4)) 2 (sI x2)) 1 (sI x1)) 0 (sS x0a x0n x0c)) 33 (sS x0a x0n x0c)) 34 (sI x1)) 35 (sI x2)) 36 (sV x4)) 37 (sV u1)) V0 h2)) := by kernel_rfl
theorem F166_r6 : R166 [1, 1, 0, 0, 0, 1, 1, 1, 1, 0] 10 (upd (upd (upd (upd e 4 (sV x4)) 2 (sI x2)) 1 (sI x1)) 0 (sS x0a x0n x0c)) V0 hp K =
    (CF Try.prog 183 [(.slice x0a x0n x0c), (.int .i64 x1), (.int .i64 x2), x4] hp fun u1 h2 => (tup2V u1 fun u3 u4 => (intV u3 .i64 fun i5 => (intV u4 .i64 fun i6 => (K (upd (upd (upd (upd (upd (upd (upd (upd (upd (upd (upd (upd (upd (upd e 4 (sV x4)) 2 (sI x2)) 1 (sI x1)) 0 (sS x0a x0n x0c)) 48 (sS x0a x0n x0c)) 49 (sI x1)) 50 (sI x2)) 51 (sV x4)) 52 (sV (.tuple ⟨[(.int .i64 i5), (.int .i64 i6)]⟩))) 47 (sV (.tuple ⟨[(.int .i64 i5), (.int .i64 i6)]⟩))) 53 (sI i5)) 54 (sI i6)) 13 (sI i5)) 14 (sI i6)) V0 h2))))) := by kernel_rfl
theorem F166_r7 : R166 [1, 1, 0, 0, 0, 1, 1, 1, 1, 1, 1, 1, 0, 1, 0, 0] 7 (upd (upd (upd (upd (upd e 13 (sI x13)) 4 (sV x4)) 2 (sI x2)) 1 (sI x1)) 0 (sS x0a x0n x0c)) V0 hp K =
    (CF Try.prog 186 [(.slice x0a x0n x0c), (.int .i64 x1), (.int .i64 x2), (.int .i64 x13), x4] hp fun u1 h2 => (intV u1 .i64 fun i3 => (K (upd (upd (upd (upd (upd (upd (upd (upd (upd (upd (upd (upd e 13 (sI x13)) 4 (sV x4)) 2 (sI x2)) 1 (sI x1)) 0 (sS x0a x0n x0c)) 98 (sS x0a x0n x0c)) 99 (sI x1)) 100 (sI x2)) 101 (sI x13)) 102 (sV x4)) 103 (sI i3)) 15 (sI i3)) V0 h2))) := by kernel_rfl
theorem F166_r8 : R166 [1, 1, 0, 0, 0, 1, 1, 1, 1, 1, 1, 1, 0, 1, 0, 1, 0] 2 (upd e 15 (sI x15)) V0 hp K =
    (K (upd (upd (upd e 15 (sI x15)) 104 (sI x15)) 1 (sI x15)) V0 hp) := by kernel_rfl
theorem F166_r9 : R166 [1, 1, 0, 0, 0, 1, 1, 1, 1, 1, 1, 1, 1, 0] 11 (upd (upd (upd (upd (upd e 13 (sI x13)) 4 (sV x4)) 2 (sI x2)) 1 (sI x1)) 0 (sS x0a x0n x0c)) V0 hp K =
    (CF Try.prog 187 [(.slice x0a x0n x0c), (.int .i64 x1), (.int .i64 x2), (.int .i64 x13), x4] hp fun u1 h2 => (tup2V u1 fun u3 u4 => (intV u3 .i64 fun i5 => (boolV u4 fun q6 => (K (upd (upd (upd (upd (upd (upd (upd (upd (upd (upd (upd (upd (upd (upd (upd (upd e 13 (sI x13)) 4 (sV x4)) 2 (sI x2)) 1 (sI x1)) 0 (sS x0a x0n x0c)) 106 (sS x0a x0n x0c)) 107 (sI x1)) 108 (sI x2)) 109 (sI x13)) 110 (sV x4)) 111 (sV (.tuple ⟨[(.int .i64 i5), (.bool q6)]⟩))) 105 (sV (.tuple ⟨[(.int .i64 i5), (.bool q6)]⟩))) 112 (sI i5)) 113 (sB q6)) 16 (sI i5)) 17 (sB q6)) V0 h2))))) := by kernel_rfl
theorem F166_r10 : R166 [1, 1, 0, 0, 0, 1, 1, 1, 1, 1, 1, 1, 1, 1, 0] 2 (upd e 17 (sB x17)) V0 hp K =
    (K (upd (upd (upd e 17 (sB x17)) 114 (sB x17)) 11 (sB x17)) V0 hp) := by kernel_rfl
theorem F166_r11 : R166 [1, 1, 0, 0, 0, 1, 1, 1, 1, 1, 1, 1, 1, 1, 1, 0] 8 (upd (upd (upd e 16 (sI x16)) 2 (sI x2)) 1 (sI x1)) V0 hp K =
    (K (upd (upd (upd (upd (upd (upd (upd (upd (upd (upd (upd e 16 (sI x16)) 2 (sI x2)) 1 (sI x1)) 115 (sI x16)) 116 (sI x1)) 117 (sI ((wr (x16 - x1))))) 118 (sI x2)) 119 (sI x16)) 120 (sI ((wr (x2 - x16))))) 18 (sI ((wr (x16 - x1))))) 19 (sI ((wr (x2 - x16))))) V0 hp) := by kernel_rfl
theorem F166_r12 : R166 [1, 1, 0, 0, 0, 1, 1, 1, 1, 1, 1, 1, 1, 1, 1, 1, 0] 3 (upd e 12 (sI x12)) V0 hp K =
    (((8 : Int) ≠ 0) ∧ (K (upd (upd (upd (upd e 12 (sI x12)) 121 (sI x12)) 122 (sI ((wr (Int.tdiv x12 8))))) 20 (sI ((wr (Int.tdiv x12 8))))) V0 hp)) := by kernel_rfl
theorem F166_r13 : R166 [1, 1, 0, 0, 0, 1, 1, 1, 1, 1, 1, 1, 1, 1, 1, 1, 1, 0] 3 (upd (upd e 19 (sI x19)) 18 (sI x18)) V0 hp K =
    (K (upd (upd (upd (upd (upd e 19 (sI x19)) 18 (sI x18)) 123 (sI x18)) 124 (sI x19)) 125 (sB (decide (x18 < x19)))) V0 hp) := by kernel_rfl
theorem F166_r14 : R166 [1, 1, 0, 0, 0, 1, 1, 1, 1, 1, 1, 1, 1, 1, 1, 1, 1, 1, 0, 0] 4 (upd (upd e 20 (sI x20)) 18 (sI x18)) V0 hp K =
    (K (upd (upd (upd (upd (upd (upd e 20 (sI x20)) 18 (sI x18)) 126 (sI x18)) 127 (sI x20)) 128 (sB (decide (x18 ≥ x20)))) 10 (sB (decide (x18 ≥ x20)))) V0 hp) := by kernel_rfl
theorem F166_r15 : R166 [1, 1, 0, 0, 0, 1, 1, 1, 1, 1, 1, 1, 1, 1, 1, 1, 1, 1, 0, 1, 0] 6 (upd (upd (upd (upd (upd e 16 (sI x16)) 4 (sV x4)) 3 (sI x3)) 1 (sI x1)) 0 (sS x0a x0n x0c)) V0 hp K =
    (CF Try.prog 166 [(.slice x0a x0n x0c), (.int .i64 x1), (.int .i64 x16), (.int .i64 x3), x4] hp fun u1 h2 => (K (upd (upd (upd (upd (upd (upd (upd (upd (upd (upd (upd e 16 (sI x16)) 4 (sV x4)) 3 (sI x3)) 1 (sI x1)) 0 (sS x0a x0n x0c)) 129 (sS x0a x0n x0c)) 130 (sI x1)) 131 (sI x16)) 132 (sI x3)) 133 (sV x4)) 134 (sV u1)) V0 h2)) := by kernel_rfl
theorem F166_r16 : R166 [1, 1, 0, 0, 0, 1, 1, 1, 1, 1, 1, 1, 1, 1, 1, 1, 1, 1, 0, 1, 1] 3 (upd e 16 (sI x16)) V0 hp K =
    (K (upd (upd (upd (upd e 16 (sI x16)) 135 (sI x16)) 136 (sI ((wr (x16 + 1))))) 1 (sI ((wr (x16 + 1))))) V0 hp) := by kernel_rfl
theorem F166_r17 : R166 [1, 1, 0, 0, 0, 1, 1, 1, 1, 1, 1, 1, 1, 1, 1, 1, 1, 1, 1, 0] 4 (upd (upd e 20 (sI x20)) 19 (sI x19)) V0 hp K =
    (K (upd (upd (upd (upd (upd (upd e 20 (sI x20)) 19 (sI x19)) 137 (sI x19)) 138 (sI x20)) 139 (sB (decide (x19 ≥ x20)))) 10 (sB (decide (x19 ≥ x20)))) V0 hp) := by kernel_rfl
theorem F166_r18 : R166 [1, 1, 0, 0, 0, 1, 1, 1, 1, 1, 1, 1, 1, 1, 1, 1, 1, 1, 1, 1, 0] 7 (upd (upd (upd (upd (upd e 16 (sI x16)) 4 (sV x4)) 3 (sI x3)) 2 (sI x2)) 0 (sS x0a x0n x0c)) V0 hp K =
    (CF Try.prog 166 [(.slice x0a x0n x0c), (.int .i64 (wr (x16 + 1))), (.int .i64 x2), (.int .i64 x3), x4] hp fun u1 h2 => (K (upd (upd (upd (upd (upd (upd (upd (upd (upd (upd (upd (upd e 16 (sI x16)) 4 (sV x4)) 3 (sI x3)) 2 (sI x2)) 0 (sS x0a x0n x0c)) 140 (sS x0a x0n x0c)) 141 (sI x16)) 142 (sI ((wr (x16 + 1))))) 143 (sI x2)) 144 (sI x3)) 145 (sV x4)) 146 (sV u1)) V0 h2)) := by kernel_rfl
theorem F166_r19 : R166 [1, 1, 0, 0, 0, 1, 1, 1, 1, 1, 1, 1, 1, 1, 1, 1, 1, 1, 1, 1, 1] 2 (upd e 16 (sI x16)) V0 hp K =
    (K (upd (upd (upd e 16 (sI x16)) 147 (sI x16)) 2 (sI x16)) V0 hp) := by kernel_rfl
def F166_j6 (x0a : Option Addr) (x0n : Nat) (x0c : Nat) (x1 : Int) (x2 : Int) (x3 : Int) (x4 : Value) (x10 : Bool) (x11 : Bool) (x12 : Int) (x13 : Int) (x97 : Bool) (hp : HP) (I2 : (Int × Int × Int × Bool × Bool) → HP → Prop) (K : Value → HP → Prop) : Prop :=
  (ite2 x97 (CF Try.prog 186 [(.slice x0a x0n x0c), (.int .i64 x1), (.int .i64 x2), (.int .i64 x13), x4] hp fun u_11 h_12 => (intV u_11 .i64 fun i_13 => (I2 (i_13, x2, x3, x10, x11) h_12))) (CF Try.prog 187 [(.slice x0a x0n x0c), (.int .i64 x1), (.int .i64 x2), (.int .i64 x13), x4] hp fun u_14 h_15 => (tup2V u_14 fun u_16 u_17 => (intV u_16 .i64 fun i_18 => (boolV u_17 fun q_19 => (((8 : Int) ≠ 0) ∧ (ite2 (decide (((IntKind.wrap .i64 (i_18 - x1)) : Int) < (IntKind.wrap .i64 (x2 - i_18)))) (CF Try.prog 166 [(.slice x0a x0n x0c), (.int .i64 x1), (.int .i64 i_18), (.int .i64 x3), x4] h_15 fun u_20 h_21 => (I2 ((IntKind.wrap .i64 (i_18 + 1)), x2, x3, (decide (((IntKind.wrap .i64 (i_18 - x1)) : Int) ≥ (IntKind.wrap .i64 (Int.tdiv x12 8)))), q_19) h_21)) (CF Try.prog 166 [(.slice x0a x0n x0c), (.int .i64 (IntKind.wrap .i64 (i_18 + 1))), (.int .i64 x2), (.int .i64 x3), x4] h_15 fun u_22 h_23 => (I2 (x1, i_18, x3, (decide (((IntKind.wrap .i64 (x2 - i_18)) : Int) ≥ (IntKind.wrap .i64 (Int.tdiv x12 8)))), q_19) h_23)))))))))
theorem F166_r20 : R166 [1, 1, 0, 0, 0, 1, 1, 1, 1, 1, 1, 1, 0, 0] 17 (upd (upd (upd (upd e 13 (sI x13)) 4 (sV x4)) 1 (sI x1)) 0 (sS x0a x0n x0c)) V0 hp K =
    (ite2 (decide (x1 > 0)) ((0 ≤ ((wr (x1 - 1)) : Int)) ∧ (((wr (x1 - 1)) : Int) < x0n) ∧ (ptrN x0a fun b1 o2 => (ldV (HP.cell hp b1 (o2 + Int.toNat (wr (x1 - 1)) * 1)) fun v3 => (strV v3 fun s4 => ((0 ≤ x13) ∧ (x13 < x0n) ∧ (ptrN x0a fun b5 o6 => (ldV (HP.cell hp b5 (o6 + Int.toNat x13 * 1)) fun v7 => (strV v7 fun s8 => (fnV x4 fun f9 ga10 gb11 => (CF Try.prog f9 (ga10 ++ [(Value.string s4), (.string s8)] ++ gb11) hp fun u12 h13 => (intV u12 .i64 fun i14 => (K (upd (upd (upd (upd (upd (upd (upd (upd (upd (upd (upd (upd (upd (upd (upd (upd (upd (upd (upd (upd (upd e 13 (sI x13)) 4 (sV x4)) 1 (sI x1)) 0 (sS x0a x0n x0c)) 81 (sI x1)) 82 (sB (decide (x1 > 0)))) 83 (sB true)) 84 (sV x4)) 85 (sS x0a x0n x0c)) 86 (sI x1)) 87 (sI ((wr (x1 - 1))))) 88 (sV (ptr b1 (o2 + Int.toNat (wr (x1 - 1)) * 1)))) 89 (sV (.string s4))) 90 (sS x0a x0n x0c)) 91 (sI x13)) 92 (sQ b5 (o6 + Int.toNat x13 * 1))) 93 (sV (.string s8))) 94 (sI i14)) 95 (sB (decide (i14 < 0)))) 96 (sB ((!(decide (i14 < 0)))))) 97 (sB ((!(decide (i14 < 0)))))) V0 h13)))))))))))) (K (upd (upd (upd (upd (upd (upd (upd (upd (upd (upd (upd (upd (upd (upd (upd (upd (upd (upd (upd (upd (upd e 13 (sI x13)) 4 (sV x4)) 1 (sI x1)) 0 (sS x0a x0n x0c)) 81 (sI x1)) 82 (sB (decide (x1 > 0)))) 83 (sB false)) 84 sU) 85 sU) 86 sU) 87 sU) 88 sU) 89 sU) 90 sU) 91 sU) 92 sU) 93 sU) 94 sU) 95 sU) 96 sU) 97 (sB false)) V0 hp)) := by kernel_rfl
def F166_j5 (x0a : Option Addr) (x0n : Nat) (x0c : Nat) (x1 : Int) (x2 : Int) (x3 : Int) (x4 : Value) (x10 : Bool) (x11 : Bool) (x12 : Int) (x13 : Int) (hp : HP) (I2 : (Int × Int × Int × Bool × Bool) → HP → Prop) (K : Value → HP → Prop) : Prop :=
  (ite2 (decide (x1 > 0)) ((0 ≤ ((IntKind.wrap .i64 (x1 - 1)) : Int)) ∧ (((IntKind.wrap .i64 (x1 - 1)) : Int) < x0n) ∧ (ptrN x0a fun b_24 o_25 => (ldV (HP.cell hp b_24 (o_25 + Int.toNat (IntKind.wrap .i64 (x1 - 1)) * 1)) fun v_26 => (strV v_26 fun s_27 => ((0 ≤ x13) ∧ (x13 < x0n) ∧ (ptrN x0a fun b_28 o_29 => (ldV (HP.cell hp b_28 (o_29 + Int.toNat x13 * 1)) fun v_30 => (strV v_30 fun s_31 => (fnV x4 fun f_32 ga_33 gb_34 => (CF Try.prog f_32 (ga_33 ++ [(Value.string s_27), (.string s_31)] ++ gb_34) hp fun u_35 h_36 => (intV u_35 .i64 fun i_37 => (F166_j6 x0a x0n x0c x1 x2 x3 x4 x10 x11 x12 x13 (!(decide (i_37 < 0))) h_36 I2 K)))))))))))) (F166_j6 x0a x0n x0c x1 x2 x3 x4 x10 x11 x12 x13 false hp I2 K))
theorem F166_r21 : R166 [1, 1, 0, 0, 0, 1, 1, 1, 1, 1, 1, 0, 1, 0, 0] 5 (upd (upd (upd (upd e 4 (sV x4)) 2 (sI x2)) 1 (sI x1)) 0 (sS x0a x0n x0c)) V0 hp K =
    (CF Try.prog 185 [(.slice x0a x0n x0c), (.int .i64 x1), (.int .i64 x2), x4] hp fun u1 h2 => (boolV u1 fun q3 => (K (upd (upd (upd (upd (upd (upd (upd (upd (upd e 4 (sV x4)) 2 (sI x2)) 1 (sI x1)) 0 (sS x0a x0n x0c)) 76 (sS x0a x0n x0c)) 77 (sI x1)) 78 (sI x2)) 79 (sV x4)) 80 (sB q3)) V0 h2))) := by kernel_rfl
def F166_j7 (x0a : Option Addr) (x0n : Nat) (x0c : Nat) (x1 : Int) (x2 : Int) (x3 : Int) (x4 : Value) (x10 : Bool) (x11 : Bool) (x12 : Int) (x13 : Int) (x75 : Bool) (hp : HP) (I2 : (Int × Int × Int × Bool × Bool) → HP → Prop) (K : Value → HP → Prop) : Prop :=
  (ite2 x75 (CF Try.prog 185 [(.slice x0a x0n x0c), (.int .i64 x1), (.int .i64 x2), x4] hp fun u_38 h_39 => (boolV u_38 fun q_40 => (ite2 q_40 (K (.tuple ⟨[]⟩) h_39) (F166_j5 x0a x0n x0c x1 x2 x3 x4 x10 x11 x12 x13 h_39 I2 K)))) (F166_j5 x0a x0n x0c x1 x2 x3 x4 x10 x11 x12 x13 hp I2 K))
theorem F166_r22 : R166 [1, 1, 0, 0, 0, 1, 1, 1, 1, 1, 1, 0, 0] 8 (upd (upd (upd e 14 (sI x14)) 11 (sB x11)) 10 (sB x10)) V0 hp K =
    (ite2 x10 (ite2 x11 (K (upd (upd (upd (upd (upd (upd (upd (upd (upd (upd (upd e 14 (sI x14)) 11 (sB x11)) 10 (sB x10)) 68 (sB x10)) 69 (sB true)) 70 (sB x11)) 71 (sB x11)) 72 (sB true)) 73 (sI x14)) 74 (sB ((x14 == 1)))) 75 (sB ((x14 == 1)))) V0 hp) (K (upd (upd (upd (upd (upd (upd (upd (upd (upd (upd (upd e 14 (sI x14)) 11 (sB x11)) 10 (sB x10)) 68 (sB x10)) 69 (sB true)) 70 (sB x11)) 71 (sB x11)) 72 (sB false)) 73 sU) 74 sU) 75 (sB false)) V0 hp)) (K (upd (upd (upd (upd (upd (upd (upd (upd (upd (upd (upd e 14 (sI x14)) 11 (sB x11)) 10 (sB x10)) 68 (sB x10)) 69 (sB false)) 70 sU) 71 (sB false)) 72 (sB false)) 73 sU) 74 sU) 75 (sB false)) V0 hp)) := by kernel_rfl
def F166_j4 (x0a : Option Addr) (x0n : Nat) (x0c : Nat) (x1 : Int) (x2 : Int) (x3 : Int) (x4 : Value) (x10 : Bool) (x11 : Bool) (x12 : Int) (x13 : Int) (x14 : Int) (hp : HP) (I2 : (Int × Int × Int × Bool × Bool) → HP → Prop) (K : Value → HP → Prop) : Prop :=
  (ite2 x10 (ite2 x11 (F166_j7 x0a x0n x0c x1 x2 x3 x4 x10 x11 x12 x13 (x14 == 1) hp I2 K) (F166_j7 x0a x0n x0c x1 x2 x3 x4 x10 x11 x12 x13 false hp I2 K)) (F166_j7 x0a x0n x0c x1 x2 x3 x4 x10 x11 x12 x13 false hp I2 K))
theorem F166_r23 : R166 [1, 1, 0, 0, 0, 1, 1, 1, 1, 1, 0, 0] 2 (upd e 14 (sI x14)) V0 hp K =
    (K (upd (upd (upd e 14 (sI x14)) 55 (sI x14)) 56 (sB ((x14 == 2)))) V0 hp) := by kernel_rfl
theorem F166_r24 : R166 [1, 1, 0, 0, 0, 1, 1, 1, 1, 1, 0, 1, 0, 0] 5 (upd (upd (upd (upd e 4 (sV x4)) 2 (sI x2)) 1 (sI x1)) 0 (sS x0a x0n x0c)) V0 hp K =
    (CF Try.prog 184 [(.slice x0a x0n x0c), (.int .i64 x1), (.int .i64 x2), x4] hp fun u1 h2 => (K (upd (upd (upd (upd (upd (upd (upd (upd (upd e 4 (sV x4)) 2 (sI x2)) 1 (sI x1)) 0 (sS x0a x0n x0c)) 57 (sS x0a x0n x0c)) 58 (sI x1)) 59 (sI x2)) 60 (sV x4)) 61 (sV u1)) V0 h2)) := by kernel_rfl
theorem F166_r25 : R166 [1, 1, 0, 0, 0, 1, 1, 1, 1, 1, 0, 1, 0, 1, 0] 7 (upd (upd (upd e 13 (sI x13)) 2 (sI x2)) 1 (sI x1)) V0 hp K =
    (K (upd (upd (upd (upd (upd (upd (upd (upd (upd (upd e 13 (sI x13)) 2 (sI x2)) 1 (sI x1)) 62 (sI x2)) 63 (sI ((wr (x2 - 1))))) 64 (sI x13)) 65 (sI x1)) 66 (sI ((wr (x13 - x1))))) 67 (sI ((wr ((wr (x2 - 1)) - (wr (x13 - x1))))))) 13 (sI ((wr ((wr (x2 - 1)) - (wr (x13 - x1))))))) V0 hp) := by kernel_rfl
theorem F166_r26 : R166 [1, 1, 0, 0, 0, 1, 1, 1, 1, 1, 0, 1, 0, 1, 1] 1 e V0 hp K =
    (K (upd e 14 (sI 1)) V0 hp) := by kernel_rfl
def F166_j3 (x0a : Option Addr) (x0n : Nat) (x0c : Nat) (x1 : Int) (x2 : Int) (x3 : Int) (x4 : Value) (x10 : Bool) (x11 : Bool) (x12 : Int) (hp : HP) (I2 : (Int × Int × Int × Bool × Bool) → HP → Prop) (K : Value → HP → Prop) : Prop :=
  (CF Try.prog 183 [(.slice x0a x0n x0c), (.int .i64 x1), (.int .i64 x2), x4] hp fun u_5 h_6 => (tup2V u_5 fun u_7 u_8 => (intV u_7 .i64 fun i_9 => (intV u_8 .i64 fun i_10 => (ite2 (i_10 == 2) (CF Try.prog 184 [(.slice x0a x0n x0c), (.int .i64 x1), (.int .i64 x2), x4] h_6 fun u_41 h_42 => (F166_j4 x0a x0n x0c x1 x2 x3 x4 x10 x11 x12 (IntKind.wrap .i64 ((IntKind.wrap .i64 (x2 - 1)) - (IntKind.wrap .i64 (i_9 - x1)))) 1 h_42 I2 K)) (F166_j4 x0a x0n x0c x1 x2 x3 x4 x10 x11 x12 i_9 i_10 h_6 I2 K))))))
theorem F166_r27 : R166 [1, 1, 0, 0, 0, 1, 1, 1, 0, 0] 2 (upd e 10 (sB x10)) V0 hp K =
    (K (upd (upd (upd e 10 (sB x10)) 38 (sB x10)) 39 (sB ((!x10)))) V0 hp) := by kernel_rfl
theorem F166_r28 : R166 [1, 1, 0, 0, 0, 1, 1, 1, 0, 1, 0, 0] 5 (upd (upd (upd (upd e 4 (sV x4)) 2 (sI x2)) 1 (sI x1)) 0 (sS x0a x0n x0c)) V0 hp K =
    (CF Try.prog 182 [(.slice x0a x0n x0c), (.int .i64 x1), (.int .i64 x2), x4] hp fun u1 h2 => (K (upd (upd (upd (upd (upd (upd (upd (upd (upd e 4 (sV x4)) 2 (sI x2)) 1 (sI x1)) 0 (sS x0a x0n x0c)) 40 (sS x0a x0n x0c)) 41 (sI x1)) 42 (sI x2)) 43 (sV x4)) 44 (sV u1)) V0 h2)) := by kernel_rfl
theorem F166_r29 : R166 [1, 1, 0, 0, 0, 1, 1, 1, 0, 1, 0, 1] 3 (upd e 3 (sI x3)) V0 hp K =
    (K (upd (upd (upd (upd e 3 (sI x3)) 45 (sI x3)) 46 (sI ((wr (x3 - 1))))) 3 (sI ((wr (x3 - 1))))) V0 hp) := by kernel_rfl
def F166_l2 (x0a : Option Addr) (x0n : Nat) (x0c : Nat) (x4 : Value) (K : Value → HP → Prop) (I2 : (Int × Int × Int × Bool × Bool) → HP → Prop) (x1 : Int) (x2 : Int) (x3 : Int) (x10 : Bool) (x11 : Bool) (hp : HP) : Prop :=
  (ite2 (decide (((IntKind.wrap .i64 (x2 - x1)) : Int) ≤ 12)) (CF Try.prog 180 [(.slice x0a x0n x0c), (.int .i64 x1), (.int .i64 x2), x4] hp fun u_1 h_2 => (K (.tuple ⟨[]⟩) h_2)) (ite2 (x3 == 0) (CF Try.prog 181 [(.slice x0a x0n x0c), (.int .i64 x1), (.int .i64 x2), x4] hp fun u_3 h_4 => (K (.tuple ⟨[]⟩) h_4)) (ite2 (!x10) (CF Try.prog 182 [(.slice x0a x0n x0c), (.int .i64 x1), (.int .i64 x2), x4] hp fun u_43 h_44 => (F166_j3 x0a x0n x0c x1 x2 (IntKind.wrap .i64 (x3 - 1)) x4 x10 x11 (IntKind.wrap .i64 (x2 - x1)) h_44 I2 K)) (F166_j3 x0a x0n x0c x1 x2 x3 x4 x10 x11 (IntKind.wrap .i64 (x2 - x1)) hp I2 K))))
def F166_j1 (x0a : Option Addr) (x0n : Nat) (x0c : Nat) (x1 : Int) (x2 : Int) (x3 : Int) (x4 : Value) (x10 : Bool) (x11 : Bool) (hp : HP) (K : Value → HP → Prop) : Prop :=
  (LoopP (σ := Int × Int × Int × Bool × Bool) (fun I s hp => F166_l2 x0a x0n x0c x4  K I s.1 s.2.1 s.2.2.1 s.2.2.2.1 s.2.2.2.2 hp) (x1, x2, x3, x10, x11) hp)
theorem F166_r30 : R166 [1, 0] 1 e V0 hp K =
    (K (upd e 11 (sB true)) V0 hp) := by kernel_rfl
def F166 (x0a : Option Addr) (x0n : Nat) (x0c : Nat) (x1 : Int) (x2 : Int) (x3 : Int) (x4 : Value) (hp : HP) (K : Value → HP → Prop) : Prop :=
  (F166_j1 x0a x0n x0c x1 x2 x3 x4 true true hp  K)
noncomputable def F166_code : Code := (.seq (.region 0 (opsAt Try.f166 [0]) false) (.seq (.region 1 (opsAt Try.f166 [1, 0]) false) (.block 0 (.loop (.block 1 (.seq (.region 2 (opsAt Try.f166 [1, 1, 0, 0, 0, 0]) false) (.seq (.seq (.region 3 (opsAt Try.f166 [1, 1, 0, 0, 0, 1, 0, 0]) false) (.cond (.tmp 25) (.seq (.region 4 (opsAt Try.f166 [1, 1, 0, 0, 0, 1, 0, 1, 0, 0]) false) .ret) .skip)) (.seq (.seq (.region 5 (opsAt Try.f166 [1, 1, 0, 0, 0, 1, 1, 0, 0]) false) (.cond (.tmp 32) (.seq (.region 6 (opsAt Try.f166 [1, 1, 0, 0, 0, 1, 1, 0, 1, 0, 0]) false) .ret) .skip)) (.seq (.seq (.region 7 (opsAt Try.f166 [1, 1, 0, 0, 0, 1, 1, 1, 0, 0]) false) (.cond (.tmp 39) (.seq (.region 8 (opsAt Try.f166 [1, 1, 0, 0, 0, 1, 1, 1, 0, 1, 0, 0]) false) (.region 9 (opsAt Try.f166 [1, 1, 0, 0, 0, 1, 1, 1, 0, 1, 0, 1]) false)) .skip)) (.seq (.region 10 (opsAt Try.f166 [1, 1, 0, 0, 0, 1, 1, 1, 1, 0]) false) (.seq (.seq (.region 11 (opsAt Try.f166 [1, 1, 0, 0, 0, 1, 1, 1, 1, 1, 0, 0]) false) (.cond (.tmp 56) (.seq (.region 12 (opsAt Try.f166 [1, 1, 0, 0, 0, 1, 1, 1, 1, 1, 0, 1, 0, 0]) false) (.seq (.region 13 (opsAt Try.f166 [1, 1, 0, 0, 0, 1, 1, 1, 1, 1, 0, 1, 0, 1, 0]) false) (.region 14 (opsAt Try.f166 [1, 1, 0, 0, 0, 1, 1, 1, 1, 1, 0, 1, 0, 1, 1]) false))) .skip)) (.seq (.seq (.region 15 (opsAt Try.f166 [1, 1, 0, 0, 0, 1, 1, 1, 1, 1, 1, 0, 0]) false) (.cond (.tmp 75) (.seq (.region 16 (opsAt Try.f166 [1, 1, 0, 0, 0, 1, 1, 1, 1, 1, 1, 0, 1, 0, 0]) false) (.cond (.tmp 80) .ret .skip)) .skip)) (.seq (.seq (.region 17 (opsAt Try.f166 [1, 1, 0, 0, 0, 1, 1, 1, 1, 1, 1, 1, 0, 0]) true) (.cond (.tmp 97) (.seq (.region 18 (opsAt Try.f166 [1, 1, 0, 0, 0, 1, 1, 1, 1, 1, 1, 1, 0, 1, 0, 0]) false) (.seq (.region 19 (opsAt Try.f166 [1, 1, 0, 0, 0, 1, 1, 1, 1, 1, 1, 1, 0, 1, 0, 1, 0]) false) (.exit 1))) .skip)) (.seq (.region 20 (opsAt Try.f166 [1, 1, 0, 0, 0, 1, 1, 1, 1, 1, 1, 1, 1, 0]) false) (.seq (.region 21 (opsAt Try.f166 [1, 1, 0, 0, 0, 1, 1, 1, 1, 1, 1, 1, 1, 1, 0]) false) (.seq (.region 22 (opsAt Try.f166 [1, 1, 0, 0, 0, 1, 1, 1, 1, 1, 1, 1, 1, 1, 1, 0]) false) (.seq (.region 23 (opsAt Try.f166 [1, 1, 0, 0, 0, 1, 1, 1, 1, 1, 1, 1, 1, 1, 1, 1, 0]) false) (.seq (.region 24 (opsAt Try.f166 [1, 1, 0, 0, 0, 1, 1, 1, 1, 1, 1, 1, 1, 1, 1, 1, 1, 0]) false) (.cond (.tmp 125) (.seq (.region 25 (opsAt Try.f166 [1, 1, 0, 0, 0, 1, 1, 1, 1, 1, 1, 1, 1, 1, 1, 1, 1, 1, 0, 0]) false) (.seq (.region 26 (opsAt Try.f166 [1, 1, 0, 0, 0, 1, 1, 1, 1, 1, 1, 1, 1, 1, 1, 1, 1, 1, 0, 1, 0]) false) (.region 27 (opsAt Try.f166 [1, 1, 0, 0, 0, 1, 1, 1, 1, 1, 1, 1, 1, 1, 1, 1, 1, 1, 0, 1, 1]) false))) (.seq (.region 28 (opsAt Try.f166 [1, 1, 0, 0, 0, 1, 1, 1, 1, 1, 1, 1, 1, 1, 1, 1, 1, 1, 1, 0]) false) (.seq (.region 29 (opsAt Try.f166 [1, 1, 0, 0, 0, 1, 1, 1, 1, 1, 1, 1, 1, 1, 1, 1, 1, 1, 1, 1, 0]) false) (.region 30 (opsAt Try.f166 [1, 1, 0, 0, 0, 1, 1, 1, 1, 1, 1, 1, 1, 1, 1, 1, 1, 1, 1, 1, 1]) false))))))))))))))))))))))
theorem F166_body : Try.f166.body = some F166_code := by kernel_rfl
theorem F166_ok (x0a : Option Addr) (x0n : Nat) (x0c : Nat) (x1 : Int) (x2 : Int) (x3 : Int) (x4 : Value) (hp : HP) (K : Value → HP → Prop) (h : F166 x0a x0n x0c x1 x2 x3 x4 hp K) : CF Try.prog 166 [(.slice x0a x0n x0c), (.int .i64 x1), (.int .i64 x2), (.int .i64 x3), x4] hp K := by
 refine .inl ⟨by kernel_rfl, AC.intro (N := 148) Try.func166 F166_body rfl (Nat.le_of_ble_eq_true rfl) ?_⟩
 unfold F166 at h
 unfold F166_code
 refine AWP.seq' ?_
 refine AWP.rgn (F166_r0 (upd (upd (upd (upd (upd E0 4 (sV x4)) 3 (sI x3)) 2 (sI x2)) 1 (sI x1)) 0 (sS x0a x0n x0c))  hp _) ?_ (Ru 0 (Ru 1 (Ru 2 (Ru 3 (Ru 4 Rn))))) (Sc rfl (Sc rfl (Sc rfl (Sc rfl (Sc rfl Sn))))) Sn
 refine AWP.seq (fun env pv hp => ∃ (x0a : Option Addr) (x0n : Nat) (x0c : Nat) (x1 : Int) (x2 : Int) (x3 : Int) (x4 : Value) (x10 : Bool) (x11 : Bool), Sub (upd (upd (upd (upd (upd (upd (upd E0 11 (sB x11)) 10 (sB x10)) 4 (sV x4)) 3 (sI x3)) 2 (sI x2)) 1 (sI x1)) 0 (sS x0a x0n x0c)) env ∧ Sub V0 pv ∧ (F166_j1 x0a x0n x0c x1 x2 x3 x4 x10 x11 hp  K)) ?_ ?_
 ·refine AWP.rgn (F166_r30 (upd (upd (upd (upd (upd (upd E0 10 (sB true)) 4 (sV x4)) 3 (sI x3)) 2 (sI x2)) 1 (sI x1)) 0 (sS x0a x0n x0c))  hp _) ?_ (Ru 0 (Ru 1 (Ru 2 (Ru 3 (Ru 4 (Ru 10 Rn)))))) (Sc rfl (Sc rfl (Sc rfl (Sc rfl (Sc rfl (Sc rfl Sn)))))) Sn
  exact ⟨x0a, x0n, x0c, x1, x2, x3, x4, true, true, (Sc rfl (Sc rfl (Sc rfl (Sc rfl (Sc rfl (Sc rfl (Sc rfl Sn))))))), Sn, h⟩
 ·rintro env pv hp ⟨x0a, x0n, x0c, x1, x2, x3, x4, x10, x11, he, hv, h⟩
  refine AWP.sub (env' := (upd (upd (upd (upd (upd (upd (upd E0 11 (sB x11)) 10 (sB x10)) 4 (sV x4)) 3 (sI x3)) 2 (sI x2)) 1 (sI x1)) 0 (sS x0a x0n x0c))) (pv' := V0) ?_ (Ru 0 (Ru 1 (Ru 2 (Ru 3 (Ru 4 (Ru 10 (Ru 11 Rn))))))) he hv (HSub.refl _)
  clear he hv
  unfold F166_j1 at h
  refine AWP.block ?_
  refine AWP.loop (σ := Int × Int × Int × Bool × Bool) (fun I s hp => F166_l2 x0a x0n x0c x4  K I s.1 s.2.1 s.2.2.1 s.2.2.2.1 s.2.2.2.2 hp) (fun s => (upd (upd (upd (upd (upd (upd (upd E0 11 (sB (s.2.2.2.2))) 10 (sB (s.2.2.2.1))) 4 (sV x4)) 3 (sI (s.2.2.1))) 2 (sI (s.2.1))) 1 (sI (s.1))) 0 (sS x0a x0n x0c))) (fun s => V0) (x1, x2, x3, x10, x11) h (fun s => (Ru 0 (Ru 1 (Ru 2 (Ru 3 (Ru 4 (Ru 10 (Ru 11 Rn)))))))) (Sc rfl (Sc rfl (Sc rfl (Sc rfl (Sc rfl (Sc rfl (Sc rfl Sn))))))) Sn ?_
  intro I2 s hp h
  obtain ⟨x1, x2, x3, x10, x11⟩ := s
  replace h : F166_l2 x0a x0n x0c x4  K I2 x1 x2 x3 x10 x11 hp := h
  unfold F166_l2 at h
  refine AWP.block ?_
  refine AWP.seq' ?_
  refine AWP.rgn (F166_r1 (upd (upd (upd (upd (upd E0 11 (sB x11)) 10 (sB x10)) 4 (sV x4)) 3 (sI x3)) 0 (sS x0a x0n x0c)) x1 x2 hp _) ?_ (Ru 1 (Ru 2 (Ru 0 (Ru 3 (Ru 4 (Ru 10 (Ru 11 Rn))))))) (Sc rfl (Sc rfl (Sc rfl (Sc rfl (Sc rfl (Sc rfl (Sc rfl Sn))))))) Sn
  refine AWP.seq' ?_
  refine AWP.seq' ?_
  refine AWP.rgn (F166_r2 (upd (upd (upd (upd (upd (upd (upd E0 11 (sB x11)) 10 (sB x10)) 4 (sV x4)) 3 (sI x3)) 2 (sI x2)) 1 (sI x1)) 0 (sS x0a x0n x0c)) (wr (x2 - x1)) hp _) ?_ (Ru 12 (Ru 0 (Ru 1 (Ru 2 (Ru 3 (Ru 4 (Ru 10 (Ru 11 Rn)))))))) (Sc rfl (Sc rfl (Sc rfl (Sc rfl (Sc rfl (Sc rfl (Sc rfl (Sc rfl Sn)))))))) Sn
  refine AWP.cond (t := (decide (((wr (x2 - x1)) : Int) ≤ 12))) rfl (fun e => ?_) (fun e => ?_)
  ·replace h := ite2_t h e
   refine AWP.seq' ?_
   refine AWP.rgn (F166_r3 E0 x0a x0n x0c x1 x2 x4 hp _) ?_ (Ru 0 (Ru 1 (Ru 2 (Ru 4 Rn)))) (Sc rfl (Sc rfl (Sc rfl (Sc rfl Sn)))) Sn
   refine mC h fun u_1 h_2 h => ?_
   refine AWP.ret ?_
   exact h
  ·replace h := ite2_f h e
   refine AWP.skip ?_
   refine AWP.seq' ?_
   refine AWP.seq' ?_
   refine AWP.rgn (F166_r4 (upd (upd (upd (upd (upd (upd (upd E0 12 (sI ((wr (x2 - x1))))) 11 (sB x11)) 10 (sB x10)) 4 (sV x4)) 2 (sI x2)) 1 (sI x1)) 0 (sS x0a x0n x0c)) x3 hp _) ?_ (Ru 3 (Ru 0 (Ru 1 (Ru 2 (Ru 4 (Ru 10 (Ru 11 (Ru 12 Rn)))))))) (Sc rfl (Sc rfl (Sc rfl (Sc rfl (Sc rfl (Sc rfl (Sc rfl (Sc rfl Sn)))))))) Sn
   refine AWP.cond (t := (x3 == 0)) rfl (fun e => ?_) (fun e => ?_)
   ·replace h := ite2_t h e
    refine AWP.seq' ?_
    refine AWP.rgn (F166_r5 E0 x0a x0n x0c x1 x2 x4 hp _) ?_ (Ru 0 (Ru 1 (Ru 2 (Ru 4 Rn)))) (Sc rfl (Sc rfl (Sc rfl (Sc rfl Sn)))) Sn
    refine mC h fun u_3 h_4 h => ?_
    refine AWP.ret ?_
    exact h
   ·replace h := ite2_f h e
    refine AWP.skip ?_
    refine AWP.seq (fun env pv hp => ∃ (x1 : Int) (x2 : Int) (x3 : Int) (x10 : Bool) (x11 : Bool) (x12 : Int), Sub (upd (upd (upd (upd (upd (upd (upd (upd E0 12 (sI x12)) 11 (sB x11)) 10 (sB x10)) 4 (sV x4)) 3 (sI x3)) 2 (sI x2)) 1 (sI x1)) 0 (sS x0a x0n x0c)) env ∧ Sub V0 pv ∧ (F166_j3 x0a x0n x0c x1 x2 x3 x4 x10 x11 x12 hp I2 K)) ?_ ?_
    ·refine AWP.seq' ?_
     refine AWP.rgn (F166_r27 (upd (upd (upd (upd (upd (upd (upd E0 12 (sI ((wr (x2 - x1))))) 11 (sB x11)) 4 (sV x4)) 3 (sI x3)) 2 (sI x2)) 1 (sI x1)) 0 (sS x0a x0n x0c)) x10 hp _) ?_ (Ru 10 (Ru 0 (Ru 1 (Ru 2 (Ru 3 (Ru 4 (Ru 11 (Ru 12 Rn)))))))) (Sc rfl (Sc rfl (Sc rfl (Sc rfl (Sc rfl (Sc rfl (Sc rfl (Sc rfl Sn)))))))) Sn
     refine AWP.cond (t := (!x10)) rfl (fun e => ?_) (fun e => ?_)
     ·replace h := ite2_t h e
      refine AWP.seq' ?_
      refine AWP.rgn (F166_r28 (upd (upd (upd (upd E0 12 (sI ((wr (x2 - x1))))) 11 (sB x11)) 10 (sB x10)) 3 (sI x3)) x0a x0n x0c x1 x2 x4 hp _) ?_ (Ru 0 (Ru 1 (Ru 2 (Ru 4 (Ru 3 (Ru 10 (Ru 11 (Ru 12 Rn)))))))) (Sc rfl (Sc rfl (Sc rfl (Sc rfl (Sc rfl (Sc rfl (Sc rfl (Sc rfl Sn)))))))) Sn
      refine mC h fun u_43 h_44 h => ?_
      refine AWP.rgn (F166_r29 (upd (upd (upd (upd (upd (upd (upd E0 12 (sI ((wr (x2 - x1))))) 11 (sB x11)) 10 (sB x10)) 4 (sV x4)) 2 (sI x2)) 1 (sI x1)) 0 (sS x0a x0n x0c)) x3 h_44 _) ?_ (Ru 3 (Ru 0 (Ru 1 (Ru 2 (Ru 4 (Ru 10 (Ru 11 (Ru 12 Rn)))))))) (Sc rfl (Sc rfl (Sc rfl (Sc rfl (Sc rfl (Sc rfl (Sc rfl (Sc rfl Sn)))))))) Sn
      exact ⟨x1, x2, (wr (x3 - 1)), x10, x11, (wr (x2 - x1)), (Sc rfl (Sc rfl (Sc rfl (Sc rfl (Sc rfl (Sc rfl (Sc rfl (Sc rfl Sn)))))))), Sn, h⟩
     ·replace h := ite2_f h e
      refine AWP.skip ?_
      exact ⟨x1, x2, x3, x10, x11, (wr (x2 - x1)), (Sc rfl (Sc rfl (Sc rfl (Sc rfl (Sc rfl (Sc rfl (Sc rfl (Sc rfl Sn)))))))), Sn, h⟩
    ·rintro env pv hp ⟨x1, x2, x3, x10, x11, x12, he, hv, h⟩
     refine AWP.sub (env' := (upd (upd (upd (upd (upd (upd (upd (upd E0 12 (sI x12)) 11 (sB x11)) 10 (sB x10)) 4 (sV x4)) 3 (sI x3)) 2 (sI x2)) 1 (sI x1)) 0 (sS x0a x0n x0c))) (pv' := V0) ?_ (Ru 0 (Ru 1 (Ru 2 (Ru 3 (Ru 4 (Ru 10 (Ru 11 (Ru 12 Rn)))))))) he hv (HSub.refl _)
     clear he hv
     unfold F166_j3 at h
     refine AWP.seq' ?_
     refine AWP.rgn (F166_r6 (upd (upd (upd (upd E0 12 (sI x12)) 11 (sB x11)) 10 (sB x10)) 3 (sI x3)) x0a x0n x0c x1 x2 x4 hp _) ?_ (Ru 0 (Ru 1 (Ru 2 (Ru 4 (Ru 3 (Ru 10 (Ru 11 (Ru 12 Rn)))))))) (Sc rfl (Sc rfl (Sc rfl (Sc rfl (Sc rfl (Sc rfl (Sc rfl (Sc rfl Sn)))))))) Sn
     refine mC h fun u_5 h_6 h => mT h fun u_7 u_8 h => mI h fun i_9 h => mI h fun i_10 h => ?_
     refine AWP.seq (fun env pv hp => ∃ (x1 : Int) (x2 : Int) (x3 : Int) (x10 : Bool) (x11 : Bool) (x12 : Int) (x13 : Int) (x14 : Int), Sub (upd (upd (upd (upd (upd (upd (upd (upd (upd (upd E0 14 (sI x14)) 13 (sI x13)) 12 (sI x12)) 11 (sB x11)) 10 (sB x10)) 4 (sV x4)) 3 (sI x3)) 2 (sI x2)) 1 (sI x1)) 0 (sS x0a x0n x0c)) env ∧ Sub V0 pv ∧ (F166_j4 x0a x0n x0c x1 x2 x3 x4 x10 x11 x12 x13 x14 hp I2 K)) ?_ ?_
     ·refine AWP.seq' ?_
      refine AWP.rgn (F166_r23 (upd (upd (upd (upd (upd (upd (upd (upd (upd E0 13 (sI i_9)) 12 (sI x12)) 11 (sB x11)) 10 (sB x10)) 4 (sV x4)) 3 (sI x3)) 2 (sI x2)) 1 (sI x1)) 0 (sS x0a x0n x0c)) i_10 h_6 _) ?_ (Ru 14 (Ru 0 (Ru 1 (Ru 2 (Ru 3 (Ru 4 (Ru 10 (Ru 11 (Ru 12 (Ru 13 Rn)))))))))) (Sc rfl (Sc rfl (Sc rfl (Sc rfl (Sc rfl (Sc rfl (Sc rfl (Sc rfl (Sc rfl (Sc rfl Sn)))))))))) Sn
      refine AWP.cond (t := (i_10 == 2)) rfl (fun e => ?_) (fun e => ?_)
      ·replace h := ite2_t h e
       refine AWP.seq' ?_
       refine AWP.rgn (F166_r24 (upd (upd (upd (upd (upd E0 13 (sI i_9)) 12 (sI x12)) 11 (sB x11)) 10 (sB x10)) 3 (sI x3)) x0a x0n x0c x1 x2 x4 h_6 _) ?_ (Ru 0 (Ru 1 (Ru 2 (Ru 4 (Ru 3 (Ru 10 (Ru 11 (Ru 12 (Ru 13 Rn))))))))) (Sc rfl (Sc rfl (Sc rfl (Sc rfl (Sc rfl (Sc rfl (Sc rfl (Sc rfl (Sc rfl Sn))))))))) Sn
       refine mC h fun u_41 h_42 h => ?_
       refine AWP.seq' ?_
       refine AWP.rgn (F166_r25 (upd (upd (upd (upd (upd (upd E0 12 (sI x12)) 11 (sB x11)) 10 (sB x10)) 4 (sV x4)) 3 (sI x3)) 0 (sS x0a x0n x0c)) x1 x2 i_9 h_42 _) ?_ (Ru 1 (Ru 2 (Ru 13 (Ru 0 (Ru 3 (Ru 4 (Ru 10 (Ru 11 (Ru 12 Rn))))))))) (Sc rfl (Sc rfl (Sc rfl (Sc rfl (Sc rfl (Sc rfl (Sc rfl (Sc rfl (Sc rfl Sn))))))))) Sn
       refine AWP.rgn (F166_r26 (upd (upd (upd (upd (upd (upd (upd (upd (upd E0 13 (sI ((wr ((wr (x2 - 1)) - (wr (i_9 - x1))))))) 12 (sI x12)) 11 (sB x11)) 10 (sB x10)) 4 (sV x4)) 3 (sI x3)) 2 (sI x2)) 1 (sI x1)) 0 (sS x0a x0n x0c))  h_42 _) ?_ (Ru 0 (Ru 1 (Ru 2 (Ru 3 (Ru 4 (Ru 10 (Ru 11 (Ru 12 (Ru 13 Rn))))))))) (Sc rfl (Sc rfl (Sc rfl (Sc rfl (Sc rfl (Sc rfl (Sc rfl (Sc rfl (Sc rfl Sn))))))))) Sn
       exact ⟨x1, x2, x3, x10, x11, x12, (wr ((wr (x2 - 1)) - (wr (i_9 - x1)))), 1, (Sc rfl (Sc rfl (Sc rfl (Sc rfl (Sc rfl (Sc rfl (Sc rfl (Sc rfl (Sc rfl (Sc rfl Sn)))))))))), Sn, h⟩
      ·replace h := ite2_f h e
       refine AWP.skip ?_
       exact ⟨x1, x2, x3, x10, x11, x12, i_9, i_10, (Sc rfl (Sc rfl (Sc rfl (Sc rfl (Sc rfl (Sc rfl (Sc rfl (Sc rfl (Sc rfl (Sc rfl Sn)))))))))), Sn, h⟩
     ·rintro env pv hp ⟨x1, x2, x3, x10, x11, x12, x13, x14, he, hv, h⟩
      refine AWP.sub (env' := (upd (upd (upd (upd (upd (upd (upd (upd (upd (upd E0 14 (sI x14)) 13 (sI x13)) 12 (sI x12)) 11 (sB x11)) 10 (sB x10)) 4 (sV x4)) 3 (sI x3)) 2 (sI x2)) 1 (sI x1)) 0 (sS x0a x0n x0c))) (pv' := V0) ?_ (Ru 0 (Ru 1 (Ru 2 (Ru 3 (Ru 4 (Ru 10 (Ru 11 (Ru 12 (Ru 13 (Ru 14 Rn)))))))))) he hv (HSub.refl _)
      clear he hv
      unfold F166_j4 at h
      refine AWP.seq (fun env pv hp => ∃ (x1 : Int) (x2 : Int) (x3 : Int) (x10 : Bool) (x11 : Bool) (x12 : Int) (x13 : Int), Sub (upd (upd (upd (upd (upd (upd (upd (upd (upd E0 13 (sI x13)) 12 (sI x12)) 11 (sB x11)) 10 (sB x10)) 4 (sV x4)) 3 (sI x3)) 2 (sI x2)) 1 (sI x1)) 0 (sS x0a x0n x0c)) env ∧ Sub V0 pv ∧ (F166_j5 x0a x0n x0c x1 x2 x3 x4 x10 x11 x12 x13 hp I2 K)) ?_ ?_
      ·refine AWP.seq (fun env pv hp => ∃ (x1 : Int) (x2 : Int) (x3 : Int) (x10 : Bool) (x11 : Bool) (x12 : Int) (x13 : Int) (x75 : Bool), Sub (upd (upd (upd (upd (upd (upd (upd (upd (upd (upd E0 75 (sB x75)) 13 (sI x13)) 12 (sI x12)) 11 (sB x11)) 10 (sB x10)) 4 (sV x4)) 3 (sI x3)) 2 (sI x2)) 1 (sI x1)) 0 (sS x0a x0n x0c)) env ∧ Sub V0 pv ∧ (F166_j7 x0a x0n x0c x1 x2 x3 x4 x10 x11 x12 x13 x75 hp I2 K)) ?_ ?_
       ·refine AWP.rgn (F166_r22 (upd (upd (upd (upd (upd (upd (upd E0 13 (sI x13)) 12 (sI x12)) 4 (sV x4)) 3 (sI x3)) 2 (sI x2)) 1 (sI x1)) 0 (sS x0a x0n x0c)) x10 x11 x14 hp _) ?_ (Ru 10 (Ru 11 (Ru 14 (Ru 0 (Ru 1 (Ru 2 (Ru 3 (Ru 4 (Ru 12 (Ru 13 Rn)))))))))) (Sc rfl (Sc rfl (Sc rfl (Sc rfl (Sc rfl (Sc rfl (Sc rfl (Sc rfl (Sc rfl (Sc rfl Sn)))))))))) Sn
        refine mt h (fun h => ?_) (fun h => ?_)
        ·refine mt h (fun h => ?_) (fun h => ?_)
         ·exact ⟨x1, x2, x3, x10, x11, x12, x13, (x14 == 1), (Sc rfl (Sc rfl (Sc rfl (Sc rfl (Sc rfl (Sc rfl (Sc rfl (Sc rfl (Sc rfl (Sc rfl Sn)))))))))), Sn, h⟩
         ·exact ⟨x1, x2, x3, x10, x11, x12, x13, false, (Sc rfl (Sc rfl (Sc rfl (Sc rfl (Sc rfl (Sc rfl (Sc rfl (Sc rfl (Sc rfl (Sc rfl Sn)))))))))), Sn, h⟩
        ·exact ⟨x1, x2, x3, x10, x11, x12, x13, false, (Sc rfl (Sc rfl (Sc rfl (Sc rfl (Sc rfl (Sc rfl (Sc rfl (Sc rfl (Sc rfl (Sc rfl Sn)))))))))), Sn, h⟩
       ·rintro env pv hp ⟨x1, x2, x3, x10, x11, x12, x13, x75, he, hv, h⟩
        refine AWP.sub (env' := (upd (upd (upd (upd (upd (upd (upd (upd (upd (upd E0 75 (sB x75)) 13 (sI x13)) 12 (sI x12)) 11 (sB x11)) 10 (sB x10)) 4 (sV x4)) 3 (sI x3)) 2 (sI x2)) 1 (sI x1)) 0 (sS x0a x0n x0c))) (pv' := V0) ?_ (Ru 0 (Ru 1 (Ru 2 (Ru 3 (Ru 4 (Ru 10 (Ru 11 (Ru 12 (Ru 13 (Ru 75 Rn)))))))))) he hv (HSub.refl _)
        clear he hv
        unfold F166_j7 at h
        refine AWP.cond (t := x75) rfl (fun e => ?_) (fun e => ?_)
        ·replace h := ite2_t h e
         refine AWP.seq' ?_
         refine AWP.rgn (F166_r21 (upd (upd (upd (upd (upd E0 13 (sI x13)) 12 (sI x12)) 11 (sB x11)) 10 (sB x10)) 3 (sI x3)) x0a x0n x0c x1 x2 x4 hp _) ?_ (Ru 0 (Ru 1 (Ru 2 (Ru 4 (Ru 3 (Ru 10 (Ru 11 (Ru 12 (Ru 13 Rn))))))))) (Sc rfl (Sc rfl (Sc rfl (Sc rfl (Sc rfl (Sc rfl (Sc rfl (Sc rfl (Sc rfl Sn))))))))) Sn
         refine mC h fun u_38 h_39 h => mB h fun q_40 h => ?_
         refine AWP.cond (t := q_40) rfl (fun e => ?_) (fun e => ?_)
         ·replace h := ite2_t h e
          refine AWP.ret ?_
          exact h
         ·replace h := ite2_f h e
          refine AWP.skip ?_
          exact ⟨x1, x2, x3, x10, x11, x12, x13, (Sc rfl (Sc rfl (Sc rfl (Sc rfl (Sc rfl (Sc rfl (Sc rfl (Sc rfl (Sc rfl Sn))))))))), Sn, h⟩
        ·replace h := ite2_f h e
         refine AWP.skip ?_
         exact ⟨x1, x2, x3, x10, x11, x12, x13, (Sc rfl (Sc rfl (Sc rfl (Sc rfl (Sc rfl (Sc rfl (Sc rfl (Sc rfl (Sc rfl Sn))))))))), Sn, h⟩
      ·rintro env pv hp ⟨x1, x2, x3, x10, x11, x12, x13, he, hv, h⟩
       refine AWP.sub (env' := (upd (upd (upd (upd (upd (upd (upd (upd (upd E0 13 (sI x13)) 12 (sI x12)) 11 (sB x11)) 10 (sB x10)) 4 (sV x4)) 3 (sI x3)) 2 (sI x2)) 1 (sI x1)) 0 (sS x0a x0n x0c))) (pv' := V0) ?_ (Ru 0 (Ru 1 (Ru 2 (Ru 3 (Ru 4 (Ru 10 (Ru 11 (Ru 12 (Ru 13 Rn))))))))) he hv (HSub.refl _)
       clear he hv
       unfold F166_j5 at h
       refine AWP.seq' ?_
       refine AWP.seq (fun env pv hp => ∃ (x1 : Int) (x2 : Int) (x3 : Int) (x10 : Bool) (x11 : Bool) (x12 : Int) (x13 : Int) (x97 : Bool), Sub (upd (upd (upd (upd (upd (upd (upd (upd (upd (upd E0 97 (sB x97)) 13 (sI x13)) 12 (sI x12)) 11 (sB x11)) 10 (sB x10)) 4 (sV x4)) 3 (sI x3)) 2 (sI x2)) 1 (sI x1)) 0 (sS x0a x0n x0c)) env ∧ Sub V0 pv ∧ (F166_j6 x0a x0n x0c x1 x2 x3 x4 x10 x11 x12 x13 x97 hp I2 K)) ?_ ?_
       ·refine AWP.rgnD (by kernel_rfl) (by kernel_rfl) (F166_r20 (upd (upd (upd (upd (upd E0 12 (sI x12)) 11 (sB x11)) 10 (sB x10)) 3 (sI x3)) 2 (sI x2)) x0a x0n x0c x1 x4 x13 hp _) ?_ (Ru 0 (Ru 1 (Ru 4 (Ru 13 (Ru 2 (Ru 3 (Ru 10 (Ru 11 (Ru 12 Rn))))))))) (Sc rfl (Sc rfl (Sc rfl (Sc rfl (Sc rfl (Sc rfl (Sc rfl (Sc rfl (Sc rfl Sn))))))))) Sn
        refine mt h (fun h => ?_) (fun h => ?_)
        ·refine ⟨h.1, h.2.1, mN h.2.2 (fun b_24 o_25 h => mV h (fun v_26 h => ms h (fun s_27 h => ⟨h.1, h.2.1, mN h.2.2 fun b_28 o_29 h => mV h fun v_30 h => ms h fun s_31 h => mF h fun f_32 ga_33 gb_34 h => mC h fun u_35 h_36 h => mI h fun i_37 h => ?_⟩)))⟩
         exact ⟨x1, x2, x3, x10, x11, x12, x13, (!(decide (i_37 < 0))), (Sc rfl (Sc rfl (Sc rfl (Sc rfl (Sc rfl (Sc rfl (Sc rfl (Sc rfl (Sc rfl (Sc rfl Sn)))))))))), Sn, h⟩
        ·exact ⟨x1, x2, x3, x10, x11, x12, x13, false, (Sc rfl (Sc rfl (Sc rfl (Sc rfl (Sc rfl (Sc rfl (Sc rfl (Sc rfl (Sc rfl (Sc rfl Sn)))))))))), Sn, h⟩
       ·rintro env pv hp ⟨x1, x2, x3, x10, x11, x12, x13, x97, he, hv, h⟩
        refine AWP.sub (env' := (upd (upd (upd (upd (upd (upd (upd (upd (upd (upd E0 97 (sB x97)) 13 (sI x13)) 12 (sI x12)) 11 (sB x11)) 10 (sB x10)) 4 (sV x4)) 3 (sI x3)) 2 (sI x2)) 1 (sI x1)) 0 (sS x0a x0n x0c))) (pv' := V0) ?_ (Ru 0 (Ru 1 (Ru 2 (Ru 3 (Ru 4 (Ru 10 (Ru 11 (Ru 12 (Ru 13 (Ru 97 Rn)))))))))) he hv (HSub.refl _)
        clear he hv
        unfold F166_j6 at h
        refine AWP.cond (t := x97) rfl (fun e => ?_) (fun e => ?_)
        ·replace h := ite2_t h e
         refine AWP.seq' ?_
         refine AWP.rgn (F166_r7 (upd (upd (upd E0 11 (sB x11)) 10 (sB x10)) 3 (sI x3)) x0a x0n x0c x1 x2 x4 x13 hp _) ?_ (Ru 0 (Ru 1 (Ru 2 (Ru 4 (Ru 13 (Ru 3 (Ru 10 (Ru 11 Rn)))))))) (Sc rfl (Sc rfl (Sc rfl (Sc rfl (Sc rfl (Sc rfl (Sc rfl (Sc rfl Sn)))))))) Sn
         refine mC h fun u_11 h_12 h => mI h fun i_13 h => ?_
         refine AWP.seq' ?_
         refine AWP.rgn (F166_r8 (upd (upd (upd (upd (upd (upd E0 11 (sB x11)) 10 (sB x10)) 4 (sV x4)) 3 (sI x3)) 2 (sI x2)) 0 (sS x0a x0n x0c)) i_13 h_12 _) ?_ (Ru 15 (Ru 0 (Ru 2 (Ru 3 (Ru 4 (Ru 10 (Ru 11 Rn))))))) (Sc rfl (Sc rfl (Sc rfl (Sc rfl (Sc rfl (Sc rfl (Sc rfl Sn))))))) Sn
         refine AWP.exit ?_
         exact ⟨(i_13, x2, x3, x10, x11), (Sc rfl (Sc rfl (Sc rfl (Sc rfl (Sc rfl (Sc rfl (Sc rfl Sn))))))), Sn, h⟩
        ·replace h := ite2_f h e
         refine AWP.skip ?_
         refine AWP.seq' ?_
         refine AWP.rgn (F166_r9 (upd (upd E0 12 (sI x12)) 3 (sI x3)) x0a x0n x0c x1 x2 x4 x13 hp _) ?_ (Ru 0 (Ru 1 (Ru 2 (Ru 4 (Ru 13 (Ru 3 (Ru 12 Rn))))))) (Sc rfl (Sc rfl (Sc rfl (Sc rfl (Sc rfl (Sc rfl (Sc rfl Sn))))))) Sn
         refine mC h fun u_14 h_15 h => mT h fun u_16 u_17 h => mI h fun i_18 h => mB h fun q_19 h => ?_
         refine AWP.seq' ?_
         refine AWP.rgn (F166_r10 (upd (upd (upd (upd (upd (upd (upd E0 16 (sI i_18)) 12 (sI x12)) 4 (sV x4)) 3 (sI x3)) 2 (sI x2)) 1 (sI x1)) 0 (sS x0a x0n x0c)) q_19 h_15 _) ?_ (Ru 17 (Ru 0 (Ru 1 (Ru 2 (Ru 3 (Ru 4 (Ru 12 (Ru 16 Rn)))))))) (Sc rfl (Sc rfl (Sc rfl (Sc rfl (Sc rfl (Sc rfl (Sc rfl (Sc rfl Sn)))))))) Sn
         refine AWP.seq' ?_
         refine AWP.rgn (F166_r11 (upd (upd (upd (upd (upd E0 12 (sI x12)) 11 (sB q_19)) 4 (sV x4)) 3 (sI x3)) 0 (sS x0a x0n x0c)) x1 x2 i_18 h_15 _) ?_ (Ru 1 (Ru 2 (Ru 16 (Ru 0 (Ru 3 (Ru 4 (Ru 11 (Ru 12 Rn)))))))) (Sc rfl (Sc rfl (Sc rfl (Sc rfl (Sc rfl (Sc rfl (Sc rfl (Sc rfl Sn)))))))) Sn
         refine AWP.seq' ?_
         refine AWP.rgn (F166_r12 (upd (upd (upd (upd (upd (upd (upd (upd (upd E0 19 (sI ((wr (x2 - i_18))))) 18 (sI ((wr (i_18 - x1))))) 16 (sI i_18)) 11 (sB q_19)) 4 (sV x4)) 3 (sI x3)) 2 (sI x2)) 1 (sI x1)) 0 (sS x0a x0n x0c)) x12 h_15 _) ?_ (Ru 12 (Ru 0 (Ru 1 (Ru 2 (Ru 3 (Ru 4 (Ru 11 (Ru 16 (Ru 18 (Ru 19 Rn)))))))))) (Sc rfl (Sc rfl (Sc rfl (Sc rfl (Sc rfl (Sc rfl (Sc rfl (Sc rfl (Sc rfl (Sc rfl Sn)))))))))) Sn
         refine ⟨h.1, ?_⟩
         replace h := h.2
         refine AWP.seq' ?_
         refine AWP.rgn (F166_r13 (upd (upd (upd (upd (upd (upd (upd (upd E0 20 (sI ((wr (Int.tdiv x12 8))))) 16 (sI i_18)) 11 (sB q_19)) 4 (sV x4)) 3 (sI x3)) 2 (sI x2)) 1 (sI x1)) 0 (sS x0a x0n x0c)) (wr (i_18 - x1)) (wr (x2 - i_18)) h_15 _) ?_ (Ru 18 (Ru 19 (Ru 0 (Ru 1 (Ru 2 (Ru 3 (Ru 4 (Ru 11 (Ru 16 (Ru 20 Rn)))))))))) (Sc rfl (Sc rfl (Sc rfl (Sc rfl (Sc rfl (Sc rfl (Sc rfl (Sc rfl (Sc rfl (Sc rfl Sn)))))))))) Sn
         refine AWP.cond (t := (decide (((wr (i_18 - x1)) : Int) < (wr (x2 - i_18))))) rfl (fun e => ?_) (fun e => ?_)
         ·replace h := ite2_t h e
          refine AWP.seq' ?_
          refine AWP.rgn (F166_r14 (upd (upd (upd (upd (upd (upd (upd E0 16 (sI i_18)) 11 (sB q_19)) 4 (sV x4)) 3 (sI x3)) 2 (sI x2)) 1 (sI x1)) 0 (sS x0a x0n x0c)) (wr (i_18 - x1)) (wr (Int.tdiv x12 8)) h_15 _) ?_ (Ru 18 (Ru 20 (Ru 0 (Ru 1 (Ru 2 (Ru 3 (Ru 4 (Ru 11 (Ru 16 Rn))))))))) (Sc rfl (Sc rfl (Sc rfl (Sc rfl (Sc rfl (Sc rfl (Sc rfl (Sc rfl (Sc rfl Sn))))))))) Sn
          refine AWP.seq' ?_
          refine AWP.rgn (F166_r15 (upd (upd (upd E0 11 (sB q_19)) 10 (sB ((decide (((wr (i_18 - x1)) : Int) ≥ (wr (Int.tdiv x12 8))))))) 2 (sI x2)) x0a x0n x0c x1 x3 x4 i_18 h_15 _) ?_ (Ru 0 (Ru 1 (Ru 3 (Ru 4 (Ru 16 (Ru 2 (Ru 10 (Ru 11 Rn)))))))) (Sc rfl (Sc rfl (Sc rfl (Sc rfl (Sc rfl (Sc rfl (Sc rfl (Sc rfl Sn)))))))) Sn
          refine mC h fun u_20 h_21 h => ?_
          refine AWP.rgn (F166_r16 (upd (upd (upd (upd (upd (upd E0 11 (sB q_19)) 10 (sB ((decide (((wr (i_18 - x1)) : Int) ≥ (wr (Int.tdiv x12 8))))))) 4 (sV x4)) 3 (sI x3)) 2 (sI x2)) 0 (sS x0a x0n x0c)) i_18 h_21 _) ?_ (Ru 16 (Ru 0 (Ru 2 (Ru 3 (Ru 4 (Ru 10 (Ru 11 Rn))))))) (Sc rfl (Sc rfl (Sc rfl (Sc rfl (Sc rfl (Sc rfl (Sc rfl Sn))))))) Sn
          exact ⟨((wr (i_18 + 1)), x2, x3, (decide (((wr (i_18 - x1)) : Int) ≥ (wr (Int.tdiv x12 8)))), q_19), (Sc rfl (Sc rfl (Sc rfl (Sc rfl (Sc rfl (Sc rfl (Sc rfl Sn))))))), Sn, h⟩
         ·replace h := ite2_f h e
          refine AWP.seq' ?_
          refine AWP.rgn (F166_r17 (upd (upd (upd (upd (upd (upd (upd E0 16 (sI i_18)) 11 (sB q_19)) 4 (sV x4)) 3 (sI x3)) 2 (sI x2)) 1 (sI x1)) 0 (sS x0a x0n x0c)) (wr (x2 - i_18)) (wr (Int.tdiv x12 8)) h_15 _) ?_ (Ru 19 (Ru 20 (Ru 0 (Ru 1 (Ru 2 (Ru 3 (Ru 4 (Ru 11 (Ru 16 Rn))))))))) (Sc rfl (Sc rfl (Sc rfl (Sc rfl (Sc rfl (Sc rfl (Sc rfl (Sc rfl (Sc rfl Sn))))))))) Sn
          refine AWP.seq' ?_
          refine AWP.rgn (F166_r18 (upd (upd (upd E0 11 (sB q_19)) 10 (sB ((decide (((wr (x2 - i_18)) : Int) ≥ (wr (Int.tdiv x12 8))))))) 1 (sI x1)) x0a x0n x0c x2 x3 x4 i_18 h_15 _) ?_ (Ru 0 (Ru 2 (Ru 3 (Ru 4 (Ru 16 (Ru 1 (Ru 10 (Ru 11 Rn)))))))) (Sc rfl (Sc rfl (Sc rfl (Sc rfl (Sc rfl (Sc rfl (Sc rfl (Sc rfl Sn)))))))) Sn
          refine mC h fun u_22 h_23 h => ?_
          refine AWP.rgn (F166_r19 (upd (upd (upd (upd (upd (upd E0 11 (sB q_19)) 10 (sB ((decide (((wr (x2 - i_18)) : Int) ≥ (wr (Int.tdiv x12 8))))))) 4 (sV x4)) 3 (sI x3)) 1 (sI x1)) 0 (sS x0a x0n x0c)) i_18 h_23 _) ?_ (Ru 16 (Ru 0 (Ru 1 (Ru 3 (Ru 4 (Ru 10 (Ru 11 Rn))))))) (Sc rfl (Sc rfl (Sc rfl (Sc rfl (Sc rfl (Sc rfl (Sc rfl Sn))))))) Sn
          exact ⟨(x1, i_18, x3, (decide (((wr (x2 - i_18)) : Int) ≥ (wr (Int.tdiv x12 8)))), q_19), (Sc rfl (Sc rfl (Sc rfl (Sc rfl (Sc rfl (Sc rfl (Sc rfl Sn))))))), Sn, h⟩
end
-- 137 slices.SortFunc[[]string,string]
section
variable (e : Env) (x0a : Option Addr) (x0n x0c : Nat) (x1 : Value) (x4 : Int) (hp : HP) (K : Env → PV → HP → Prop)
abbrev R137 (p : List Nat) (n : Nat) := RW Try.prog 14 [] (opsAt Try.f137 p) (List.range n)
theorem F137_r0 : R137 [0] 3 (upd e 0 (sS x0a x0n x0c)) V0 hp K =
    (K (upd (upd (upd (upd e 0 (sS x0a x0n x0c)) 5 (sS x0a x0n x0c)) 6 (sI ((x0n : Nat)))) 4 (sI ((x0n : Nat)))) V0 hp) := by kernel_rfl
theorem F137_r1 : R137 [1] 7 (upd (upd (upd e 4 (sI x4)) 1 (sV x1)) 0 (sS x0a x0n x0c)) V0 hp K =
    (CF Try.prog 129 [(.int .u64 (IntKind.wrap .u64 (x4)))] hp fun u1 h2 => (intV u1 .i64 fun i3 => (CF Try.prog 166 [(.slice x0a x0n x0c), .int .i64 0, (.int .i64 x4), (.int .i64 i3), x1] h2 fun u4 h5 => (K (upd (upd (upd (upd (upd (upd (upd (upd (upd (upd e 4 (sI x4)) 1 (sV x1)) 0 (sS x0a x0n x0c)) 7 (sS x0a x0n x0c)) 8 (sI x4)) 9 (sI x4)) 10 (sV (.int .u64 (IntKind.wrap .u64 (x4))))) 11 (sI i3)) 12 (sV x1)) 13 (sV u4)) V0 h5)))) := by kernel_rfl
def F137 (x0a : Option Addr) (x0n : Nat) (x0c : Nat) (x1 : Value) (hp : HP) (K : Value → HP → Prop) : Prop :=
  (CF Try.prog 129 [(.int .u64 (IntKind.wrap .u64 ((x0n : Nat))))] hp fun u_1 h_2 => (intV u_1 .i64 fun i_3 => (CF Try.prog 166 [(.slice x0a x0n x0c), .int .i64 0, (.int .i64 (x0n : Nat)), (.int .i64 i_3), x1] h_2 fun u_4 h_5 => (K (.tuple ⟨[]⟩) h_5))))
noncomputable def F137_code : Code := (.seq (.region 0 (opsAt Try.f137 [0]) false) (.region 1 (opsAt Try.f137 [1]) false))
theorem F137_body : Try.f137.body = some F137_code := by kernel_rfl
theorem F137_ok (x0a : Option Addr) (x0n : Nat) (x0c : Nat) (x1 : Value) (hp : HP) (K : Value → HP → Prop) (h : F137 x0a x0n x0c x1 hp K) : CF Try.prog 137 [(.slice x0a x0n x0c), x1] hp K := by
 refine .inl ⟨by kernel_rfl, AC.intro (N := 14) Try.func137 F137_body rfl (Nat.le_of_ble_eq_true rfl) ?_⟩
 unfold F137 at h
 unfold F137_code
 refine AWP.seq' ?_
 refine AWP.rgn (F137_r0 (upd E0 1 (sV x1)) x0a x0n x0c hp _) ?_ (Ru 0 (Ru 1 Rn)) (Sc rfl (Sc rfl Sn)) Sn
 refine AWP.rgn (F137_r1 E0 x0a x0n x0c x1 (x0n : Nat) hp _) ?_ (Ru 0 (Ru 1 (Ru 4 Rn))) (Sc rfl (Sc rfl (Sc rfl Sn))) Sn
 refine mC h fun u_1 h_2 h => mI h fun i_3 h => mC h fun u_4 h_5 h => ?_
 exact h
end
end Go.Proofs

set_option linter.unusedVariables false
set_option maxRecDepth 20000
namespace Go.Proofs
open Go Go.HL
-- 129 math/bits.Len
section
variable (e : Env) (x0 : Int) (hp : HP) (K : Env → PV → HP → Prop)
abbrev R129 (p : List Nat) (n : Nat) := RW Try.prog 8 [] (opsAt Try.f129 p) (List.range n)
theorem F129_r0 : R129 [0] 1 e V0 hp K =
    (K (upd e 2 (sI 0)) V0 hp) := by kernel_rfl
theorem F129_r1 : R129 [1, 1, 0] 3 (upd e 0 (sV (.int .u64 x0))) V0 hp K =
    (CF Try.prog 155 [(.int .u64 x0)] hp fun u1 h2 => (intV u1 .i64 fun i3 => (K (upd (upd (upd (upd e 0 (sV (.int .u64 x0))) 6 (sV (.int .u64 x0))) 7 (sI i3)) 2 (sI i3)) V0 h2))) := by kernel_rfl
def F129 (x0 : Int) (hp : HP) (K : Value → HP → Prop) : Prop :=
  (CF Try.prog 155 [(.int .u64 x0)] hp fun u_1 h_2 => (intV u_1 .i64 fun i_3 => (K (.int .i64 i_3) h_2)))
noncomputable def F129_code : Code := (.seq (.region 0 (opsAt Try.f129 [0]) false) (.seq (.cond (.const (.bool false)) (.seq (.region 1 (opsAt Try.f129 [1, 0, 0, 0]) false) .ret) .skip) (.seq (.region 2 (opsAt Try.f129 [1, 1, 0]) false) .ret)))
theorem F129_body : Try.f129.body = some F129_code := by kernel_rfl
theorem F129_ok (x0 : Int) (hp : HP) (K : Value → HP → Prop) (h : F129 x0 hp K) : CF Try.prog 129 [(.int .u64 x0)] hp K := by
 refine .inl ⟨by kernel_rfl, AC.intro (N := 8) Try.func129 F129_body rfl (Nat.le_of_ble_eq_true rfl) ?_⟩
 unfold F129 at h
 unfold F129_code
 refine AWP.seq' ?_
 refine AWP.rgn (F129_r0 (upd E0 0 (sV (.int .u64 x0)))  hp _) ?_ (Ru 0 Rn) (Sc rfl Sn) Sn
 refine AWP.seq' ?_
 refine AWP.condK ?_
 refine AWP.skip ?_
 refine AWP.seq' ?_
 refine AWP.rgn (F129_r1 E0 x0 hp _) ?_ (Ru 0 Rn) (Sc rfl Sn) Sn
 refine mC h fun u_1 h_2 h => mI h fun i_3 h => ?_
 refine AWP.ret ?_
 exact h
end
-- 155 math/bits.Len64
section
variable (e : Env) (x0 x2 : Int) (hp : HP) (K : Env → PV → HP → Prop)
abbrev R155 (p : List Nat) (n : Nat) := RW Try.prog 25 [] (opsAt Try.f155 p) (List.range n)
theorem F155_r0 : R155 [0] 1 e V0 hp K =
    (K (upd e 2 (sI 0)) V0 hp) := by kernel_rfl
theorem F155_r1 : R155 [1, 1, 1, 1, 0] 7 (upd (upd e 2 (sI x2)) 0 (sV (.int .u64 x0))) V0 hp K =
    ((0 ≤ ((IntKind.wrap .u8 (x0)) : Int)) ∧ (((IntKind.wrap .u8 (x0)) : Int) < (ByteArray.size (⟨#[0, 1, 2, 2, 3, 3, 3, 3, 4, 4, 4, 4, 4, 4, 4, 4, 5, 5, 5, 5, 5, 5, 5, 5, 5, 5, 5, 5, 5, 5, 5, 5, 6, 6, 6, 6, 6, 6, 6, 6, 6, 6, 6, 6, 6, 6, 6, 6, 6, 6, 6, 6, 6, 6, 6, 6, 6, 6, 6, 6, 6, 6, 6, 6, 7, 7, 7, 7, 7, 7, 7, 7, 7, 7, 7, 7, 7, 7, 7, 7, 7, 7, 7, 7, 7, 7, 7, 7, 7, 7, 7, 7, 7, 7, 7, 7, 7, 7, 7, 7, 7, 7, 7, 7, 7, 7, 7, 7, 7, 7, 7, 7, 7, 7, 7, 7, 7, 7, 7, 7, 7, 7, 7, 7, 7, 7, 7, 7, 8, 8, 8, 8, 8, 8, 8, 8, 8, 8, 8, 8, 8, 8, 8, 8, 8, 8, 8, 8, 8, 8, 8, 8, 8, 8, 8, 8, 8, 8, 8, 8, 8, 8, 8, 8, 8, 8, 8, 8, 8, 8, 8, 8, 8, 8, 8, 8, 8, 8, 8, 8, 8, 8, 8, 8, 8, 8, 8, 8, 8, 8, 8, 8, 8, 8, 8, 8, 8, 8, 8, 8, 8, 8, 8, 8, 8, 8, 8, 8, 8, 8, 8, 8, 8, 8, 8, 8, 8, 8, 8, 8, 8, 8, 8, 8, 8, 8, 8, 8, 8, 8, 8, 8, 8, 8, 8, 8, 8, 8, 8, 8, 8, 8, 8, 8, 8, 8, 8, 8, 8, 8, 8, 8, 8, 8, 8, 8]⟩ : ByteArray) : Nat)) ∧ (K (upd (upd (upd (upd (upd (upd (upd (upd (upd e 2 (sI x2)) 0 (sV (.int .u64 x0))) 19 (sI x2)) 20 (sV (.int .u64 x0))) 21 (sV (.int .u8 (IntKind.wrap .u8 (x0))))) 22 (sV (.int .u8 (bt (⟨#[0, 1, 2, 2, 3, 3, 3, 3, 4, 4, 4, 4, 4, 4, 4, 4, 5, 5, 5, 5, 5, 5, 5, 5, 5, 5, 5, 5, 5, 5, 5, 5, 6, 6, 6, 6, 6, 6, 6, 6, 6, 6, 6, 6, 6, 6, 6, 6, 6, 6, 6, 6, 6, 6, 6, 6, 6, 6, 6, 6, 6, 6, 6, 6, 7, 7, 7, 7, 7, 7, 7, 7, 7, 7, 7, 7, 7, 7, 7, 7, 7, 7, 7, 7, 7, 7, 7, 7, 7, 7, 7, 7, 7, 7, 7, 7, 7, 7, 7, 7, 7, 7, 7, 7, 7, 7, 7, 7, 7, 7, 7, 7, 7, 7, 7, 7, 7, 7, 7, 7, 7, 7, 7, 7, 7, 7, 7, 7, 8, 8, 8, 8, 8, 8, 8, 8, 8, 8, 8, 8, 8, 8, 8, 8, 8, 8, 8, 8, 8, 8, 8, 8, 8, 8, 8, 8, 8, 8, 8, 8, 8, 8, 8, 8, 8, 8, 8, 8, 8, 8, 8, 8, 8, 8, 8, 8, 8, 8, 8, 8, 8, 8, 8, 8, 8, 8, 8, 8, 8, 8, 8, 8, 8, 8, 8, 8, 8, 8, 8, 8, 8, 8, 8, 8, 8, 8, 8, 8, 8, 8, 8, 8, 8, 8, 8, 8, 8, 8, 8, 8, 8, 8, 8, 8, 8, 8, 8, 8, 8, 8, 8, 8, 8, 8, 8, 8, 8, 8, 8, 8, 8, 8, 8, 8, 8, 8, 8, 8, 8, 8, 8, 8, 8, 8, 8, 8]⟩ : ByteArray) (IntKind.wrap .u8 (x0)))))) 23 (sI ((wr ((bt (⟨#[0, 1, 2, 2, 3, 3, 3, 3, 4, 4, 4, 4, 4, 4, 4, 4, 5, 5, 5, 5, 5, 5, 5, 5, 5, 5, 5, 5, 5, 5, 5, 5, 6, 6, 6, 6, 6, 6, 6, 6, 6, 6, 6, 6, 6, 6, 6, 6, 6, 6, 6, 6, 6, 6, 6, 6, 6, 6, 6, 6, 6, 6, 6, 6, 7, 7, 7, 7, 7, 7, 7, 7, 7, 7, 7, 7, 7, 7, 7, 7, 7, 7, 7, 7, 7, 7, 7, 7, 7, 7, 7, 7, 7, 7, 7, 7, 7, 7, 7, 7, 7, 7, 7, 7, 7, 7, 7, 7, 7, 7, 7, 7, 7, 7, 7, 7, 7, 7, 7, 7, 7, 7, 7, 7, 7, 7, 7, 7, 8, 8, 8, 8, 8, 8, 8, 8, 8, 8, 8, 8, 8, 8, 8, 8, 8, 8, 8, 8, 8, 8, 8, 8, 8, 8, 8, 8, 8, 8, 8, 8, 8, 8, 8, 8, 8, 8, 8, 8, 8, 8, 8, 8, 8, 8, 8, 8, 8, 8, 8, 8, 8, 8, 8, 8, 8, 8, 8, 8, 8, 8, 8, 8, 8, 8, 8, 8, 8, 8, 8, 8, 8, 8, 8, 8, 8, 8, 8, 8, 8, 8, 8, 8, 8, 8, 8, 8, 8, 8, 8, 8, 8, 8, 8, 8, 8, 8, 8, 8, 8, 8, 8, 8, 8, 8, 8, 8, 8, 8, 8, 8, 8, 8, 8, 8, 8, 8, 8, 8, 8, 8, 8, 8, 8, 8, 8, 8]⟩ : ByteArray) (IntKind.wrap .u8 (x0)))))))) 24 (sI ((wr (x2 + (wr ((bt (⟨#[0, 1, 2, 2, 3, 3, 3, 3, 4, 4, 4, 4, 4, 4, 4, 4, 5, 5, 5, 5, 5, 5, 5, 5, 5, 5, 5, 5, 5, 5, 5, 5, 6, 6, 6, 6, 6, 6, 6, 6, 6, 6, 6, 6, 6, 6, 6, 6, 6, 6, 6, 6, 6, 6, 6, 6, 6, 6, 6, 6, 6, 6, 6, 6, 7, 7, 7, 7, 7, 7, 7, 7, 7, 7, 7, 7, 7, 7, 7, 7, 7, 7, 7, 7, 7, 7, 7, 7, 7, 7, 7, 7, 7, 7, 7, 7, 7, 7, 7, 7, 7, 7, 7, 7, 7, 7, 7, 7, 7, 7, 7, 7, 7, 7, 7, 7, 7, 7, 7, 7, 7, 7, 7, 7, 7, 7, 7, 7, 8, 8, 8, 8, 8, 8, 8, 8, 8, 8, 8, 8, 8, 8, 8, 8, 8, 8, 8, 8, 8, 8, 8, 8, 8, 8, 8, 8, 8, 8, 8, 8, 8, 8, 8, 8, 8, 8, 8, 8, 8, 8, 8, 8, 8, 8, 8, 8, 8, 8, 8, 8, 8, 8, 8, 8, 8, 8, 8, 8, 8, 8, 8, 8, 8, 8, 8, 8, 8, 8, 8, 8, 8, 8, 8, 8, 8, 8, 8, 8, 8, 8, 8, 8, 8, 8, 8, 8, 8, 8, 8, 8, 8, 8, 8, 8, 8, 8, 8, 8, 8, 8, 8, 8, 8, 8, 8, 8, 8, 8, 8, 8, 8, 8, 8, 8, 8, 8, 8, 8, 8, 8, 8, 8, 8, 8, 8, 8]⟩ : ByteArray) (IntKind.wrap .u8 (x0)))))))))) 2 (sI ((wr (x2 + (wr ((bt (⟨#[0, 1, 2, 2, 3, 3, 3, 3, 4, 4, 4, 4, 4, 4, 4, 4, 5, 5, 5, 5, 5, 5, 5, 5, 5, 5, 5, 5, 5, 5, 5, 5, 6, 6, 6, 6, 6, 6, 6, 6, 6, 6, 6, 6, 6, 6, 6, 6, 6, 6, 6, 6, 6, 6, 6, 6, 6, 6, 6, 6, 6, 6, 6, 6, 7, 7, 7, 7, 7, 7, 7, 7, 7, 7, 7, 7, 7, 7, 7, 7, 7, 7, 7, 7, 7, 7, 7, 7, 7, 7, 7, 7, 7, 7, 7, 7, 7, 7, 7, 7, 7, 7, 7, 7, 7, 7, 7, 7, 7, 7, 7, 7, 7, 7, 7, 7, 7, 7, 7, 7, 7, 7, 7, 7, 7, 7, 7, 7, 8, 8, 8, 8, 8, 8, 8, 8, 8, 8, 8, 8, 8, 8, 8, 8, 8, 8, 8, 8, 8, 8, 8, 8, 8, 8, 8, 8, 8, 8, 8, 8, 8, 8, 8, 8, 8, 8, 8, 8, 8, 8, 8, 8, 8, 8, 8, 8, 8, 8, 8, 8, 8, 8, 8, 8, 8, 8, 8, 8, 8, 8, 8, 8, 8, 8, 8, 8, 8, 8, 8, 8, 8, 8, 8, 8, 8, 8, 8, 8, 8, 8, 8, 8, 8, 8, 8, 8, 8, 8, 8, 8, 8, 8, 8, 8, 8, 8, 8, 8, 8, 8, 8, 8, 8, 8, 8, 8, 8, 8, 8, 8, 8, 8, 8, 8, 8, 8, 8, 8, 8, 8, 8, 8, 8, 8, 8, 8]⟩ : ByteArray) (IntKind.wrap .u8 (x0)))))))))) V0 hp)) := by kernel_rfl
def F155_j3 (x0 : Int) (x2 : Int) (hp : HP) (K : Value → HP → Prop) : Prop :=
  ((0 ≤ ((IntKind.wrap .u8 (x0)) : Int)) ∧ (((IntKind.wrap .u8 (x0)) : Int) < (ByteArray.size (⟨#[0, 1, 2, 2, 3, 3, 3, 3, 4, 4, 4, 4, 4, 4, 4, 4, 5, 5, 5, 5, 5, 5, 5, 5, 5, 5, 5, 5, 5, 5, 5, 5, 6, 6, 6, 6, 6, 6, 6, 6, 6, 6, 6, 6, 6, 6, 6, 6, 6, 6, 6, 6, 6, 6, 6, 6, 6, 6, 6, 6, 6, 6, 6, 6, 7, 7, 7, 7, 7, 7, 7, 7, 7, 7, 7, 7, 7, 7, 7, 7, 7, 7, 7, 7, 7, 7, 7, 7, 7, 7, 7, 7, 7, 7, 7, 7, 7, 7, 7, 7, 7, 7, 7, 7, 7, 7, 7, 7, 7, 7, 7, 7, 7, 7, 7, 7, 7, 7, 7, 7, 7, 7, 7, 7, 7, 7, 7, 7, 8, 8, 8, 8, 8, 8, 8, 8, 8, 8, 8, 8, 8, 8, 8, 8, 8, 8, 8, 8, 8, 8, 8, 8, 8, 8, 8, 8, 8, 8, 8, 8, 8, 8, 8, 8, 8, 8, 8, 8, 8, 8, 8, 8, 8, 8, 8, 8, 8, 8, 8, 8, 8, 8, 8, 8, 8, 8, 8, 8, 8, 8, 8, 8, 8, 8, 8, 8, 8, 8, 8, 8, 8, 8, 8, 8, 8, 8, 8, 8, 8, 8, 8, 8, 8, 8, 8, 8, 8, 8, 8, 8, 8, 8, 8, 8, 8, 8, 8, 8, 8, 8, 8, 8, 8, 8, 8, 8, 8, 8, 8, 8, 8, 8, 8, 8, 8, 8, 8, 8, 8, 8, 8, 8, 8, 8, 8, 8]⟩ : ByteArray) : Nat)) ∧ (K (.int .i64 (IntKind.wrap .i64 (x2 + (IntKind.wrap .i64 ((bt (⟨#[0, 1, 2, 2, 3, 3, 3, 3, 4, 4, 4, 4, 4, 4, 4, 4, 5, 5, 5, 5, 5, 5, 5, 5, 5, 5, 5, 5, 5, 5, 5, 5, 6, 6, 6, 6, 6, 6, 6, 6, 6, 6, 6, 6, 6, 6, 6, 6, 6, 6, 6, 6, 6, 6, 6, 6, 6, 6, 6, 6, 6, 6, 6, 6, 7, 7, 7, 7, 7, 7, 7, 7, 7, 7, 7, 7, 7, 7, 7, 7, 7, 7, 7, 7, 7, 7, 7, 7, 7, 7, 7, 7, 7, 7, 7, 7, 7, 7, 7, 7, 7, 7, 7, 7, 7, 7, 7, 7, 7, 7, 7, 7, 7, 7, 7, 7, 7, 7, 7, 7, 7, 7, 7, 7, 7, 7, 7, 7, 8, 8, 8, 8, 8, 8, 8, 8, 8, 8, 8, 8, 8, 8, 8, 8, 8, 8, 8, 8, 8, 8, 8, 8, 8, 8, 8, 8, 8, 8, 8, 8, 8, 8, 8, 8, 8, 8, 8, 8, 8, 8, 8, 8, 8, 8, 8, 8, 8, 8, 8, 8, 8, 8, 8, 8, 8, 8, 8, 8, 8, 8, 8, 8, 8, 8, 8, 8, 8, 8, 8, 8, 8, 8, 8, 8, 8, 8, 8, 8, 8, 8, 8, 8, 8, 8, 8, 8, 8, 8, 8, 8, 8, 8, 8, 8, 8, 8, 8, 8, 8, 8, 8, 8, 8, 8, 8, 8, 8, 8, 8, 8, 8, 8, 8, 8, 8, 8, 8, 8, 8, 8, 8, 8, 8, 8, 8, 8]⟩ : ByteArray) (IntKind.wrap .u8 (x0)))))))) hp))
theorem F155_r2 : R155 [1, 1, 1, 0, 0] 2 (upd e 0 (sV (.int .u64 x0))) V0 hp K =
    (K (upd (upd (upd e 0 (sV (.int .u64 x0))) 13 (sV (.int .u64 x0))) 14 (sB (decide (x0 ≥ 256)))) V0 hp) := by kernel_rfl
theorem F155_r3 : R155 [1, 1, 1, 0, 1, 0, 0] 3 (upd e 0 (sV (.int .u64 x0))) V0 hp K =
    ((0 ≤ (8 : Int)) ∧ (K (upd (upd (upd (upd e 0 (sV (.int .u64 x0))) 15 (sV (.int .u64 x0))) 16 (sV (.int .u64 (Int.fdiv x0 (2 ^ (min (Int.toNat 8) (IntKind.bits .u64))))))) 0 (sV (.int .u64 (Int.fdiv x0 (2 ^ (min (Int.toNat 8) (IntKind.bits .u64))))))) V0 hp)) := by kernel_rfl
theorem F155_r4 : R155 [1, 1, 1, 0, 1, 0, 1] 3 (upd e 2 (sI x2)) V0 hp K =
    (K (upd (upd (upd (upd e 2 (sI x2)) 17 (sI x2)) 18 (sI ((wr (x2 + 8))))) 2 (sI ((wr (x2 + 8))))) V0 hp) := by kernel_rfl
def F155_j2 (x0 : Int) (x2 : Int) (hp : HP) (K : Value → HP → Prop) : Prop :=
  (ite2 (decide (x0 ≥ 256)) ((0 ≤ (8 : Int)) ∧ (F155_j3 (Int.fdiv x0 (2 ^ (min (Int.toNat 8) (IntKind.bits .u64)))) (IntKind.wrap .i64 (x2 + 8)) hp  K)) (F155_j3 x0 x2 hp  K))
theorem F155_r5 : R155 [1, 1, 0, 0] 2 (upd e 0 (sV (.int .u64 x0))) V0 hp K =
    (K (upd (upd (upd e 0 (sV (.int .u64 x0))) 7 (sV (.int .u64 x0))) 8 (sB (decide (x0 ≥ 65536)))) V0 hp) := by kernel_rfl
theorem F155_r6 : R155 [1, 1, 0, 1, 0, 0] 3 (upd e 0 (sV (.int .u64 x0))) V0 hp K =
    ((0 ≤ (16 : Int)) ∧ (K (upd (upd (upd (upd e 0 (sV (.int .u64 x0))) 9 (sV (.int .u64 x0))) 10 (sV (.int .u64 (Int.fdiv x0 (2 ^ (min (Int.toNat 16) (IntKind.bits .u64))))))) 0 (sV (.int .u64 (Int.fdiv x0 (2 ^ (min (Int.toNat 16) (IntKind.bits .u64))))))) V0 hp)) := by kernel_rfl
theorem F155_r7 : R155 [1, 1, 0, 1, 0, 1] 3 (upd e 2 (sI x2)) V0 hp K =
    (K (upd (upd (upd (upd e 2 (sI x2)) 11 (sI x2)) 12 (sI ((wr (x2 + 16))))) 2 (sI ((wr (x2 + 16))))) V0 hp) := by kernel_rfl
def F155_j1 (x0 : Int) (x2 : Int) (hp : HP) (K : Value → HP → Prop) : Prop :=
  (ite2 (decide (x0 ≥ 65536)) ((0 ≤ (16 : Int)) ∧ (F155_j2 (Int.fdiv x0 (2 ^ (min (Int.toNat 16) (IntKind.bits .u64)))) (IntKind.wrap .i64 (x2 + 16)) hp  K)) (F155_j2 x0 x2 hp  K))
theorem F155_r8 : R155 [1, 0, 0] 2 (upd e 0 (sV (.int .u64 x0))) V0 hp K =
    (K (upd (upd (upd e 0 (sV (.int .u64 x0))) 3 (sV (.int .u64 x0))) 4 (sB (decide (x0 ≥ 4294967296)))) V0 hp) := by kernel_rfl
theorem F155_r9 : R155 [1, 0, 1, 0, 0] 3 (upd e 0 (sV (.int .u64 x0))) V0 hp K =
    ((0 ≤ (32 : Int)) ∧ (K (upd (upd (upd (upd e 0 (sV (.int .u64 x0))) 5 (sV (.int .u64 x0))) 6 (sV (.int .u64 (Int.fdiv x0 (2 ^ (min (Int.toNat 32) (IntKind.bits .u64))))))) 0 (sV (.int .u64 (Int.fdiv x0 (2 ^ (min (Int.toNat 32) (IntKind.bits .u64))))))) V0 hp)) := by kernel_rfl
theorem F155_r10 : R155 [1, 0, 1, 0, 1] 1 e V0 hp K =
    (K (upd e 2 (sI 32)) V0 hp) := by kernel_rfl
def F155 (x0 : Int) (hp : HP) (K : Value → HP → Prop) : Prop :=
  (ite2 (decide (x0 ≥ 4294967296)) ((0 ≤ (32 : Int)) ∧ (F155_j1 (Int.fdiv x0 (2 ^ (min (Int.toNat 32) (IntKind.bits .u64)))) 32 hp  K)) (F155_j1 x0 0 hp  K))
noncomputable def F155_code : Code := (.seq (.region 0 (opsAt Try.f155 [0]) false) (.seq (.seq (.region 1 (opsAt Try.f155 [1, 0, 0]) false) (.cond (.tmp 4) (.seq (.region 2 (opsAt Try.f155 [1, 0, 1, 0, 0]) false) (.region 3 (opsAt Try.f155 [1, 0, 1, 0, 1]) false)) .skip)) (.seq (.seq (.region 4 (opsAt Try.f155 [1, 1, 0, 0]) false) (.cond (.tmp 8) (.seq (.region 5 (opsAt Try.f155 [1, 1, 0, 1, 0, 0]) false) (.region 6 (opsAt Try.f155 [1, 1, 0, 1, 0, 1]) false)) .skip)) (.seq (.seq (.region 7 (opsAt Try.f155 [1, 1, 1, 0, 0]) false) (.cond (.tmp 14) (.seq (.region 8 (opsAt Try.f155 [1, 1, 1, 0, 1, 0, 0]) false) (.region 9 (opsAt Try.f155 [1, 1, 1, 0, 1, 0, 1]) false)) .skip)) (.seq (.region 10 (opsAt Try.f155 [1, 1, 1, 1, 0]) false) .ret)))))
theorem F155_body : Try.f155.body = some F155_code := by kernel_rfl
theorem F155_ok (x0 : Int) (hp : HP) (K : Value → HP → Prop) (h : F155 x0 hp K) : CF Try.prog 155 [(.int .u64 x0)] hp K := by
 refine .inl ⟨by kernel_rfl, AC.intro (N := 25) Try.func155 F155_body rfl (Nat.le_of_ble_eq_true rfl) ?_⟩
 unfold F155 at h
 unfold F155_code
 refine AWP.seq' ?_
 refine AWP.rgn (F155_r0 (upd E0 0 (sV (.int .u64 x0)))  hp _) ?_ (Ru 0 Rn) (Sc rfl Sn) Sn
 refine AWP.seq (fun env pv hp => ∃ (x0 : Int) (x2 : Int), Sub (upd (upd E0 2 (sI x2)) 0 (sV (.int .u64 x0))) env ∧ Sub V0 pv ∧ (F155_j1 x0 x2 hp  K)) ?_ ?_
 ·refine AWP.seq' ?_
  refine AWP.rgn (F155_r8 (upd E0 2 (sI 0)) x0 hp _) ?_ (Ru 0 (Ru 2 Rn)) (Sc rfl (Sc rfl Sn)) Sn
  refine AWP.cond (t := (decide (x0 ≥ 4294967296))) rfl (fun e => ?_) (fun e => ?_)
  ·replace h := ite2_t h e
   refine AWP.seq' ?_
   refine AWP.rgn (F155_r9 E0 x0 hp _) ?_ (Ru 0 Rn) (Sc rfl Sn) Sn
   refine ⟨h.1, ?_⟩
   replace h := h.2
   refine AWP.rgn (F155_r10 (upd E0 0 (sV (.int .u64 (Int.fdiv x0 (2 ^ (min (Int.toNat 32) (IntKind.bits .u64)))))))  hp _) ?_ (Ru 0 Rn) (Sc rfl Sn) Sn
   exact ⟨(Int.fdiv x0 (2 ^ (min (Int.toNat 32) (IntKind.bits .u64)))), 32, (Sc rfl (Sc rfl Sn)), Sn, h⟩
  ·replace h := ite2_f h e
   refine AWP.skip ?_
   exact ⟨x0, 0, (Sc rfl (Sc rfl Sn)), Sn, h⟩
 ·rintro env pv hp ⟨x0, x2, he, hv, h⟩
  refine AWP.sub (env' := (upd (upd E0 2 (sI x2)) 0 (sV (.int .u64 x0)))) (pv' := V0) ?_ (Ru 0 (Ru 2 Rn)) he hv (HSub.refl _)
  clear he hv
  unfold F155_j1 at h
  refine AWP.seq (fun env pv hp => ∃ (x0 : Int) (x2 : Int), Sub (upd (upd E0 2 (sI x2)) 0 (sV (.int .u64 x0))) env ∧ Sub V0 pv ∧ (F155_j2 x0 x2 hp  K)) ?_ ?_
  ·refine AWP.seq' ?_
   refine AWP.rgn (F155_r5 (upd E0 2 (sI x2)) x0 hp _) ?_ (Ru 0 (Ru 2 Rn)) (Sc rfl (Sc rfl Sn)) Sn
   refine AWP.cond (t := (decide (x0 ≥ 65536))) rfl (fun e => ?_) (fun e => ?_)
   ·replace h := ite2_t h e
    refine AWP.seq' ?_
    refine AWP.rgn (F155_r6 (upd E0 2 (sI x2)) x0 hp _) ?_ (Ru 0 (Ru 2 Rn)) (Sc rfl (Sc rfl Sn)) Sn
    refine ⟨h.1, ?_⟩
    replace h := h.2
    refine AWP.rgn (F155_r7 (upd E0 0 (sV (.int .u64 (Int.fdiv x0 (2 ^ (min (Int.toNat 16) (IntKind.bits .u64))))))) x2 hp _) ?_ (Ru 2 (Ru 0 Rn)) (Sc rfl (Sc rfl Sn)) Sn
    exact ⟨(Int.fdiv x0 (2 ^ (min (Int.toNat 16) (IntKind.bits .u64)))), (wr (x2 + 16)), (Sc rfl (Sc rfl Sn)), Sn, h⟩
   ·replace h := ite2_f h e
    refine AWP.skip ?_
    exact ⟨x0, x2, (Sc rfl (Sc rfl Sn)), Sn, h⟩
  ·rintro env pv hp ⟨x0, x2, he, hv, h⟩
   refine AWP.sub (env' := (upd (upd E0 2 (sI x2)) 0 (sV (.int .u64 x0)))) (pv' := V0) ?_ (Ru 0 (Ru 2 Rn)) he hv (HSub.refl _)
   clear he hv
   unfold F155_j2 at h
   refine AWP.seq (fun env pv hp => ∃ (x0 : Int) (x2 : Int), Sub (upd (upd E0 2 (sI x2)) 0 (sV (.int .u64 x0))) env ∧ Sub V0 pv ∧ (F155_j3 x0 x2 hp  K)) ?_ ?_
   ·refine AWP.seq' ?_
    refine AWP.rgn (F155_r2 (upd E0 2 (sI x2)) x0 hp _) ?_ (Ru 0 (Ru 2 Rn)) (Sc rfl (Sc rfl Sn)) Sn
    refine AWP.cond (t := (decide (x0 ≥ 256))) rfl (fun e => ?_) (fun e => ?_)
    ·replace h := ite2_t h e
     refine AWP.seq' ?_
     refine AWP.rgn (F155_r3 (upd E0 2 (sI x2)) x0 hp _) ?_ (Ru 0 (Ru 2 Rn)) (Sc rfl (Sc rfl Sn)) Sn
     refine ⟨h.1, ?_⟩
     replace h := h.2
     refine AWP.rgn (F155_r4 (upd E0 0 (sV (.int .u64 (Int.fdiv x0 (2 ^ (min (Int.toNat 8) (IntKind.bits .u64))))))) x2 hp _) ?_ (Ru 2 (Ru 0 Rn)) (Sc rfl (Sc rfl Sn)) Sn
     exact ⟨(Int.fdiv x0 (2 ^ (min (Int.toNat 8) (IntKind.bits .u64)))), (wr (x2 + 8)), (Sc rfl (Sc rfl Sn)), Sn, h⟩
    ·replace h := ite2_f h e
     refine AWP.skip ?_
     exact ⟨x0, x2, (Sc rfl (Sc rfl Sn)), Sn, h⟩
   ·rintro env pv hp ⟨x0, x2, he, hv, h⟩
    refine AWP.sub (env' := (upd (upd E0 2 (sI x2)) 0 (sV (.int .u64 x0)))) (pv' := V0) ?_ (Ru 0 (Ru 2 Rn)) he hv (HSub.refl _)
    clear he hv
    unfold F155_j3 at h
    refine AWP.seq' ?_
    refine AWP.rgn (F155_r1 E0 x0 x2 hp _) ?_ (Ru 0 (Ru 2 Rn)) (Sc rfl (Sc rfl Sn)) Sn
    refine ⟨h.1, h.2.1, ?_⟩
    replace h := h.2.2
    refine AWP.ret ?_
    exact h
end
end Go.Proofs

set_option linter.unusedVariables false
set_option maxRecDepth 20000
namespace Go.Proofs
open Go Go.HL

def lenTab : ByteArray := ⟨#[0, 1, 2, 2, 3, 3, 3, 3, 4, 4, 4, 4, 4, 4, 4, 4, 5, 5, 5, 5, 5, 5, 5, 5, 5, 5, 5, 5, 5, 5, 5, 5, 6, 6, 6, 6, 6, 6, 6, 6, 6, 6, 6, 6, 6, 6, 6, 6, 6, 6, 6, 6, 6, 6, 6, 6, 6, 6, 6, 6, 6, 6, 6, 6, 7, 7, 7, 7, 7, 7, 7, 7, 7, 7, 7, 7, 7, 7, 7, 7, 7, 7, 7, 7, 7, 7, 7, 7, 7, 7, 7, 7, 7, 7, 7, 7, 7, 7, 7, 7, 7, 7, 7, 7, 7, 7, 7, 7, 7, 7, 7, 7, 7, 7, 7, 7, 7, 7, 7, 7, 7, 7, 7, 7, 7, 7, 7, 7, 8, 8, 8, 8, 8, 8, 8, 8, 8, 8, 8, 8, 8, 8, 8, 8, 8, 8, 8, 8, 8, 8, 8, 8, 8, 8, 8, 8, 8, 8, 8, 8, 8, 8, 8, 8, 8, 8, 8, 8, 8, 8, 8, 8, 8, 8, 8, 8, 8, 8, 8, 8, 8, 8, 8, 8, 8, 8, 8, 8, 8, 8, 8, 8, 8, 8, 8, 8, 8, 8, 8, 8, 8, 8, 8, 8, 8, 8, 8, 8, 8, 8, 8, 8, 8, 8, 8, 8, 8, 8, 8, 8, 8, 8, 8, 8, 8, 8, 8, 8, 8, 8, 8, 8, 8, 8, 8, 8, 8, 8, 8, 8, 8, 8, 8, 8, 8, 8, 8, 8, 8, 8, 8, 8, 8, 8, 8, 8]⟩
theorem len_tab : ∀ y : Fin 256, bt lenTab (y.val : Int) = (Sort.bitsLen y.val : Nat) := by decide +kernel
theorem lenTab_size : lenTab.size = 256 := by kernel_rfl

theorem C155 {n : Nat} {hp : HP} {K : Value → HP → Prop} (hn : n ≤ 65535) (h : ∀ L : Nat, L ≤ 16 → n < 2 ^ L → (0 < n → 2 ^ L ≤ 2 * n) → K (.int .i64 L) hp) : CF Try.prog 155 [.int .u64 n] hp K := by
  refine F155_ok n hp K ?_
  have tail : ∀ (y o : Nat), y < 256 → o ≤ 8 → n < 2 ^ (o + Sort.bitsLen y) → (0 < n → 2 ^ (o + Sort.bitsLen y) ≤ 2 * n) → F155_j3 y o hp K := by
    intro y o hy ho h1 h2
    unfold F155_j3
    change (0 ≤ (IntKind.wrap .u8 (y : Int))) ∧ ((IntKind.wrap .u8 (y : Int)) < (ByteArray.size lenTab : Nat)) ∧ K (Value.int .i64 (IntKind.wrap .i64 ((o : Int) + IntKind.wrap .i64 (bt lenTab (IntKind.wrap .u8 (y : Int)))))) hp
    rw [wu8 (by omega) (by omega), lenTab_size]
    have := len_tab ⟨y, hy⟩
    simp only at this
    rw [this]
    have hb : Sort.bitsLen y ≤ 8 := (Sort.bitsLen_le_iff y 8).2 (by omega)
    rw [w64 (n := ((Sort.bitsLen y : Nat) : Int)) (by omega) (by omega), w64 (by omega) (by omega)]
    refine ⟨by omega, by omega, ?_⟩
    have e : (o : Int) + (Sort.bitsLen y : Nat) = ((o + Sort.bitsLen y : Nat) : Int) := by omega
    rw [e]
    exact h _ (by omega) h1 h2
  unfold F155
  rw [decide_eq_false (by omega : ¬ (n : Int) ≥ 4294967296), ite2_false]
  unfold F155_j1
  rw [decide_eq_false (by omega : ¬ (n : Int) ≥ 65536), ite2_false]
  unfold F155_j2
  by_cases h8 : n ≥ 256
  · rw [decide_eq_true (by omega : (n : Int) ≥ 256), ite2_true]
    refine ⟨by omega, ?_⟩
    have e1 : Int.fdiv (n : Int) (2 ^ (min (Int.toNat 8) (IntKind.bits .u64))) = ((n / 256 : Nat) : Int) := by
      show Int.fdiv (n : Int) 256 = _
      rw [Int.fdiv_eq_ediv_of_nonneg _ (by omega)]; omega
    have e2 : IntKind.wrap .i64 ((0 : Int) + 8) = ((8 : Nat) : Int) := by rw [w64 (by omega) (by omega)]; rfl
    rw [e1, e2]
    have ha := Sort.lt_two_pow_bitsLen (n / 256)
    have hb := Sort.two_pow_bitsLen_le (n := n / 256) (by omega)
    have hp : 2 ^ (8 + Sort.bitsLen (n / 256)) = 256 * 2 ^ Sort.bitsLen (n / 256) := by rw [Nat.pow_add]
    refine tail _ 8 (by omega) (by omega) (by rw [hp]; omega) (fun _ => by rw [hp]; omega)
  · rw [decide_eq_false (by omega : ¬ (n : Int) ≥ 256), ite2_false]
    refine tail n 0 (by omega) (by omega) ?_ ?_
    · rw [Nat.zero_add]; exact Sort.lt_two_pow_bitsLen n
    · intro h0; rw [Nat.zero_add]; exact Sort.two_pow_bitsLen_le h0

theorem C129 {n : Nat} {hp : HP} {K : Value → HP → Prop} (hn : n ≤ 65535) (h : ∀ L : Nat, L ≤ 16 → n < 2 ^ L → (0 < n → 2 ^ L ≤ 2 * n) → K (.int .i64 L) hp) : CF Try.prog 129 [.int .u64 n] hp K := by
  refine F129_ok n hp K ?_
  unfold F129
  refine C155 hn fun L h1 h2 h3 => ?_
  rw [intV_int]
  exact h L h1 h2 h3

end Go.Proofs

set_option linter.unusedVariables false
set_option maxRecDepth 20000
namespace Go.Proofs
open Go Go.HL

section
variable {f : FuncId} {ga gb : List Value} {hp0 : HP} {b sp n c : Nat} {T : Type} [Inhabited T] {en : T → ByteArray} {cf : T → T → Int}

end
end Go.Proofs

set_option linter.unusedVariables false
set_option maxRecDepth 20000
namespace Go.Proofs
open Go Go.HL

section
variable {f : FuncId} {ga gb : List Value} {hp0 : HP} {b sp n c : Nat} {T : Type} [Inhabited T] {en : T → ByteArray} {cf : T → T → Int}

end

end Go.Proofs

set_option linter.unusedVariables false
set_option maxRecDepth 20000
namespace Go.Proofs
open Go Go.HL

abbrev KD := ByteArray × Dg
/-- A datagram that is there. -/
abbrev KT (D : List KD) := {x : KD // x ∈ D ∨ D = []}
theorem KT.inh (D : List KD) : Nonempty (KT D) := by
  cases D with
  | nil => exact ⟨⟨(e0s, ⟨0, 0, 0, 0, 0, []⟩), .inr rfl⟩⟩
  | cons a l => exact ⟨⟨a, .inl (by simp)⟩⟩
noncomputable instance KT.inhabited {D : List KD} : Inhabited (KT D) := Classical.inhabited_of_nonempty (KT.inh D)
def KT.key {D : List KD} (x : KT D) : ByteArray := x.1.1

theorem perm_ofm {α β : Type} {f : α → β} (hf : ∀ a b, f a = f b → a = b) : ∀ {l l' : List α}, (l.map f).Perm (l'.map f) → l.Perm l'
  | [], l', h => by
    have := h.length_eq
    simp at this
    rw [List.eq_nil_of_length_eq_zero this.symm]
  | a :: l, l', h => by
    classical
    have hm : f a ∈ l'.map f := h.mem_iff.1 (by simp)
    obtain ⟨a', ha', e⟩ := List.mem_map.1 hm
    have := hf _ _ e
    subst this
    have hp := List.perm_cons_erase ha'
    refine List.Perm.trans ?_ hp.symm
    refine List.Perm.cons _ (perm_ofm hf ?_)
    have h2 := h.trans (hp.map f)
    simp only [List.map_cons] at h2
    exact h2.cons_inv
theorem nodup_of_map {α β : Type} (f : α → β) {l : List α} (h : (l.map f).Nodup) : l.Nodup := (List.pairwise_map.1 h).imp fun h e => h (by rw [e])
section
variable {hp0 hp : HP} {q m mo : Nat} {S : Stt} {K : Value → HP → Prop}

/-- By when they are due, then by number. -/
def cfDue (x y : KD) : Int := if cmpN x.2.due y.2.due ≠ 0 then cmpN x.2.due y.2.due else cmpN x.2.id y.2.id
theorem cfDue_lt {a b : KD} : ltC cfDue a b = true ↔ a.2.due < b.2.due ∨ (a.2.due = b.2.due ∧ a.2.id < b.2.id) := by
  unfold ltC cfDue cmpN
  rw [decide_eq_true_iff]
  repeat' split
  all_goals omega
theorem cfDue_ltf {a b : KD} : ltC cfDue a b = false ↔ ¬ (a.2.due < b.2.due ∨ (a.2.due = b.2.due ∧ a.2.id < b.2.id)) := by rw [← cfDue_lt]; simp
/-- What is left when those that are due are gone. -/
def popS (S : Stt) (now : Int) (kds : List KD) : Stt := kds.foldl (fun S x => if x.2.due ≤ now then cutS S x.1 x.2 else S) S
/-- What is told of them. -/
def toldQ (now : Int) (kds : List KD) : List (List Value) := (kds.filter fun x => decide (x.2.due ≤ now)).map fun x => wh x.1 (headQ x.2.l) e0s x.2.l.length

theorem getL_foldl_cut {now : Int} : ∀ {kds : List KD} {S : Stt} {k : ByteArray}, (S.D.map (·.1)).Nodup → k ∉ kds.map (·.1) → getL k (popS S now kds).D = getL k S.D
  | [], _, _, _, _ => rfl
  | x :: l, S, k, hn, h => by
    simp only [List.map_cons, List.mem_cons, not_or] at h
    unfold popS
    rw [List.foldl_cons]
    by_cases hx : x.2.due ≤ now
    · rw [if_pos hx]
      have := getL_foldl_cut (now := now) (kds := l) (S := cutS S x.1 x.2) (k := k) (by unfold cutS; exact nodup_del hn) h.2
      unfold popS at this
      rw [this]
      unfold cutS
      simp only [getL_del hn, h.1, if_false]
    · rw [if_neg hx]
      have := getL_foldl_cut (now := now) (kds := l) (S := S) (k := k) hn h.2
      unfold popS at this
      exact this


/-! What lies beside the store. -/
theorem StR.weak {h0 R : HP} (h : StR R hp q m mo S) (hs : HSub h0 R) : StR h0 hp q m mo S := by
  obtain ⟨a1, a2, a3, a4, a5, a6, a7, a8, a9, r⟩ := h
  exact ⟨hs.trans a1, hs.none a2, hs.none a3, hs.none a4, a5, a6, a7, a8, fun kd hkd => ⟨(a9 kd hkd).1, hs.none (a9 kd hkd).2.1, hs.none (a9 kd hkd).2.2⟩, r⟩
/-- A block beside the store is forgotten. -/
theorem StR.cut {R : HP} {ob : Nat} {e : Ent} (h : StR (R.set ob e) hp q m mo S) (he : e ≠ .none) (hR : R ob = .none) : StR R (hp.set ob .none) q m mo S := by
  obtain ⟨a1, a2, a3, a4, a5, a6, a7, a8, a9, r⟩ := h
  have ne : ∀ x, (R.set ob e) x = .none → x ≠ ob := fun x hx e' => he (by rw [e', HP.set_eq] at hx; exact hx)
  have sub : HSub R (R.set ob e) := HSub.set_fresh R e hR
  refine ⟨fun x => ?_, sub.none a2, sub.none a3, sub.none a4, a5, ?_, ?_, ?_, fun kd hkd => ⟨?_, sub.none (a9 kd hkd).2.1, sub.none (a9 kd hkd).2.2⟩, r⟩
  · by_cases hx : x = ob
    · subst hx; exact .inl hR
    · rw [HP.set_ne _ _ hx]; exact (sub.trans a1) x
  · rw [HP.set_ne _ _ (ne q a2)]; exact a6
  · rw [HP.set_ne _ _ (ne m a3)]; exact a7
  · rw [HP.set_ne _ _ (ne mo a4)]; exact a8
  · exact (a9 kd hkd).1.ne (ne _ (a9 kd hkd).2.1).symm (ne _ (a9 kd hkd).2.2).symm
/-- A new block lies beside the store. -/
theorem StR.add {R hp' : HP} {ob : Nat} {e : Ent} (h : StR R hp q m mo S) (hn : hp ob = .none) (hs : HSub hp hp') (hb : hp' ob = e) : StR (R.set ob e) hp' q m mo S := by
  have h' := h.sub hs
  obtain ⟨a1, a2, a3, a4, a5, a6, a7, a8, a9, r⟩ := h
  obtain ⟨b1, b2, b3, b4, b5, b6, b7, b8, b9, _⟩ := h'
  obtain ⟨o1, e1⟩ := mapE_obj a7
  obtain ⟨o2, e2⟩ := mapE_obj a8
  have ne : ∀ {x y}, hp x = y → y ≠ .none → x ≠ ob := fun hx hy e' => hy (by rw [← hx, e', hn])
  have off : ∀ {x}, R x = .none → x ≠ ob → (R.set ob e) x = .none := fun hx hne => by rw [HP.set_ne _ _ hne]; exact hx
  refine ⟨b1.set_of hb, off a2 (ne a6 (by simp)), off a3 (ne e1 (by simp)), off a4 (ne e2 (by simp)), a5, b6, b7, b8, fun kd hkd => ⟨(b9 kd hkd).1, ?_, ?_⟩, r⟩
  · obtain ⟨⟨_, c, _, g2, g3⟩, z1, z2⟩ := a9 kd hkd
    exact off z1 (ne g2 (by simp))
  · obtain ⟨⟨_, c, _, g2, g3⟩, z1, z2⟩ := a9 kd hkd
    exact off z2 (ne g3 (by simp))

/-- What is known beside, and a row. -/
def outH (R : HP) (e : TypeId) (size : Nat) (s : Option Addr) (n c : Nat) (xs : List Value) : HP := match s with
  | none => R
  | some a => R.set a.block (.cells e xs ((c - n) * size))
/-- A row beside the store. -/
def Bes (R hp : HP) (q m mo : Nat) (S : Stt) (e : TypeId) (size : Nat) (s : Option Addr) (n c : Nat) (xs : List Value) : Prop :=
  (∀ b, s = some ⟨b, 0, none⟩ → R b = .none) ∧ Row (outH R e size s n c xs) s n c e size xs ∧ StR (outH R e size s n c xs) hp q m mo S
theorem Bes.row {R : HP} {e : TypeId} {size : Nat} {s : Option Addr} {n c : Nat} {xs : List Value} (h : Bes R hp q m mo S e size s n c xs) : Row hp s n c e size xs := h.2.1.sub h.2.2.1
theorem Bes.st {R : HP} {e : TypeId} {size : Nat} {s : Option Addr} {n c : Nat} {xs : List Value} (h : Bes R hp q m mo S e size s n c xs) : StR R hp q m mo S := by
  obtain ⟨h1, h2, h3⟩ := h
  rcases h2 with ⟨rfl, _⟩ | ⟨b, rfl, _⟩
  · exact h3
  · exact h3.weak (HSub.set_fresh R _ (h1 b rfl))
theorem Bes.stp {R hp' : HP} {S' : Stt} {e : TypeId} {size : Nat} {s : Option Addr} {n c : Nat} {xs : List Value} (h : Bes R hp q m mo S e size s n c xs) (hs : Stp q m mo hp S hp' S') : Bes R hp' q m mo S' e size s n c xs := ⟨h.1, h.2.1, hs _ h.2.2⟩
theorem Bes.sub {R hp' : HP} {e : TypeId} {size : Nat} {s : Option Addr} {n c : Nat} {xs : List Value} (h : Bes R hp q m mo S e size s n c xs) (hs : HSub hp hp') : Bes R hp' q m mo S e size s n c xs := ⟨h.1, h.2.1, h.2.2.sub hs⟩
theorem Bes.nil {R : HP} {e : TypeId} {size : Nat} (h : StR R hp q m mo S) : Bes R hp q m mo S e size none 0 0 [] := ⟨fun b e => (by cases e), .inl ⟨rfl, rfl, rfl, rfl⟩, h⟩
end
end Go.Proofs

set_option linter.unusedVariables false
set_option maxRecDepth 20000
namespace Go.Proofs
open Go Go.HL

instance memB (a : ByteArray) (l : List ByteArray) : Decidable (a ∈ l) := decidable_of_iff (l.any fun k => decide (a = k)) (by simp)
/-- All pieces. -/
def allP (D : List KD) : List Pc := D.flatMap fun x => x.2.l
def cntP (src : ByteArray) (l : List Pc) : Nat := l.countP fun p => decide (p.src = src)

theorem cnt_perm {src : ByteArray} {a b : List Pc} (h : a.Perm b) : cntP src a = cntP src b := h.countP_eq _
theorem cnt_app {src : ByteArray} {a b : List Pc} : cntP src (a ++ b) = cntP src a + cntP src b := List.countP_append
theorem cnt_le {src : ByteArray} {a : List Pc} : cntP src a ≤ a.length := List.countP_le_length

theorem all_del {key : ByteArray} {d : Dg} : ∀ {D : List KD}, getL key D = some d → (allP D).Perm (d.l ++ allP (delL key D))
  | [], h => by cases h
  | x :: D, h => by
    simp only [getL] at h
    by_cases hk : key = x.1
    · simp only [hk, if_true, Option.some.injEq] at h
      simp only [delL, hk, if_true, allP, List.flatMap_cons, h]
      exact List.Perm.refl _
    · simp only [hk, if_false] at h
      simp only [delL, hk, if_false, allP, List.flatMap_cons]
      have := all_del h
      unfold allP at this
      refine (this.append_left x.2.l).trans ?_
      rw [← List.append_assoc, ← List.append_assoc]
      exact List.perm_append_comm.append_right _
theorem all_put {key : ByteArray} {d d' : Dg} : ∀ {D : List KD}, getL key D = some d → (allP (putL key d' D)).Perm (d'.l ++ allP (delL key D))
  | [], h => by cases h
  | x :: D, h => by
    simp only [getL] at h
    by_cases hk : key = x.1
    · simp only [delL, putL, hk, if_true, allP, List.flatMap_cons]
      exact List.Perm.refl _
    · simp only [hk, if_false] at h
      simp only [delL, putL, hk, if_false, allP, List.flatMap_cons]
      have := all_put (d' := d') h
      unfold allP at this
      refine (this.append_left x.2.l).trans ?_
      rw [← List.append_assoc, ← List.append_assoc]
      exact List.perm_append_comm.append_right _
theorem all_new {key : ByteArray} {d' : Dg} {D : List KD} (h : getL key D = none) : allP (putL key d' D) = allP D ++ d'.l := by
  rw [put_new h]; unfold allP; rw [List.flatMap_append]; simp
theorem mem_put' {k : ByteArray} {v : Dg} {l : List KD} {x : KD} (hn : (l.map (·.1)).Nodup) (h : x ∈ putL k v l) : x = (k, v) ∨ (x ∈ l ∧ x.1 ≠ k) := mem_put hn h
theorem mem_del {k : ByteArray} {l : List KD} {x : KD} (hn : (l.map (·.1)).Nodup) (h : x ∈ delL k l) : x ∈ l ∧ x.1 ≠ k := by
  refine ⟨(del_sub k l).subset h, fun e => ?_⟩
  have h1 : getL x.1 (delL k l) = some x.2 := getL_of_mem (nodup_del hn) h
  rw [getL_del hn, if_pos e] at h1
  cases h1

theorem cutN_eq : ∀ (k : Nat) (n : Int), (k : Int) ≤ n → n ≤ 1000000000 → cutN k n = n - k
  | 0, n, _, _ => by simp [cutN]
  | k + 1, n, h, h2 => by
    rw [cutN, w64 (by omega) (by omega), cutN_eq k _ (by omega) (by omega)]; omega

theorem cutOf_eq : ∀ (l : List Pc) (of : List (ByteArray × Int)) (c : ByteArray → Nat), (of.map (·.1)).Nodup → (∀ s, (getL s of).getD 0 = (c s : Int)) → (∀ s, cntP s l ≤ c s) → (∀ s, c s ≤ 1000000000) →
    ((cutOf l of).map (·.1)).Nodup ∧ ∀ s, (getL s (cutOf l of)).getD 0 = ((c s - cntP s l : Nat) : Int)
  | [], of, c, hn, h, _, _ => ⟨hn, fun s => by rw [cutOf, h]; simp [cntP]⟩
  | p :: l, of, c, hn, h, hc, hb => by
    have hp := hc p.src
    have h1 : ∀ s, cntP s (p :: l) = cntP s l + if p.src = s then 1 else 0 := fun s => by
      unfold cntP; rw [List.countP_cons]; simp
    have hp1 : 1 ≤ c p.src := by rw [h1, if_pos rfl] at hp; omega
    have hbb := hb p.src
    have hw : IntKind.wrap .i64 ((getL p.src of).getD 0 - 1) = ((c p.src - 1 : Nat) : Int) := by rw [h, w64 (by omega) (by omega)]; omega
    rw [cutOf, hw]
    have key : ∀ of' : List (ByteArray × Int), (of'.map (·.1)).Nodup → (∀ s, (getL s of').getD 0 = ((if s = p.src then c p.src - 1 else c s : Nat) : Int)) →
        ((cutOf l of').map (·.1)).Nodup ∧ ∀ s, (getL s (cutOf l of')).getD 0 = ((c s - cntP s (p :: l) : Nat) : Int) := by
      intro of' hn' h'
      obtain ⟨k1, k2⟩ := cutOf_eq l of' (fun s => if s = p.src then c p.src - 1 else c s) hn' h' (fun s => by
        have := hc s
        rw [h1] at this
        by_cases e : s = p.src
        · subst e; rw [if_pos rfl] at this; show cntP p.src l ≤ if p.src = p.src then _ else _; rw [if_pos rfl]; omega
        · rw [if_neg (fun e' => e e'.symm)] at this; show cntP s l ≤ if s = p.src then _ else _; rw [if_neg e]; omega) (fun s => by
        have := hb s
        have := hb p.src
        show (if s = p.src then _ else _) ≤ 1000000000
        split <;> omega)
      refine ⟨k1, fun s => ?_⟩
      rw [k2, h1]
      show (((if s = p.src then c p.src - 1 else c s) - cntP s l : Nat) : Int) = ((c s - (cntP s l + if p.src = s then 1 else 0) : Nat) : Int)
      by_cases e : s = p.src
      · subst e; rw [if_pos rfl, if_pos rfl]; omega
      · have e2 : ¬ p.src = s := fun e' => e e'.symm
        rw [if_neg e, if_neg e2]; rfl
    have hnp := nodup_put (k := p.src) (v := ((c p.src - 1 : Nat) : Int)) hn
    split
    · rename_i h0
      refine key _ (nodup_del hnp) fun s => ?_
      rw [getL_del hnp]
      by_cases e : s = p.src
      · simp only [e, if_true, Option.getD_none]; omega
      · simp only [e, if_false, getL_put]; exact h s
    · refine key _ hnp fun s => ?_
      rw [getL_put]
      by_cases e : s = p.src
      · simp only [e, if_true, Option.getD_some]
      · simp only [e, if_false]; exact h s

/-- What holds of a store. -/
structure Inv (S : Stt) : Prop where
  keys : (S.D.map (·.1)).Nodup
  okeys : (S.of.map (·.1)).Nodup
  num : S.n = ((allP S.D).length : Nat)
  of : ∀ s, (getL s S.of).getD 0 = (cntP s (allP S.D) : Nat)
  ne : ∀ x ∈ S.D, x.2.l ≠ []
  right : ∀ x ∈ S.D, ∀ p ∈ x.2.l, rightP p = true
  key : ∀ x ∈ S.D, ∀ p ∈ x.2.l, p.key = x.1
  due : ∀ x ∈ S.D, okDue x.2.due
  le : S.n ≤ S.max
  big : S.max ≤ 65536
  les : ∀ s, (cntP s (allP S.D) : Int) ≤ S.source

theorem len_all : ∀ {D : List KD}, (∀ x ∈ D, x.2.l ≠ []) → D.length ≤ (allP D).length
  | [], _ => Nat.zero_le _
  | x :: D, h => by
    have h1 := len_all (D := D) fun y hy => h y (by simp [hy])
    have h2 := List.length_pos_iff.2 (h x (by simp))
    unfold allP at *
    rw [List.flatMap_cons, List.length_append, List.length_cons]; omega
theorem len_part {D : List KD} {x : KD} (h : x ∈ D) : x.2.l.length ≤ (allP D).length := by
  induction D with
  | nil => cases h
  | cons y D ih =>
    unfold allP at *
    rw [List.flatMap_cons, List.length_append]
    rcases List.mem_cons.1 h with rfl | h
    · omega
    · have := ih h; omega

section
variable {S : Stt} {p : Pc} {due : Int} {key : ByteArray} {d : Dg}

theorem Inv.lenl (h : Inv S) {x : KD} (hx : x ∈ S.D) : x.2.l.length ≤ 65536 := by have := len_part hx; have := h.num; have := h.le; have := h.big; omega
theorem Inv.empty {max source : Int} (h1 : 1 ≤ max) (h2 : max ≤ 65536) (h3 : 1 ≤ source) : Inv ⟨max, source, 0, 0, [], []⟩ :=
  ⟨.nil, .nil, rfl, fun _ => rfl, fun _ h => (by cases h), fun _ h => (by cases h), fun _ h => (by cases h), fun _ h => (by cases h), (by show (0 : Int) ≤ max; omega), h2, fun s => (by show (0 : Int) ≤ source; omega)⟩

theorem Inv.cut (h : Inv S) (hg : getL key S.D = some d) : Inv (cutS S key d) := by
  have hp := all_del hg
  have hl : (allP S.D).length = d.l.length + (allP (delL key S.D)).length := by rw [hp.length_eq, List.length_append]
  have hc : ∀ s, cntP s (allP S.D) = cntP s d.l + cntP s (allP (delL key S.D)) := fun s => by rw [cnt_perm hp, cnt_app]
  have hnum := h.num
  have hle := h.le
  have hbig := h.big
  obtain ⟨k1, k2⟩ := cutOf_eq d.l S.of (fun s => cntP s (allP S.D)) h.okeys h.of (fun s => by rw [hc]; omega) (fun s => by have := cnt_le (src := s) (a := allP S.D); omega)
  have hsub : ∀ x ∈ delL key S.D, x ∈ S.D := fun x hx => (del_sub key S.D).subset hx
  have hn : cutN d.l.length S.n = ((allP (delL key S.D)).length : Nat) := by rw [cutN_eq _ _ (by omega) (by omega)]; omega
  refine ⟨nodup_del h.keys, k1, hn, fun s => ?_, fun x hx => h.ne x (hsub x hx), fun x hx => h.right x (hsub x hx), fun x hx => h.key x (hsub x hx), fun x hx => h.due x (hsub x hx), ?_, h.big, fun s => ?_⟩
  · show (getL s (cutOf d.l S.of)).getD 0 = _
    rw [k2, hc]; congr 1; show _ = cntP s (allP (delL key S.D)); omega
  · show cutN d.l.length S.n ≤ S.max
    rw [hn]; omega
  · have := h.les s
    rw [hc] at this
    show ((cntP s (allP (delL key S.D)) : Nat) : Int) ≤ S.source
    omega

theorem Inv.take (h : Inv S) (hr : rightP p = true) (hd : okDue due) (hm : S.n < S.max) (hs : (getL p.src S.of).getD 0 < S.source) {last' : Int} {d' : Dg} (ht : Took S p due last' d') : Inv (takeS S p last' d') := by
  have hnum := h.num
  have hbig := h.big
  have hof := h.of p.src
  have hcl := cnt_le (src := p.src) (a := allP S.D)
  have hw : IntKind.wrap .i64 (S.n + 1) = (((allP S.D).length + 1 : Nat) : Int) := by rw [w64 (by omega) (by omega)]; omega
  have hw2 : IntKind.wrap .i64 ((getL p.src S.of).getD 0 + 1) = ((cntP p.src (allP S.D) + 1 : Nat) : Int) := by rw [w64 (by omega) (by omega)]; omega
  have hperm : (allP (putL p.key d' S.D)).Perm (allP S.D ++ [p]) := by
    rcases ht with ⟨hg, _, _, _, _, hl⟩ | ⟨d, hg, _, _, _, _, hl⟩
    · rw [all_new hg, hl]
    · refine (all_put hg).trans ?_
      rw [hl, List.append_assoc]
      refine List.Perm.trans ?_ ((all_del hg).symm.append_right [p])
      rw [List.append_assoc]
      exact (List.perm_append_comm).append_left d.l
  have hlen : (allP (putL p.key d' S.D)).length = (allP S.D).length + 1 := by rw [hperm.length_eq]; simp
  have hcnt : ∀ s, cntP s (allP (putL p.key d' S.D)) = cntP s (allP S.D) + if p.src = s then 1 else 0 := fun s => by
    rw [cnt_perm hperm, cnt_app]; congr 1; unfold cntP; rw [List.countP_cons]; simp
  have hd' : d'.l ≠ [] ∧ (∀ x ∈ d'.l, rightP x = true) ∧ (∀ x ∈ d'.l, x.key = p.key) ∧ okDue d'.due := by
    rcases ht with ⟨hg, _, _, hdue, _, hl⟩ | ⟨d, hg, _, _, hdue, _, hl⟩
    · rw [hl, hdue]
      refine ⟨by simp, fun x hx => ?_, fun x hx => ?_, hd⟩
      · rw [List.mem_singleton] at hx; rw [hx]; exact hr
      · rw [List.mem_singleton] at hx; rw [hx]
    · have hm := getL_some_mem hg
      rw [hl, hdue]
      refine ⟨by simp, fun x hx => ?_, fun x hx => ?_, h.due _ hm⟩
      · rw [List.mem_append, List.mem_singleton] at hx
        rcases hx with hx | hx
        · exact h.right _ hm x hx
        · rw [hx]; exact hr
      · rw [List.mem_append, List.mem_singleton] at hx
        rcases hx with hx | hx
        · exact h.key _ hm x hx
        · rw [hx]
  refine ⟨nodup_put h.keys, nodup_put h.okeys, ?_, fun s => ?_, fun x hx => ?_, fun x hx => ?_, fun x hx => ?_, fun x hx => ?_, ?_, h.big, fun s => ?_⟩
  · show IntKind.wrap .i64 (S.n + 1) = _
    rw [hw]; show _ = (((allP (putL p.key d' S.D)).length : Nat) : Int); rw [hlen]
  · show (getL s (putL p.src (IntKind.wrap .i64 ((getL p.src S.of).getD 0 + 1)) S.of)).getD 0 = ((cntP s (allP (putL p.key d' S.D)) : Nat) : Int)
    rw [getL_put, hcnt]
    by_cases e : s = p.src
    · subst e; rw [if_pos rfl, if_pos rfl, Option.getD_some, hw2]
    · have e2 : ¬ p.src = s := fun e' => e e'.symm
      rw [if_neg e, if_neg e2, h.of]; rfl
  · rcases mem_put' h.keys hx with rfl | ⟨hx, _⟩
    · exact hd'.1
    · exact h.ne x hx
  · rcases mem_put' h.keys hx with rfl | ⟨hx, _⟩
    · exact hd'.2.1
    · exact h.right x hx
  · rcases mem_put' h.keys hx with rfl | ⟨hx, _⟩
    · exact hd'.2.2.1
    · exact h.key x hx
  · rcases mem_put' h.keys hx with rfl | ⟨hx, _⟩
    · exact hd'.2.2.2
    · exact h.due x hx
  · show IntKind.wrap .i64 (S.n + 1) ≤ S.max
    rw [hw]; omega
  · have hls := h.les s
    show ((cntP s (allP (putL p.key d' S.D)) : Nat) : Int) ≤ S.source
    rw [hcnt]
    by_cases e : p.src = s
    · subst e; rw [if_pos rfl]; omega
    · rw [if_neg e]; exact hls

theorem Inv.order (h : Inv S) (hg : getL key S.D = some d) {l' : List Pc} (hp : l'.Perm d.l) : Inv (setS S key { d with l := l' }) := by
  have hperm : (allP (putL key { d with l := l' } S.D)).Perm (allP S.D) := (all_put hg).trans ((hp.append_right _).trans (all_del hg).symm)
  have hm := getL_some_mem hg
  refine ⟨nodup_put h.keys, h.okeys, ?_, fun s => ?_, fun x hx => ?_, fun x hx => ?_, fun x hx => ?_, fun x hx => ?_, h.le, h.big, fun s => ?_⟩
  · show S.n = (((allP (putL key { d with l := l' } S.D)).length : Nat) : Int); rw [h.num, hperm.length_eq]
  · show (getL s S.of).getD 0 = ((cntP s (allP (putL key { d with l := l' } S.D)) : Nat) : Int)
    rw [cnt_perm hperm]; exact h.of s
  · rcases mem_put' h.keys hx with rfl | ⟨hx, _⟩
    · exact fun e => h.ne _ hm (List.eq_nil_of_length_eq_zero (by rw [← hp.length_eq]; simp only at e; rw [e]; rfl))
    · exact h.ne x hx
  · rcases mem_put' h.keys hx with rfl | ⟨hx, _⟩
    · exact fun y hy => h.right _ hm y (hp.mem_iff.1 hy)
    · exact h.right x hx
  · rcases mem_put' h.keys hx with rfl | ⟨hx, _⟩
    · exact fun y hy => h.key _ hm y (hp.mem_iff.1 hy)
    · exact h.key x hx
  · rcases mem_put' h.keys hx with rfl | ⟨hx, _⟩
    · exact h.due (key, d) hm
    · exact h.due x hx
  · show ((cntP s (allP (putL key { d with l := l' } S.D)) : Nat) : Int) ≤ S.source
    rw [cnt_perm hperm]; exact h.les s

theorem get_take {last' : Int} {d' : Dg} : getL p.key (takeS S p last' d').D = some d' := by unfold takeS; simp only [getL_put, if_true]
theorem get_set {d' : Dg} : getL key (setS S key d').D = some d' := by unfold setS; simp only [getL_put, if_true]

theorem Inv.put (h : Inv S) {w : List Value} {b : Bool} {e : Int} {S' : Stt} (hp : PutR S p due w b e S') : Inv S' := by
  cases hp with
  | arg | form | again | alone | full | state => exact h
  | clash d _ _ hg => exact h.cut hg
  | part d' last' h1 h2 _ h4 h5 h6 => exact h.take h2 h1 h4 h5 h6
  | none d' last' l' h1 h2 _ h4 h5 h6 _ h8 => exact (h.take h2 h1 h4 h5 h6).order get_take h8
  | whole d' last' l' w h1 h2 _ h4 h5 h6 _ h8 => exact ((h.take h2 h1 h4 h5 h6).order get_take h8).cut get_set

theorem Inv.pop {now : Int} : ∀ {kds : List KD} {S : Stt}, Inv S → (kds.map (·.1)).Nodup → (∀ x ∈ kds, x ∈ S.D) → Inv (popS S now kds)
  | [], S, h, _, _ => h
  | x :: l, S, h, hn, hm => by
    rw [List.map_cons, List.nodup_cons] at hn
    unfold popS
    rw [List.foldl_cons]
    by_cases hx : x.2.due ≤ now
    · rw [if_pos hx]
      have hg := getL_of_mem h.keys (hm x (by simp))
      have := Inv.pop (now := now) (kds := l) (h.cut hg) hn.2 fun y hy => ?_
      · unfold popS at this; exact this
      · have hne : y.1 ≠ x.1 := fun e => hn.1 (by rw [← e]; exact List.mem_map.2 ⟨y, hy, rfl⟩)
        have hgy : getL y.1 (delL x.1 S.D) = some y.2 := by rw [getL_del h.keys, if_neg hne]; exact getL_of_mem h.keys (hm y (by simp [hy]))
        exact getL_some_mem hgy
    · rw [if_neg hx]
      have := Inv.pop (now := now) (kds := l) h hn.2 fun y hy => hm y (by simp [hy])
      unfold popS at this; exact this

theorem mem_pop {now : Int} : ∀ {kds : List KD} {S : Stt} {y : KD}, (S.D.map (·.1)).Nodup → y ∈ (popS S now kds).D → y ∈ S.D ∧ (y ∈ kds → ¬ y.2.due ≤ now)
  | [], S, y, _, h => ⟨h, fun h => by cases h⟩
  | x :: l, S, y, hn, h => by
    unfold popS at h
    rw [List.foldl_cons] at h
    by_cases hx : x.2.due ≤ now
    · rw [if_pos hx] at h
      have := mem_pop (now := now) (kds := l) (S := cutS S x.1 x.2) (y := y) (by unfold cutS; exact nodup_del hn) (by unfold popS; exact h)
      unfold cutS at this
      obtain ⟨h1, h2⟩ := mem_del hn this.1
      refine ⟨h1, fun hm => ?_⟩
      rcases List.mem_cons.1 hm with rfl | hm
      · exact absurd rfl h2
      · exact this.2 hm
    · rw [if_neg hx] at h
      have := mem_pop (now := now) (kds := l) (S := S) (y := y) hn (by unfold popS; exact h)
      refine ⟨this.1, fun hm => ?_⟩
      rcases List.mem_cons.1 hm with rfl | hm
      · exact hx
      · exact this.2 hm

/-- The sources' numbers together. -/
theorem cnt_sum : ∀ {ks : List ByteArray} {l : List Pc}, ks.Nodup → (∀ p ∈ l, p.src ∈ ks) → (ks.map fun k => cntP k l).sum = l.length
  | ks, [], _, _ => by
    have : (ks.map fun k => cntP k []) = ks.map fun _ => 0 := rfl
    have hz : ∀ ks : List ByteArray, (ks.map fun _ => 0).sum = 0 := fun ks => by
      induction ks with
      | nil => rfl
      | cons a l ih => simpa using ih
    rw [this, hz]; rfl
  | ks, p :: l, hn, h => by
    have ih := cnt_sum (l := l) hn fun q hq => h q (by simp [hq])
    have e : ∀ k, cntP k (p :: l) = cntP k l + if p.src = k then 1 else 0 := fun k => by unfold cntP; rw [List.countP_cons]; simp
    have key : ∀ ks : List ByteArray, ks.Nodup → (ks.map fun k => cntP k (p :: l)).sum = (ks.map fun k => cntP k l).sum + if p.src ∈ ks then 1 else 0 := by
      intro ks
      induction ks with
      | nil => intro _; rfl
      | cons a ks ih2 =>
        intro hn
        rw [List.nodup_cons] at hn
        simp only [List.map_cons, List.sum_cons, ih2 hn.2, e a, List.mem_cons]
        by_cases hpa : p.src = a
        · have : p.src ∉ ks := hpa ▸ hn.1
          simp only [hpa, if_true, true_or]
          rw [if_neg (hpa ▸ this)]; omega
        · simp only [hpa, if_false, false_or]; omega
    rw [key ks hn, ih, if_pos (h p (by simp)), List.length_cons]
end
end Go.Proofs

