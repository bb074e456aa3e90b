/- Parts of the proof of BoundsProof: the logic of what is known of memory, functions' contracts. -/
import Derived.Test.YtidoceleobdkmaaQBoundsProofB
import Derived.Test.YtidoceleobdkmaaHlStr
import Derived.Test.YtidoceleobdkmaaHlApp
import Derived.KernelRfl
import Derived.Sort.LotA
import Derived.Test.YtidoceleobdkmaaHlLib
import Derived.Sort.LotD3
import Derived.Test.YtidoceleobdkmaaHlSort1
import Derived.Test.YtidoceleobdkmaaHlAbb
import Derived.Test.YtidoceleobdkmaaProg
set_option linter.unusedVariables false
set_option maxRecDepth 20000
namespace Go.Proofs
open Go Go.HL

theorem wiN {x : Int} {i : Nat} (h : x = i) (hb : i ≤ 9223372036854775807) : IntKind.wrap .i64 x = i := by rw [h]; exact w64 (by omega) (by omega)

/-- A piece. -/
structure Pc where
  key : ByteArray
  src : ByteArray
  at_ : Int
  more : Bool
  data : ByteArray
  head : ByteArray
deriving DecidableEq
instance : Inhabited Pc := ⟨⟨ByteArray.empty, ByteArray.empty, 0, false, ByteArray.empty, ByteArray.empty⟩⟩
def pc (p : Pc) : List Value := [.string p.key, .string p.src, .int .i64 p.at_, .bool p.more, .string p.data, .string p.head]
theorem pc_len (p : Pc) : (pc p).length = 6 := rfl
theorem pc_one (p : Pc) : (pc p).all one = true := rfl
def okP (p : Pc) : Prop := (-9223372036854775808 ≤ p.at_ ∧ p.at_ ≤ 9223372036854775807) ∧ p.data.size ≤ 1000000
/-- Where it ends. -/
def Pc.to (p : Pc) : Int := p.at_ + p.data.size
/-- May it be? -/
def rightP (p : Pc) : Bool := decide (0 ≤ p.at_) && decide (p.at_ ≤ 65535) && decide (p.at_.tmod 8 = 0) && decide (p.at_ + p.data.size ≤ 65535) && (!p.more || (decide (0 < p.data.size) && decide (p.data.size % 8 = 0)))
theorem rightP_iff {p : Pc} : rightP p = true ↔ 0 ≤ p.at_ ∧ p.at_ ≤ 65535 ∧ p.at_.tmod 8 = 0 ∧ p.at_ + p.data.size ≤ 65535 ∧ (p.more = true → 0 < p.data.size ∧ p.data.size % 8 = 0) := by
  unfold rightP
  simp only [Bool.and_eq_true, decide_eq_true_eq, Bool.or_eq_true, Bool.not_eq_true']
  cases p.more <;> simp [and_assoc]
/-- Is it the same? -/
def sameP (p q : Pc) : Bool := decide (p.at_ = q.at_) && decide (p.more = q.more) && decide (p.data = q.data)

theorem enc9 : EncK Try.prog 9 sw where
  inj a b h := by simpa [sw] using h
  law := (KeyLaw.flat (d := .string) (by kernel_rfl)).weaken fun v ⟨k, hk⟩ => by subst hk; exact trivial
theorem u97 : Try.prog.underlying 97 = some (.map 9 3) := by kernel_rfl
theorem u128 : Try.prog.underlying 128 = some (.map 9 131) := by kernel_rfl

/-- The lesser first, of two numbers. -/
def cmpN (x y : Int) : Int := if x < y then -1 else if x > y then 1 else 0
theorem D131 {x : Int} {hp : HP} {K : Value → HP → Prop} (h : K (.bool false) hp) : CF Try.prog 131 [.int .i64 x] hp K := by
  refine F131_ok x hp K ?_
  unfold F131
  simpa using h

theorem D97 {x y : Int} {hp : HP} {K : Value → HP → Prop} (h : K (.int .i64 (cmpN x y)) hp) : CF Try.prog 97 [.int .i64 x, .int .i64 y] hp K := by
  refine F97_ok x y hp K ?_
  unfold F97
  refine D131 ?_
  rw [boolV_bool]
  refine D131 ?_
  rw [boolV_bool, ite2_false, ite2_false]
  unfold cmpN at h
  by_cases h1 : x < y
  · rw [if_pos h1] at h
    rw [decide_eq_true h1, ite2_true]; exact h
  rw [if_neg h1] at h
  rw [decide_eq_false h1, ite2_false]
  by_cases h2 : x > y
  · rw [if_pos h2] at h
    rw [decide_eq_true h2, ite2_true]; exact h
  · rw [if_neg h2] at h
    rw [decide_eq_false h2, ite2_false]; exact h

theorem D96 {r : Nat} {x y : Int} {hp : HP} {K : Value → HP → Prop} (hr : hp r = .cells 3 [.int .i64 x, .int .i64 y] 0) (h : K (.int .i64 (if x ≠ 0 then x else y)) hp) : CF Try.prog 96 [.slice (some ⟨r, 0, none⟩) 2 2] hp K := by
  refine F96_ok _ 2 2 hp K ?_
  unfold F96 F96_j2
  have hc : ∀ o, hp.cell r o = [Value.int .i64 x, .int .i64 y][o]? := fun o => HP.cell_of hr
  intro I hI
  refine hI 0 hp ?_
  unfold F96_l3
  simp only [ptrN_some, hc, Nat.zero_add]
  show ite2 (decide ((0 : Int) < 2)) _ _
  rw [decide_eq_true (by omega : (0 : Int) < 2), ite2_true]
  refine ⟨by omega, by omega, ?_⟩
  show ldV (some (Value.int .i64 x)) _
  rw [ldV_some, intV_int]
  by_cases hx : x = 0
  · rw [if_neg (by simpa using hx)] at h
    have e : (x != 0) = false := by simpa using hx
    rw [e, ite2_false]
    have w : IntKind.wrap .i64 ((0 : Int) + 1) = 1 := by rw [w64 (by omega) (by omega)]; rfl
    rw [w]
    refine hI 1 hp ?_
    unfold F96_l3
    simp only [ptrN_some, hc, Nat.zero_add]
    rw [decide_eq_true (by omega : (1 : Int) < ((2 : Nat) : Int)), ite2_true]
    refine ⟨by omega, by omega, ?_⟩
    show ldV (some (Value.int .i64 y)) _
    rw [ldV_some, intV_int]
    by_cases hy : y = 0
    · have e : (y != 0) = false := by simpa using hy
      rw [e, ite2_false]
      have w : IntKind.wrap .i64 ((1 : Int) + 1) = 2 := by rw [w64 (by omega) (by omega)]; rfl
      rw [w]
      refine hI 2 hp ?_
      unfold F96_l3
      simp only [ptrN_some, hc, Nat.zero_add]
      rw [decide_eq_false (by omega : ¬ (2 : Int) < ((2 : Nat) : Int)), ite2_false]
      unfold F96_j1
      rw [hy] at h; exact h
    · have e : (y != 0) = true := by simpa using hy
      rw [e, ite2_true]; exact h
  · rw [if_pos (by simpa using hx)] at h
    have e : (x != 0) = true := by simpa using hx
    rw [e, ite2_true]; exact h

section
variable {p q : Pc} {hp : HP} {K : Value → HP → Prop}

/-- Where it ends, as it is counted. -/
def Pc.toW (p : Pc) : Int := IntKind.wrap .i64 (p.at_ + p.data.size)
theorem Pc.toW_eq {p : Pc} (h0 : 0 ≤ p.at_) (h1 : p.at_ ≤ 1000000000) (h2 : p.data.size ≤ 1000000000) : p.toW = p.to := by
  unfold Pc.toW Pc.to; rw [w64 (by omega) (by omega)]
theorem C122 (h : K (.int .i64 p.toW) hp) : CF Try.prog 122 [.agg ⟨pc p⟩] hp K := by
  refine F122_ok (pc p) hp K ?_
  unfold F122
  exact h

theorem C77 (h : K (.bool (sameP p q)) hp) : CF Try.prog 77 [.agg ⟨pc p⟩, .agg ⟨pc q⟩] hp K := by
  refine F77_ok (pc p) (pc q) hp K ?_
  unfold F77
  have k2 : ∀ p : Pc, (pc p)[2]? = some (.int .i64 p.at_) := fun _ => rfl
  have k3 : ∀ p : Pc, (pc p)[3]? = some (.bool p.more) := fun _ => rfl
  have k4 : ∀ p : Pc, (pc p)[4]? = some (.string p.data) := fun _ => rfl
  simp only [k2, k3, k4, ldV_some, intV_int, boolV_bool, strV_string]
  unfold sameP at h
  by_cases h1 : p.at_ = q.at_
  · have e : (p.at_ == q.at_) = true := by simpa using h1
    rw [e, ite2_true]
    rw [decide_eq_true h1, Bool.true_and] at h
    by_cases h2 : p.more = q.more
    · have e : (p.more == q.more) = true := by simpa using h2
      rw [e, ite2_true]
      rw [str_eq]
      rw [decide_eq_true h2, Bool.true_and] at h
      exact h
    · have e : (p.more == q.more) = false := by simpa using h2
      rw [e, ite2_false]
      rw [decide_eq_false h2, Bool.false_and] at h
      exact h
  · have e : (p.at_ == q.at_) = false := by simpa using h1
    rw [e, ite2_false]
    rw [decide_eq_false h1, Bool.false_and, Bool.false_and] at h
    exact h

theorem C67 (hp' : okP p) (h : K (.bool (rightP p)) hp) : CF Try.prog 67 [.agg ⟨pc p⟩] hp K := by
  refine F67_ok (pc p) hp K ?_
  unfold F67
  have k2 : (pc p)[2]? = some (.int .i64 p.at_) := rfl
  have k3 : (pc p)[3]? = some (.bool p.more) := rfl
  have k4 : (pc p)[4]? = some (.string p.data) := rfl
  simp only [k2, k4, ldV_some, intV_int, strV_string]
  have hno : rightP p = false → F67_j1 true (pc p) hp K := fun e => by
    unfold F67_j1; rw [ite2_true]; rw [e] at h; exact h
  have no : (¬ (0 ≤ p.at_ ∧ p.at_ ≤ 65535 ∧ p.at_.tmod 8 = 0 ∧ p.at_ + p.data.size ≤ 65535)) → F67_j1 true (pc p) hp K := fun hn => hno (by
    cases hr : rightP p with
    | false => rfl
    | true => obtain ⟨a, b, c, d, _⟩ := rightP_iff.1 hr; exact absurd ⟨a, b, c, d⟩ hn)
  by_cases h1 : p.at_ < 0
  · rw [decide_eq_true h1, ite2_true]; exact no (by omega)
  rw [decide_eq_false h1, ite2_false]
  by_cases h2 : p.at_ > 65535
  · rw [decide_eq_true h2, ite2_true]; exact no (by omega)
  rw [decide_eq_false h2, ite2_false]
  refine ⟨by decide, ?_⟩
  by_cases h3 : p.at_.tmod 8 = 0
  rotate_left
  · have e : (p.at_.tmod 8 != 0) = true := by simpa using h3
    rw [e, ite2_true]; exact no (fun x => h3 x.2.2.1)
  have e : (p.at_.tmod 8 != 0) = false := by simpa using h3
  rw [e, ite2_false, w64 (by omega) (by omega)]
  by_cases h4 : (p.data.size : Int) > 65535 - p.at_
  · rw [decide_eq_true h4]; exact no (by omega)
  rw [decide_eq_false h4]
  unfold F67_j1
  rw [ite2_false]
  simp only [k3, k4, ldV_some, boolV_bool, strV_string]
  have hx : rightP p = (!p.more || (decide (0 < p.data.size) && decide (p.data.size % 8 = 0))) := by
    unfold rightP
    rw [decide_eq_true (by omega : 0 ≤ p.at_), decide_eq_true (by omega : p.at_ ≤ 65535), decide_eq_true h3, decide_eq_true (by omega : p.at_ + p.data.size ≤ 65535)]
    simp
  rw [hx] at h
  cases hm : p.more
  · rw [hm] at h; exact h
  · rw [hm] at h
    show ite2 false _ _
    rw [ite2_false]
    by_cases h5 : 0 < p.data.size
    · rw [decide_eq_true (by omega : ((p.data.size : Nat) : Int) > 0), ite2_true]
      refine ⟨by decide, ?_⟩
      have e2 : (Int.tmod ((p.data.size : Nat) : Int) 8 == 0) = decide (p.data.size % 8 = 0) := by
        have : Int.tmod ((p.data.size : Nat) : Int) 8 = ((p.data.size % 8 : Nat) : Int) := rfl
        rw [this, Bool.eq_iff_iff, beq_iff_eq, decide_eq_true_iff]; omega
      rw [e2]
      rw [decide_eq_true h5] at h
      simpa using h
    · rw [decide_eq_false (by omega : ¬ ((p.data.size : Nat) : Int) > 0), ite2_false]
      rw [decide_eq_false h5] at h
      simpa using h

variable {s : Option Addr} {n c : Nat} {l : List Pc}

/-- A list that is looked through: the function that looks leaves the heaplet as it is. -/
theorem C121 {f : FuncId} {ga gb : List Value} {g : Pc → Bool} (hs : Shows hp s n 6 (l.flatMap pc)) (hl : l.length = n) (hn : n ≤ 1000000000)
    (hf : ∀ x ∈ l, ∀ K : Value → HP → Prop, K (.bool (g x)) hp → CF Try.prog f (ga ++ [.agg ⟨pc x⟩] ++ gb) hp K)
    (h : ∀ v : Int, (decide (v ≥ 0) = l.any g) → K (.int .i64 v) hp) : CF Try.prog 121 [.slice s n c, .func (.func f) ⟨ga⟩ ⟨gb⟩] hp K := by
  refine F121_ok s n c _ hp K ?_
  unfold F121 F121_j1
  refine LoopP.by (J := fun m (y : Int) hp' => hp' = hp ∧ ∃ i : Nat, y = i ∧ i + m = n ∧ (l.take i).any g = false) ?_ (n := n) ⟨rfl, 0, rfl, by omega, rfl⟩
  rintro I m y hp' ⟨rfl, i, rfl, him, hno⟩ hI
  unfold F121_l2
  by_cases hi : i < n
  · rw [decide_eq_true (by omega : (i : Int) < (n : Int)), ite2_true]
    have hil : i < l.length := by omega
    obtain ⟨b, o, hao, hc⟩ := hs.get pc_len hl hi
    simp only [hao, ptrN_some, Int.toNat_natCast, hc, ldL_some, fnV_mk]
    refine ⟨by omega, by omega, ?_⟩
    refine hf _ (List.getElem_mem hil) _ ?_
    rw [boolV_bool]
    have ht : (l.take (i + 1)).any g = ((l.take i).any g || g l[i]) := by
      rw [List.take_succ_eq_append_getElem hil, List.any_append]; simp
    cases hg : g l[i]
    · have w1 : IntKind.wrap .i64 ((i : Int) + 1) = ((i + 1 : Nat) : Int) := wiN (by omega) (by omega)
      rw [ite2_false, w1]
      refine hI (m - 1) _ _ (by omega) ⟨rfl, i + 1, rfl, by omega, ?_⟩
      rw [ht, hno, hg]; rfl
    · rw [ite2_true]
      refine h _ ?_
      rw [decide_eq_true (by omega : (i : Int) ≥ 0)]
      exact (List.any_eq_true.2 ⟨_, List.getElem_mem hil, hg⟩).symm
  · rw [decide_eq_false (by omega : ¬ (i : Int) < (n : Int)), ite2_false]
    rw [List.take_of_length_le (by omega)] at hno
    exact h _ (by rw [hno]; rfl)

theorem C76 {f : FuncId} {ga gb : List Value} {g : Pc → Bool} (hs : Shows hp s n 6 (l.flatMap pc)) (hl : l.length = n) (hn : n ≤ 1000000000)
    (hf : ∀ x ∈ l, ∀ K : Value → HP → Prop, K (.bool (g x)) hp → CF Try.prog f (ga ++ [.agg ⟨pc x⟩] ++ gb) hp K)
    (h : K (.bool (l.any g)) hp) : CF Try.prog 76 [.slice s n c, .func (.func f) ⟨ga⟩ ⟨gb⟩] hp K := by
  refine F76_ok s n c _ hp K ?_
  unfold F76
  refine C121 hs hl hn hf fun v hv => ?_
  rw [intV_int, hv]
  exact h
end

section
variable {f : FuncId} {ga gb : List Value} {hp0 : HP} {b sp n c : Nat} {cf : Pc → Pc → Int}

theorem S169 (hc : CmpOk Try.prog f ga gb hp0 b 29 sp pc n cf) {d : Array Pc} {lo hi : Nat} {K : Value → HP → Prop} (hs : d.size = n) (hlo : lo ≤ hi) (hhi : hi ≤ n) (hn : n ≤ 1000000000)
    (h : K (.tuple ⟨[]⟩) (HA hp0 b 29 sp pc (Sort.insertionSort (ltC cf) d lo hi))) :
    CF Try.prog 169 [.slice (some ⟨b, 0, none⟩) n c, .int .i64 lo, .int .i64 hi, .func (.func f) ⟨ga⟩ ⟨gb⟩] (HA hp0 b 29 sp pc d) K := by
  refine F169_ok _ n c lo hi _ _ K ?_
  unfold F169 F169_j1
  rw [w64 (by omega) (by omega)]
  refine LoopP.by (J := fun k (x : Int) hp => ∃ (i : Nat) (d' : Array Pc), x = i ∧ hp = HA hp0 b 29 sp pc d' ∧ d'.size = n ∧ lo < i ∧ k = hi - i ∧ Sort.insOuter (ltC cf) lo hi i d' = Sort.insertionSort (ltC cf) d lo hi) ?_
    (n := hi - (lo + 1)) ⟨lo + 1, d, by omega, rfl, hs, by omega, rfl, rfl⟩
  rintro I k x hp ⟨i, d', rfl, rfl, hs', hli, rfl, he⟩ hI
  unfold F169_l2
  rw [Sort.insOuter] at he
  by_cases hi' : i < hi
  · rw [decide_eq_true (by omega : (i : Int) < (hi : Int)), ite2_true]
    rw [if_pos hi'] at he
    unfold F169_j4
    refine LoopP.by (J := fun k (y : Int) hp => ∃ (j : Nat) (d2 : Array Pc), y = j ∧ hp = HA hp0 b 29 sp pc d2 ∧ d2.size = n ∧ j < n ∧ k = j ∧ Sort.insInner (ltC cf) lo j d2 = Sort.insInner (ltC cf) lo i d') ?_
      (n := i) ⟨i, d', rfl, rfl, hs', by omega, rfl, rfl⟩
    rintro I2 k2 y hp2 ⟨j, d2, rfl, rfl, hs2, hj, hk2, he2⟩ hI2
    unfold F169_l5
    have out : Sort.insInner (ltC cf) lo i d' = d2 → F169_j6 (some ⟨b, 0, none⟩) n c lo hi (.func (.func f) ⟨ga⟩ ⟨gb⟩) i j false (HA hp0 b 29 sp pc d2) I I2 K := by
      intro heq
      unfold F169_j6 F169_j3
      rw [ite2_false, w64 (by omega) (by omega)]
      exact hI (hi - (i + 1)) _ _ (by omega) ⟨i + 1, d2, by omega, rfl, hs2, by omega, rfl, by rw [← heq]; exact he⟩
    by_cases hjl : lo < j
    · rw [decide_eq_true (by omega : (j : Int) > (lo : Int)), ite2_true]
      obtain ⟨j', rfl⟩ : ∃ j', j = j' + 1 := ⟨j - 1, by omega⟩
      have w1 : IntKind.wrap .i64 (((j' + 1 : Nat) : Int) - 1) = (j' : Int) := by rw [w64 (by omega) (by omega)]; omega
      have g1 := HA.get (hp0 := hp0) (b := b) (e := 29) (sp := sp) pc_len (d := d2) (i := j' + 1) (by omega)
      have g0 := HA.get (hp0 := hp0) (b := b) (e := 29) (sp := sp) pc_len (d := d2) (i := j') (by omega)
      simp only [w1, ptrN_some, Int.toNat_natCast, g1, g0, ldL_some, fnV_mk]
      refine ⟨by omega, by omega, by omega, by omega, ?_⟩
      refine hc d2 _ _ _ hs2 ?_
      rw [intV_int]
      rw [Sort.insInner] at he2
      have hgt : decide (j' + 1 > lo) = true := decide_eq_true (by omega)
      cases hlt : decide (cf d2[j' + 1]! d2[j']! < 0)
      · have : ltC cf d2[j' + 1]! d2[j']! = false := hlt
        rw [hgt, this] at he2
        exact out (by simpa using he2.symm)
      · have : ltC cf d2[j' + 1]! d2[j']! = true := hlt
        rw [hgt, this] at he2
        simp only [Bool.and_self, if_true] at he2
        unfold F169_j6
        simp only [ite2_true, w1, ptrN_some, Int.toNat_natCast, g0, g1, ldL_some]
        refine ⟨by omega, by omega, by omega, by omega, by omega, by omega, rfl, ?_⟩
        refine HA.st pc_len pc_one (by omega) _ ?_
        refine ⟨by omega, by omega, rfl, ?_⟩
        refine HA.st pc_len pc_one (by rw [Array.size_setIfInBounds]; omega) _ ?_
        exact hI2 j' _ _ (by omega) ⟨j', _, rfl, rfl, by rw [Array.size_setIfInBounds, Array.size_setIfInBounds]; exact hs2, by omega, rfl, he2⟩
    · rw [decide_eq_false (by omega : ¬ (j : Int) > (lo : Int)), ite2_false]
      refine out ?_
      cases j with
      | zero => rw [Sort.insInner] at he2; exact he2.symm
      | succ j =>
        rw [Sort.insInner] at he2
        have hgt : decide (j + 1 > lo) = false := decide_eq_false (by omega)
        rw [hgt] at he2
        simpa using he2.symm
  · rw [decide_eq_false (by omega : ¬ (i : Int) < (hi : Int)), ite2_false]
    rw [if_neg hi'] at he
    rw [he]
    exact h
end
end Go.Proofs

set_option linter.unusedVariables false
set_option maxRecDepth 20000
namespace Go.Proofs
open Go Go.HL

/-- A piece speaks against another one. -/
def clash (p q : Pc) : Bool := (decide (p.at_ < q.toW) && decide (q.at_ < p.toW)) || (!p.more && decide (q.toW > p.toW))
def fitsQ (fin : Int) (l : List Pc) (p : Pc) : Bool := !(decide (fin ≥ 0) && (!p.more || decide (p.toW > fin))) && !(l.any (clash p))

/-- A datagram: where it is, where its pieces are, and what it has. -/
structure Dg where
  blk : Nat
  rblk : Nat
  id : Int
  due : Int
  fin : Int
  l : List Pc
def DgR (hp : HP) (d : Dg) : Prop :=
  d.l ≠ [] ∧ ∃ c, d.l.length ≤ c ∧ hp d.blk = .cells 135 [.int .i64 d.id, .int .i64 d.due, .int .i64 d.fin, .slice (some ⟨d.rblk, 0, none⟩) d.l.length c] 0 ∧ hp d.rblk = .cells 29 (d.l.flatMap pc) ((c - d.l.length) * 6)
theorem DgR.sub {hp hp' : HP} {d : Dg} (h : DgR hp d) (hs : HSub hp hp') : DgR hp' d := by
  obtain ⟨h0, c, h1, h2, h3⟩ := h
  exact ⟨h0, c, h1, hs.cells h2, hs.cells h3⟩

section
variable {p q : Pc} {hp : HP} {K : Value → HP → Prop} {d : Dg}

theorem C123 {b : Nat} (hb : hp b = .cells 29 (pc p) 0) (h : K (.bool (clash p q)) hp) : CF Try.prog 123 [.agg ⟨pc q⟩, .pointer (some ⟨b, 0, none⟩)] hp K := by
  refine F123_ok (pc q) _ hp K ?_
  unfold F123
  have k2 : ∀ p : Pc, (pc p)[2]? = some (.int .i64 p.at_) := fun _ => rfl
  have c2 : hp.cell b 2 = some (.int .i64 p.at_) := by rw [HP.cell_of hb]; rfl
  have c3 : hp.cell b 3 = some (.bool p.more) := by rw [HP.cell_of hb]; rfl
  have cN : hp.cellN b 0 6 = some (pc p) := by rw [HP.cellN_of hb]; exact cellsN_all rfl
  unfold clash at h
  have call : ∀ (x : Pc) (X : Int → HP → Prop), X x.toW hp → CF Try.prog 122 [.agg ⟨pc x⟩] hp fun u h => intV u .i64 fun i => X i h := fun x X hx => C122 (by rw [intV_int]; exact hx)
  cases hA : decide (p.at_ < q.toW) <;> cases hB : decide (q.at_ < p.toW) <;> cases hC : p.more
  all_goals
    rw [hA, hB, hC] at h
    repeat' apply And.intro
    all_goals
      repeat (first | (refine call _ _ ?_) | (simp only [ptrN_some, Nat.zero_add, c2, c3, cN, k2, ldV_some, ldL_some, intV_int, boolV_bool, cellsN_all (pc_len _), hA, hB, hC, ite2_true, ite2_false, Bool.not_true, Bool.not_false]))
      simpa using h

theorem C78 (hd : DgR hp d) (hn : d.l.length ≤ 1000000) (h : K (.bool (fitsQ d.fin d.l p)) hp) : CF Try.prog 78 [ptr d.blk 0, .agg ⟨pc p⟩] hp K := by
  refine CF.drop (F78_ok _ (pc p) hp _ ?_)
  unfold F78
  intro b hb
  have sb := HSub.set_fresh hp (.cells 29 (pc p) 0) hb
  have hd1 := hd.sub sb
  have hpb : (hp.set b (.cells 29 (pc p) 0)) b = .cells 29 (pc p) 0 := HP.set_eq ..
  generalize hp.set b (.cells 29 (pc p) 0) = hp1 at *
  obtain ⟨h0, c, h1, h2, h3⟩ := hd1
  have hc : ∀ o, hp1.cell d.blk o = [Value.int .i64 d.id, .int .i64 d.due, .int .i64 d.fin, .slice (some ⟨d.rblk, 0, none⟩) d.l.length c][o]? := fun o => HP.cell_of h2
  have c3 : hp1.cell b 3 = some (.bool p.more) := by rw [HP.cell_of hpb]; rfl
  have cN : hp1.cellN b 0 6 = some (pc p) := by rw [HP.cellN_of hpb]; exact cellsN_all rfl
  have sh : Shows hp1 (some ⟨d.rblk, 0, none⟩) d.l.length 6 (d.l.flatMap pc) := .inr ⟨d.rblk, 0, rfl, by rw [HP.cellN_of h3]; exact cellsN_all (by rw [flat_len pc_len])⟩
  have call : ∀ (x : Pc) (X : Int → HP → Prop), X x.toW hp1 → CF Try.prog 122 [.agg ⟨pc x⟩] hp1 fun u h => intV u .i64 fun i => X i h := fun x X hx => C122 (by rw [intV_int]; exact hx)
  have no : (decide (d.fin ≥ 0) && (!p.more || decide (p.toW > d.fin))) = true → F78_j1 (some ⟨d.blk, 0, none⟩) (some ⟨b, 0, none⟩) true hp1 (fun v hp' => ∃ hp'', HSub hp'' hp' ∧ K v hp'') := by
    intro e
    unfold F78_j1
    rw [ite2_true]
    unfold fitsQ at h
    rw [e] at h
    exact ⟨hp, sb, h⟩
  have yes : (decide (d.fin ≥ 0) && (!p.more || decide (p.toW > d.fin))) = false → F78_j1 (some ⟨d.blk, 0, none⟩) (some ⟨b, 0, none⟩) false hp1 (fun v hp' => ∃ hp'', HSub hp'' hp' ∧ K v hp'') := by
    intro e
    unfold F78_j1
    rw [ite2_false]
    simp only [ptrN_some, hc, Nat.zero_add, List.getElem?_cons_succ, List.getElem?_cons_zero, ldV_some, slcV_slice]
    refine C76 (g := clash p) sh rfl (by omega) (fun x _ K' hK' => C123 hpb hK') ?_
    rw [boolV_bool]
    unfold fitsQ at h
    rw [e] at h
    exact ⟨hp, sb, by simpa using h⟩
  cases hA : decide (d.fin ≥ 0) <;> cases hB : p.more <;> cases hC : decide (p.toW > d.fin)
  all_goals
    rw [hA, hB, hC] at no yes
    apply And.intro
    all_goals
      repeat (first | (refine call _ _ ?_) | (simp only [ptrN_some, hc, c3, cN, Nat.zero_add, List.getElem?_cons_succ, List.getElem?_cons_zero, ldV_some, ldL_some, intV_int, boolV_bool, hA, hB, hC, ite2_true, ite2_false, Bool.not_true, Bool.not_false]))
      first | exact yes rfl | exact no rfl

/-- The head of the piece at 0. -/
def headQ : List Pc → ByteArray
  | [] => ⟨#[]⟩
  | p :: l => if p.at_ = 0 then p.head else headQ l

theorem C110 (hd : DgR hp d) (hn : d.l.length ≤ 1000000) (h : K (.string (headQ d.l)) hp) : CF Try.prog 110 [ptr d.blk 0] hp K := by
  refine F110_ok _ hp K ?_
  unfold F110
  obtain ⟨h0, c, h1, h2, h3⟩ := hd
  have hc : ∀ o, hp.cell d.blk o = [Value.int .i64 d.id, .int .i64 d.due, .int .i64 d.fin, .slice (some ⟨d.rblk, 0, none⟩) d.l.length c][o]? := fun o => HP.cell_of h2
  have sh : Shows hp (some ⟨d.rblk, 0, none⟩) d.l.length 6 (d.l.flatMap pc) := .inr ⟨d.rblk, 0, rfl, by rw [HP.cellN_of h3]; exact cellsN_all (by rw [flat_len pc_len])⟩
  simp only [ptrN_some, hc, Nat.zero_add, List.getElem?_cons_succ, List.getElem?_cons_zero, ldV_some, slcV_slice]
  unfold F110_j1
  refine LoopP.by (J := fun m (y : Int) hp' => hp' = hp ∧ ∃ i : Nat, y = i ∧ i + m = d.l.length ∧ headQ d.l = headQ (d.l.drop i)) ?_ (n := d.l.length) ⟨rfl, 0, rfl, by omega, by simp⟩
  rintro I m y hp' ⟨rfl, i, rfl, him, hh⟩ hI
  unfold F110_l2
  by_cases hi : i < d.l.length
  · rw [decide_eq_true (by omega : (i : Int) < (d.l.length : Int)), ite2_true]
    obtain ⟨b, o, hao, hg⟩ := sh.get pc_len rfl hi
    have hz : splice [(Value.string ⟨#[]⟩), (Value.string ⟨#[]⟩), (Value.int .i64 0), (Value.bool false), (Value.string ⟨#[]⟩), (Value.string ⟨#[]⟩)] 0 (pc d.l[i]) = pc d.l[i] := splice_all rfl
    have k2 : (pc d.l[i])[2]? = some (.int .i64 d.l[i].at_) := rfl
    have k5 : (pc d.l[i])[5]? = some (.string d.l[i].head) := rfl
    cases hao
    simp only [ptrN_some, Int.toNat_natCast, hg, ldL_some, pc_len, pc_one, if_true, hz, k2, k5, ldV_some, intV_int, strV_string]
    refine ⟨by omega, by omega, ?_⟩
    refine ifI (Nat.le_refl _) ?_
    rw [List.drop_eq_getElem_cons hi, headQ] at hh
    by_cases h0 : d.l[i].at_ = 0
    · have e : (d.l[i].at_ == 0) = true := by simpa using h0
      rw [e, ite2_true]
      rw [if_pos h0] at hh
      rw [hh] at h; exact h
    · have e : (d.l[i].at_ == 0) = false := by simpa using h0
      have w1 : IntKind.wrap .i64 ((i : Int) + 1) = ((i + 1 : Nat) : Int) := wiN (by omega) (by omega)
      rw [e, ite2_false, w1]
      rw [if_neg h0] at hh
      exact hI (m - 1) _ _ (by omega) ⟨rfl, i + 1, rfl, by omega, hh⟩
  · rw [decide_eq_false (by omega : ¬ (i : Int) < (d.l.length : Int)), ite2_false]
    rw [List.drop_of_length_le (by omega), headQ] at hh
    rw [hh] at h; exact h
end

/-! The sort of a datagram's pieces. -/
def cfP (x y : Pc) : Int := if cmpN x.at_ y.at_ ≠ 0 then cmpN x.at_ y.at_ else cmpN x.toW y.toW
theorem cfP_lt {a b : Pc} : ltC cfP a b = true ↔ a.at_ < b.at_ ∨ (a.at_ = b.at_ ∧ a.toW < b.toW) := by
  unfold ltC cfP cmpN
  rw [decide_eq_true_iff]
  repeat' split
  all_goals omega
theorem cfP_ltf {a b : Pc} : ltC cfP a b = false ↔ ¬ (a.at_ < b.at_ ∨ (a.at_ = b.at_ ∧ a.toW < b.toW)) := by
  rw [← cfP_lt]; simp
theorem swo_cfP : Sort.SWO (ltC cfP) where
  irrefl x := by rw [cfP_ltf]; omega
  trans x y z := by simp only [cfP_lt]; omega
  ntrans x y z := by simp only [cfP_ltf]; omega

theorem C125 {x y : Pc} {hp : HP} {K : Value → HP → Prop} (h : K (.int .i64 (cfP x y)) hp) : CF Try.prog 125 [.agg ⟨pc x⟩, .agg ⟨pc y⟩] hp K := by
  refine CF.drop (F125_ok (pc x) (pc y) hp _ ?_)
  unfold F125
  have k2 : ∀ p : Pc, (pc p)[2]? = some (.int .i64 p.at_) := fun _ => rfl
  simp only [k2, ldV_some, intV_int, cellsN_all (pc_len _), ldL_some]
  refine D97 ?_
  rw [intV_int]
  refine C122 ?_
  rw [intV_int]
  refine C122 ?_
  rw [intV_int]
  refine D97 ?_
  rw [intV_int]
  intro b hb
  refine D96 (HP.set_eq ..) ?_
  rw [intV_int]
  exact ⟨hp, HSub.set_fresh hp _ hb, h⟩

theorem list_sorted {α : Type} [Inhabited α] {lt : α → α → Bool} {l : List α} {n : Nat} {d' : Array α} (hl : l.length = n) (hpm : Sort.PermIn 0 n l.toArray d') (hst : Sort.SortedIn lt 0 n d') : d'.toList.Perm l ∧ d'.toList.Pairwise (fun x y => lt y x = false) := by
  have hsz : d'.size = n := by rw [hpm.1]; simpa using hl
  refine ⟨?_, ?_⟩
  · have h3 := hpm.2.2
    have e1 : d'.extract 0 n = d' := by rw [← hsz]; simp
    have e2 : l.toArray.extract 0 n = l.toArray := by rw [← hl]; simp
    rw [e1, e2] at h3
    exact h3
  · rw [List.pairwise_iff_getElem]
    intro i j hi hj hij
    have := hst i j (Nat.zero_le _) hij (by simpa [hsz] using hj)
    rw [getElem!_pos d' j (by simpa using hj), getElem!_pos d' i (by simpa using hi)] at this
    simpa using this

end Go.Proofs

namespace Go.HL
open Go

theorem wi {x : Int} {i : Nat} (h : x = i) (hb : i ≤ 9223372036854775807) : IntKind.wrap .i64 x = i := by rw [h]; exact w64 (by omega) (by omega)

section
variable {α : Type} {hp0 : HP} {b : Nat} {e : TypeId} {sp : Nat} {en : α → List Value} {d : Array α}
theorem HA.set_comm {r : Nat} (hr : r ≠ b) (x : Ent) : (HA hp0 b e sp en d).set r x = HA (hp0.set r x) b e sp en d := by
  unfold HA; rw [HP.set_comm _ _ _ hr]
theorem HA.ne_of_none {r : Nat} (h : HA hp0 b e sp en d r = .none) : r ≠ b ∧ hp0 r = .none := by
  have hb : r ≠ b := fun e => by unfold HA at h; rw [e, HP.set_eq] at h; cases h
  refine ⟨hb, ?_⟩
  unfold HA at h
  rwa [HP.set_ne _ _ hb] at h
theorem HA.ne {r : Nat} (h : r ≠ b) : HA hp0 b e sp en d r = hp0 r := by
  unfold HA; rw [HP.set_ne _ _ h]

end

section
variable {α : Type} [Inhabited α] {P : Program} {f : FuncId} {ga gb : List Value} {hp0 : HP} {b : Nat} {e : TypeId} {sp size : Nat} {en : α → List Value} {n : Nat} {cf : α → α → Int} {d : Array α}

theorem cmpP (hc : CmpOk P f ga gb hp0 b e sp en n cf) (he : ∀ x, (en x).length = size) {I J : Int} {i j : Nat} {X : Int → HP → Prop} (hs : d.size = n) (hI : I = i) (hJ : J = j) (hi : i < n) (hj : j < n)
    (h : X (cf d[i]! d[j]!) (HA hp0 b e sp en d)) :
    ((0 ≤ I) ∧ (I < (n : Nat)) ∧ (ptrN (some ⟨b, 0, none⟩) fun b1 o2 => (ldL (HP.cellN (HA hp0 b e sp en d) b1 (o2 + Int.toNat I * size) size) fun l3 => ((0 ≤ J) ∧ (J < (n : Nat)) ∧ (ptrN (some ⟨b, 0, none⟩) fun b4 o5 => (ldL (HP.cellN (HA hp0 b e sp en d) b4 (o5 + Int.toNat J * size) size) fun l6 =>
      (fnV (.func (.func f) ⟨ga⟩ ⟨gb⟩) fun f7 ga8 gb9 => (CF P f7 (ga8 ++ [(Value.agg ⟨l3⟩), (Value.agg ⟨l6⟩)] ++ gb9) (HA hp0 b e sp en d) fun u10 h11 => (intV u10 .i64 fun i12 => X i12 h11))))))))) := by
  subst hI hJ
  have g1 := HA.get (hp0 := hp0) (b := b) (e := e) (sp := sp) he (d := d) (i := i) (by omega)
  have g2 := HA.get (hp0 := hp0) (b := b) (e := e) (sp := sp) he (d := d) (i := j) (by omega)
  simp only [ptrN_some, Int.toNat_natCast, g1, g2, ldL_some, fnV_mk]
  refine ⟨by omega, by omega, by omega, by omega, ?_⟩
  refine hc d _ _ _ hs ?_
  rw [intV_int]
  exact h

theorem swapP (he : ∀ x, (en x).length = size) (h1 : ∀ x, (en x).all one = true) {I J : Int} {i j : Nat} {X : HP → Prop} (hs : d.size = n) (hI : I = i) (hJ : J = j) (hi : i < n) (hj : j < n)
    (h : X (HA hp0 b e sp en (Sort.swp d i j))) :
    ((0 ≤ J) ∧ (J < (n : Nat)) ∧ (ptrN (some ⟨b, 0, none⟩) fun b1 o2 => (ldL (HP.cellN (HA hp0 b e sp en d) b1 (o2 + Int.toNat J * size) size) fun l3 => ((0 ≤ I) ∧ (I < (n : Nat)) ∧ (ptrN (some ⟨b, 0, none⟩) fun b4 o5 => (ldL (HP.cellN (HA hp0 b e sp en d) b4 (o5 + Int.toNat I * size) size) fun l6 =>
      ((0 ≤ I) ∧ (I < (n : Nat)) ∧ (ptrN (some ⟨b, 0, none⟩) fun b7 o8 => ((List.length l3 = size) ∧ (HP.stN (HA hp0 b e sp en d) b7 (o8 + Int.toNat I * size) l3 fun h9 => ((0 ≤ J) ∧ (J < (n : Nat)) ∧ (ptrN (some ⟨b, 0, none⟩) fun b10 o11 => ((List.length l6 = size) ∧ (HP.stN h9 b10 (o11 + Int.toNat J * size) l6 fun h12 => X h12)))))))))))))) := by
  subst hI hJ
  have g1 := HA.get (hp0 := hp0) (b := b) (e := e) (sp := sp) he (d := d) (i := i) (by omega)
  have g2 := HA.get (hp0 := hp0) (b := b) (e := e) (sp := sp) he (d := d) (i := j) (by omega)
  simp only [ptrN_some, Int.toNat_natCast, g1, g2, ldL_some]
  refine ⟨by omega, by omega, by omega, by omega, by omega, by omega, he _, ?_⟩
  refine HA.st he h1 (by omega) _ ?_
  refine ⟨by omega, by omega, he _, ?_⟩
  refine HA.st he h1 (by rw [Array.size_setIfInBounds]; omega) _ ?_
  exact h

/-- A comparison that holds whatever else is known. -/
def CmpX (P : Program) (f : FuncId) (ga gb : List Value) (hp0 : HP) (b : Nat) (e : TypeId) (sp : Nat) (en : α → List Value) (n : Nat) (cf : α → α → Int) : Prop :=
  ∀ hp1, HSub hp0 hp1 → CmpOk P f ga gb hp1 b e sp en n cf

theorem CmpX.sub {hp1 : HP} (h : CmpX P f ga gb hp0 b e sp en n cf) (hs : HSub hp0 hp1) : CmpX P f ga gb hp1 b e sp en n cf := fun hp2 h2 => h hp2 (hs.trans h2)
theorem CmpX.ok (h : CmpX P f ga gb hp0 b e sp en n cf) : CmpOk P f ga gb hp0 b e sp en n cf := h hp0 (HSub.refl _)
end
end Go.HL

set_option linter.unusedVariables false
set_option maxRecDepth 20000
namespace Go.Proofs
open Go Go.HL

theorem half {x y : Nat} (hx : x ≤ 1000000000) (hy : y ≤ 1000000000) : IntKind.wrap .i64 (Int.fdiv (IntKind.wrap .u64 (IntKind.wrap .i64 ((x : Int) + (y : Int)))) (2 ^ (min (Int.toNat 1) (IntKind.bits .u64)))) = (((x + y) / 2 : Nat) : Int) := by
  have e1 : IntKind.wrap .i64 ((x : Int) + (y : Int)) = ((x + y : Nat) : Int) := wiN (by omega) (by omega)
  have e2 : (2 : Int) ^ (min (Int.toNat 1) (IntKind.bits .u64)) = 2 := rfl
  have e3 : IntKind.wrap .u64 ((x + y : Nat) : Int) = ((x + y : Nat) : Int) := by
    exact wu64 (by omega) (by omega)
  rw [e1, e2, e3]
  have e4 : Int.fdiv ((x + y : Nat) : Int) 2 = (((x + y) / 2 : Nat) : Int) := by
    rw [Int.fdiv_eq_ediv_of_nonneg _ (by omega)]; omega
  rw [e4]
  exact wiN rfl (by omega)

theorem swf_zero {α : Type} (g : Nat → α) (a b : Nat) : swf g a b 0 = g := by
  funext k; unfold swf; rw [if_neg (by omega), if_neg (by omega)]
theorem upf_zero {α : Type} (g : Nat → α) (a : Nat) : upf g a a = g := by
  funext k; unfold upf; rw [if_neg (by omega)]; split
  · rename_i h; rw [h]
  · rfl
theorem dnf_zero {α : Type} (g : Nat → α) (m : Nat) : dnf g m m = g := by
  funext k; unfold dnf; rw [if_neg (by omega)]; split
  · rename_i h; rw [h]
  · rfl

section
variable {f : FuncId} {ga gb : List Value} {hp0 : HP} {b sp n c : Nat} {cf : Pc → Pc → Int}

theorem S195 {v : Value} {d : Array Pc} {x y k : Nat} {K : Value → HP → Prop} (hs : d.size = n) (hxy : x + k ≤ y) (hy : y + k ≤ n) (hn : n ≤ 1000000)
    (h : ∀ d', d'.size = n → gA d' = swf (gA d) x y k → Sort.PermIn x (y + k) d d' → K (.tuple ⟨[]⟩) (HA hp0 b 29 sp pc d')) :
    CF Try.prog 195 [.slice (some ⟨b, 0, none⟩) n c, .int .i64 x, .int .i64 y, .int .i64 k, v] (HA hp0 b 29 sp pc d) K := by
  refine F195_ok _ n c x y k v _ K ?_
  unfold F195 F195_j1
  refine LoopP.by (J := fun r (z : Int) hp => ∃ (i : Nat) (d' : Array Pc), z = i ∧ hp = HA hp0 b 29 sp pc d' ∧ d'.size = n ∧ i + r = k ∧ gA d' = swf (gA d) x y i ∧ Sort.PermIn x (y + k) d d') ?_
    (n := k) ⟨0, d, rfl, rfl, hs, by omega, (swf_zero _ _ _).symm, Sort.permIn_refl d _ _⟩
  rintro I r z hp ⟨i, d', rfl, rfl, hs', hir, hg, hp'⟩ hI
  unfold F195_l2
  by_cases hi : i < k
  · rw [decide_eq_true (by omega : (i : Int) < (k : Int)), ite2_true]
    have w1 : IntKind.wrap .i64 ((x : Int) + (i : Int)) = ((x + i : Nat) : Int) := wiN (by omega) (by omega)
    have w2 : IntKind.wrap .i64 ((y : Int) + (i : Int)) = ((y + i : Nat) : Int) := wiN (by omega) (by omega)
    have w3 : IntKind.wrap .i64 ((i : Int) + 1) = ((i + 1 : Nat) : Int) := wiN (by omega) (by omega)
    rw [w1, w2, w3]
    refine swapP pc_len pc_one hs' rfl rfl (i := x + i) (j := y + i) (by omega) (by omega) ?_
    refine hI (r - 1) _ _ (by omega) ⟨i + 1, _, rfl, rfl, by rw [swp_size]; exact hs', by omega, swf_step hg (by omega) (by omega), ?_⟩
    exact Sort.permIn_trans _ _ _ _ _ hp' (Sort.swp_permIn d' _ _ _ _ (by omega) (by omega) (by omega) (by omega) (by omega))
  · rw [decide_eq_false (by omega : ¬ (i : Int) < (k : Int)), ite2_false]
    have : i = k := by omega
    subst this
    exact h d' hs' hg hp'

theorem S188 {v : Value} {d : Array Pc} {x m y : Nat} {K : Value → HP → Prop} (hs : d.size = n) (hxm : x < m) (hmy : m < y) (hy : y ≤ n) (hn : n ≤ 1000000)
    (h : ∀ d', d'.size = n → gA d' = rotf (gA d) x m y → Sort.PermIn x y d d' → K (.tuple ⟨[]⟩) (HA hp0 b 29 sp pc d')) :
    CF Try.prog 188 [.slice (some ⟨b, 0, none⟩) n c, .int .i64 x, .int .i64 m, .int .i64 y, v] (HA hp0 b 29 sp pc d) K := by
  refine F188_ok _ n c x m y v _ K ?_
  unfold F188 F188_j1
  have w1 : IntKind.wrap .i64 ((m : Int) - (x : Int)) = ((m - x : Nat) : Int) := wiN (by omega) (by omega)
  have w2 : IntKind.wrap .i64 ((y : Int) - (m : Int)) = ((y - m : Nat) : Int) := wiN (by omega) (by omega)
  rw [w1, w2]
  refine LoopP.by (J := fun r (z : Int × Int) hp => ∃ (i j : Nat) (d' : Array Pc), z = ((i : Int), (j : Int)) ∧ hp = HA hp0 b 29 sp pc d' ∧ d'.size = n ∧ r = i + j ∧ 0 < i ∧ 0 < j ∧ x + i ≤ m ∧ m + j ≤ y ∧ rotf (gA d') (m - i) m (m + j) = rotf (gA d) x m y ∧ Sort.PermIn x y d d') ?_
    (n := (m - x) + (y - m)) ⟨m - x, y - m, d, rfl, rfl, hs, rfl, by omega, by omega, by omega, by omega, by congr 1 <;> omega, Sort.permIn_refl d _ _⟩
  rintro I r z hp ⟨i, j, d', rfl, rfl, hs', hr, hi0, hj0, hi, hj, hg, hp'⟩ hI
  unfold F188_l3
  simp only []
  have w3 : IntKind.wrap .i64 ((m : Int) - (i : Int)) = ((m - i : Nat) : Int) := wiN (by omega) (by omega)
  have w4 : IntKind.wrap .i64 ((m : Int) + (j : Int)) = ((m + j : Nat) : Int) := wiN (by omega) (by omega)
  have w5 : IntKind.wrap .i64 (((m + j : Nat) : Int) - (i : Int)) = ((m + j - i : Nat) : Int) := wiN (by omega) (by omega)
  rw [w3, w4, w5]
  by_cases hij : i = j
  · have e : ((i : Int) != (j : Int)) = false := by rw [hij]; simp
    rw [e, ite2_false]
    unfold F188_j2
    rw [w3]
    refine S195 hs' (by omega) (by omega) hn ?_
    intro d2 hs2 hg2 hp2
    refine h d2 hs2 ?_ (Sort.permIn_trans _ _ _ _ _ hp' (Sort.permIn_mono _ _ _ _ _ _ (by omega) (by omega) (by omega) hp2))
    rw [hg2, rot_same (by omega), ← hg, hij]
  · have e : ((i : Int) != (j : Int)) = true := by rw [bne_iff_ne]; omega
    rw [e, ite2_true]
    by_cases hgt : i > j
    · rw [decide_eq_true (by omega : (i : Int) > (j : Int)), ite2_true]
      have w6 : IntKind.wrap .i64 ((i : Int) - (j : Int)) = ((i - j : Nat) : Int) := wiN (by omega) (by omega)
      rw [w6]
      refine S195 hs' (by omega) (by omega) hn ?_
      intro d2 hs2 hg2 hp2
      refine hI (i - j + j) _ _ (by omega) ⟨i - j, j, d2, rfl, rfl, hs2, rfl, by omega, hj0, by omega, hj, ?_, Sort.permIn_trans _ _ _ _ _ hp' (Sort.permIn_mono _ _ _ _ _ _ (by omega) (by omega) (by omega) hp2)⟩
      rw [hg2, rot_left (by omega) hgt hj0, hg]
    · rw [decide_eq_false (by omega : ¬ (i : Int) > (j : Int)), ite2_false]
      have w6 : IntKind.wrap .i64 ((j : Int) - (i : Int)) = ((j - i : Nat) : Int) := wiN (by omega) (by omega)
      rw [w6]
      refine S195 hs' (by omega) (by omega) hn ?_
      intro d2 hs2 hg2 hp2
      refine hI (i + (j - i)) _ _ (by omega) ⟨i, j - i, d2, rfl, rfl, hs2, rfl, hi0, by omega, hi, by omega, ?_, Sort.permIn_trans _ _ _ _ _ hp' (Sort.permIn_mono _ _ _ _ _ _ (by omega) (by omega) (by omega) hp2)⟩
      rw [hg2, rot_right (by omega) (by omega) hi0, hg]

theorem S170 (hc : CmpOk Try.prog f ga gb hp0 b 29 sp pc n cf) (hS : Sort.SWO (ltC cf)) (hn : n ≤ 1000000) : ∀ (N : Nat) {d : Array Pc} {x m y : Nat} {K : Value → HP → Prop}, y - x ≤ N → d.size = n → x < m → m < y → y ≤ n →
    (∀ d', d'.size = n → Sort.PermIn x y d d' → (Sort.SortedIn (ltC cf) x m d → Sort.SortedIn (ltC cf) m y d → Sort.SortedIn (ltC cf) x y d') → K (.tuple ⟨[]⟩) (HA hp0 b 29 sp pc d')) →
    CF Try.prog 170 [.slice (some ⟨b, 0, none⟩) n c, .int .i64 x, .int .i64 m, .int .i64 y, .func (.func f) ⟨ga⟩ ⟨gb⟩] (HA hp0 b 29 sp pc d) K := by
  intro N
  induction N with
  | zero => intro d x m y K h0 _ h1 h2; omega
  | succ N ih =>
  intro d x m y K hN hs hxm hmy hy h
  refine F170_ok _ n c x m y _ _ K ?_
  unfold F170
  have w1 : IntKind.wrap .i64 ((m : Int) - (x : Int)) = ((m - x : Nat) : Int) := wiN (by omega) (by omega)
  have w2 : IntKind.wrap .i64 ((y : Int) - (m : Int)) = ((y - m : Nat) : Int) := wiN (by omega) (by omega)
  rw [w1]
  by_cases h1 : m = x + 1
  · -- one thing on the left
    have e : (((m - x : Nat) : Int) == 1) = true := by rw [beq_iff_eq]; omega
    rw [e, ite2_true]
    unfold F170_j17
    refine LoopP.by (J := fun r (z : Int × Int) hp => ∃ (i j : Nat), z = ((i : Int), (j : Int)) ∧ hp = HA hp0 b 29 sp pc d ∧ r = j - i ∧ m ≤ i ∧ i ≤ j ∧ j ≤ y ∧ (i = m ∨ ltC cf d[i - 1]! d[x]! = true) ∧ (j = y ∨ ltC cf d[j]! d[x]! = false)) ?_
      (n := y - m) ⟨m, y, rfl, rfl, rfl, by omega, by omega, by omega, .inl rfl, .inl rfl⟩
    rintro I r z hp ⟨i, j, rfl, rfl, rfl, hmi, hij, hjy, q1, q2⟩ hI
    unfold F170_l21
    simp only []
    by_cases hlt : i < j
    · rw [decide_eq_true (by omega : (i : Int) < (j : Int)), ite2_true, half (by omega) (by omega)]
      refine ⟨by decide, ?_⟩
      have w3 : IntKind.wrap .i64 ((((i + j) / 2 : Nat) : Int) + 1) = (((i + j) / 2 + 1 : Nat) : Int) := wiN (by omega) (by omega)
      rw [w3]
      refine cmpP hc pc_len hs rfl rfl (i := (i + j) / 2) (j := x) (by omega) (by omega) ?_
      cases hl : ltC cf d[(i + j) / 2]! d[x]!
      · have e2 : decide (cf d[(i + j) / 2]! d[x]! < 0) = false := hl
        rw [e2, ite2_false]
        exact hI _ _ _ (by omega) ⟨i, (i + j) / 2, rfl, rfl, rfl, hmi, by omega, by omega, q1, .inr hl⟩
      · have e2 : decide (cf d[(i + j) / 2]! d[x]! < 0) = true := hl
        rw [e2, ite2_true]
        exact hI _ _ _ (by omega) ⟨(i + j) / 2 + 1, j, rfl, rfl, rfl, by omega, by omega, hjy, .inr (by simpa using hl), q2⟩
    · rw [decide_eq_false (by omega : ¬ (i : Int) < (j : Int)), ite2_false]
      have hji : j = i := by omega
      subst hji
      unfold F170_j18 F170_j19
      have hf : HL.Found (fun h => ltC cf d[h]! d[x]!) (x + 1) y j := ⟨by omega, hjy, by rw [← h1]; exact q1, q2⟩
      refine LoopP.by (J := fun r (z : Int) hp => ∃ (k : Nat) (d' : Array Pc), z = k ∧ hp = HA hp0 b 29 sp pc d' ∧ d'.size = n ∧ x ≤ k ∧ k + r = j - 1 ∧ gA d' = upf (gA d) x k ∧ Sort.PermIn x y d d') ?_
        (n := j - 1 - x) ⟨x, d, rfl, rfl, hs, Nat.le_refl _, by omega, (upf_zero _ _).symm, Sort.permIn_refl d _ _⟩
      rintro I2 r2 z2 hp2 ⟨k, d', rfl, rfl, hs', hxk, hkr, hg, hp'⟩ hI2
      unfold F170_l20
      have w3 : IntKind.wrap .i64 ((j : Int) - 1) = ((j - 1 : Nat) : Int) := wiN (by omega) (by omega)
      have w4 : IntKind.wrap .i64 ((k : Int) + 1) = ((k + 1 : Nat) : Int) := wiN (by omega) (by omega)
      rw [w3]
      by_cases hk : k < j - 1
      · rw [decide_eq_true (by omega : (k : Int) < ((j - 1 : Nat) : Int)), ite2_true, w4]
        refine swapP pc_len pc_one hs' rfl rfl (i := k) (j := k + 1) (by omega) (by omega) ?_
        refine hI2 (r2 - 1) _ _ (by omega) ⟨k + 1, _, rfl, rfl, by rw [swp_size]; exact hs', by omega, by omega, upf_step hxk hg (by omega), ?_⟩
        exact Sort.permIn_trans _ _ _ _ _ hp' (Sort.swp_permIn d' _ _ _ _ (by omega) (by omega) (by omega) (by omega) (by omega))
      · rw [decide_eq_false (by omega : ¬ (k : Int) < ((j - 1 : Nat) : Int)), ite2_false]
        have hkj : k = j - 1 := by omega
        subst hkj
        exact h d' hs' hp' fun _ s2 => up_sorted hS (by omega) (by rw [← h1]; exact s2) hf hg
  have e : (((m - x : Nat) : Int) == 1) = false := by rw [beq_eq_false_iff_ne]; omega
  rw [e, ite2_false]
  unfold F170_j1
  rw [w2]
  by_cases h2 : y = m + 1
  · -- one thing on the right
    have e : (((y - m : Nat) : Int) == 1) = true := by rw [beq_iff_eq]; omega
    rw [e, ite2_true]
    unfold F170_j12
    refine LoopP.by (J := fun r (z : Int × Int) hp => ∃ (i j : Nat), z = ((i : Int), (j : Int)) ∧ hp = HA hp0 b 29 sp pc d ∧ r = j - i ∧ x ≤ i ∧ i ≤ j ∧ j ≤ m ∧ (i = x ∨ (!ltC cf d[m]! d[i - 1]!) = true) ∧ (j = m ∨ (!ltC cf d[m]! d[j]!) = false)) ?_
      (n := m - x) ⟨x, m, rfl, rfl, rfl, by omega, by omega, by omega, .inl rfl, .inl rfl⟩
    rintro I r z hp ⟨i, j, rfl, rfl, rfl, hmi, hij, hjy, q1, q2⟩ hI
    unfold F170_l16
    simp only []
    by_cases hlt : i < j
    · rw [decide_eq_true (by omega : (i : Int) < (j : Int)), ite2_true, half (by omega) (by omega)]
      refine ⟨by decide, ?_⟩
      have w3 : IntKind.wrap .i64 ((((i + j) / 2 : Nat) : Int) + 1) = (((i + j) / 2 + 1 : Nat) : Int) := wiN (by omega) (by omega)
      rw [w3]
      refine cmpP hc pc_len hs rfl rfl (i := m) (j := (i + j) / 2) (by omega) (by omega) ?_
      cases hl : ltC cf d[m]! d[(i + j) / 2]!
      · have e2 : decide (cf d[m]! d[(i + j) / 2]! < 0) = false := hl
        rw [e2, Bool.not_false, ite2_true]
        exact hI _ _ _ (by omega) ⟨(i + j) / 2 + 1, j, rfl, rfl, rfl, by omega, by omega, hjy, .inr (by simp [hl]), q2⟩
      · have e2 : decide (cf d[m]! d[(i + j) / 2]! < 0) = true := hl
        rw [e2, Bool.not_true, ite2_false]
        exact hI _ _ _ (by omega) ⟨i, (i + j) / 2, rfl, rfl, rfl, hmi, by omega, by omega, q1, .inr (by simp [hl])⟩
    · rw [decide_eq_false (by omega : ¬ (i : Int) < (j : Int)), ite2_false]
      have hji : j = i := by omega
      subst hji
      unfold F170_j13 F170_j14
      have hf : HL.Found (fun h => !ltC cf d[m]! d[h]!) x m j := ⟨hmi, hjy, q1, q2⟩
      refine LoopP.by (J := fun r (z : Int) hp => ∃ (k : Nat) (d' : Array Pc), z = k ∧ hp = HA hp0 b 29 sp pc d' ∧ d'.size = n ∧ k ≤ m ∧ k = j + r ∧ gA d' = dnf (gA d) k m ∧ Sort.PermIn x y d d') ?_
        (n := m - j) ⟨m, d, rfl, rfl, hs, Nat.le_refl _, by omega, (dnf_zero _ _).symm, Sort.permIn_refl d _ _⟩
      rintro I2 r2 z2 hp2 ⟨k, d', rfl, rfl, hs', hxk, hkr, hg, hp'⟩ hI2
      unfold F170_l15
      by_cases hk : j < k
      · rw [decide_eq_true (by omega : (k : Int) > (j : Int)), ite2_true]
        obtain ⟨k', rfl⟩ : ∃ k', k = k' + 1 := ⟨k - 1, by omega⟩
        have w4 : IntKind.wrap .i64 (((k' + 1 : Nat) : Int) - 1) = (k' : Int) := wiN (by omega) (by omega)
        rw [w4]
        refine swapP pc_len pc_one hs' rfl rfl (i := k' + 1) (j := k') (by omega) (by omega) ?_
        refine hI2 (r2 - 1) _ _ (by omega) ⟨k', _, rfl, rfl, by rw [swp_size]; exact hs', by omega, by omega, dnf_step hxk hg (by omega), ?_⟩
        exact Sort.permIn_trans _ _ _ _ _ hp' (Sort.swp_permIn d' _ _ _ _ (by omega) (by omega) (by omega) (by omega) (by omega))
      · rw [decide_eq_false (by omega : ¬ (k : Int) > (j : Int)), ite2_false]
        have hkj : k = j := by omega
        subst hkj
        exact h d' hs' hp' fun s1 _ => by rw [h2]; exact dn_sorted hS (by omega) s1 hf hg
  have e : (((y - m : Nat) : Int) == 1) = false := by rw [beq_eq_false_iff_ne]; omega
  rw [e, ite2_false]
  unfold F170_j2
  rw [half (by omega) (by omega)]
  refine ⟨by decide, ?_⟩
  have hmid0 : x + 1 < (x + y) / 2 := by omega
  generalize hmid : (x + y) / 2 = mid at *
  have w3 : IntKind.wrap .i64 ((mid : Int) + (m : Int)) = ((mid + m : Nat) : Int) := wiN (by omega) (by omega)
  rw [w3]
  -- whatever the bounds of the search
  have go : ∀ lo hi : Nat, (lo = if m > mid then mid + m - y else x) → (hi = if m > mid then mid else m) → F170_j3 (some ⟨b, 0, none⟩) n c x m y (.func (.func f) ⟨ga⟩ ⟨gb⟩) mid ((mid + m : Nat) : Int) lo hi (HA hp0 b 29 sp pc d) K := by
    intro lo hi hlo hhi
    have hb0 : x ≤ lo ∧ lo ≤ hi ∧ hi ≤ m ∧ hi ≤ mid ∧ mid + m - lo ≤ y ∧ m ≤ mid + m - lo := by split at hlo <;> split at hhi <;> omega
    obtain ⟨b1, b2, b3, b4, b5, b6⟩ := hb0
    unfold F170_j3 F170_j4
    have w4 : IntKind.wrap .i64 (((mid + m : Nat) : Int) - 1) = ((mid + m - 1 : Nat) : Int) := wiN (by omega) (by omega)
    rw [w4]
    refine LoopP.by (J := fun r (z : Int × Int) hp => ∃ (i j : Nat), z = ((i : Int), (j : Int)) ∧ hp = HA hp0 b 29 sp pc d ∧ r = j - i ∧ lo ≤ i ∧ i ≤ j ∧ j ≤ hi ∧ (i = lo ∨ (!ltC cf d[mid + m - 1 - (i - 1)]! d[i - 1]!) = true) ∧ (j = hi ∨ (!ltC cf d[mid + m - 1 - j]! d[j]!) = false)) ?_
      (n := hi - lo) ⟨lo, hi, rfl, rfl, rfl, by omega, by omega, by omega, .inl rfl, .inl rfl⟩
    rintro I r z hp ⟨i, j, rfl, rfl, rfl, hmi, hij, hjy, q1, q2⟩ hI
    unfold F170_l11
    simp only []
    by_cases hlt : i < j
    · rw [decide_eq_true (by omega : (i : Int) < (j : Int)), ite2_true, half (by omega) (by omega)]
      refine ⟨by decide, ?_⟩
      have w5 : IntKind.wrap .i64 ((((i + j) / 2 : Nat) : Int) + 1) = (((i + j) / 2 + 1 : Nat) : Int) := wiN (by omega) (by omega)
      have w6 : IntKind.wrap .i64 (((mid + m - 1 : Nat) : Int) - (((i + j) / 2 : Nat) : Int)) = ((mid + m - 1 - (i + j) / 2 : Nat) : Int) := wiN (by omega) (by omega)
      rw [w5, w6]
      refine cmpP hc pc_len hs rfl rfl (i := mid + m - 1 - (i + j) / 2) (j := (i + j) / 2) (by omega) (by omega) ?_
      cases hl : ltC cf d[mid + m - 1 - (i + j) / 2]! d[(i + j) / 2]!
      · have e2 : decide (cf d[mid + m - 1 - (i + j) / 2]! d[(i + j) / 2]! < 0) = false := hl
        rw [e2, Bool.not_false, ite2_true]
        exact hI _ _ _ (by omega) ⟨(i + j) / 2 + 1, j, rfl, rfl, rfl, by omega, by omega, hjy, .inr (by simp [hl]), q2⟩
      · have e2 : decide (cf d[mid + m - 1 - (i + j) / 2]! d[(i + j) / 2]! < 0) = true := hl
        rw [e2, Bool.not_true, ite2_false]
        exact hI _ _ _ (by omega) ⟨i, (i + j) / 2, rfl, rfl, rfl, hmi, by omega, by omega, q1, .inr (by simp [hl])⟩
    rw [decide_eq_false (by omega : ¬ (i : Int) < (j : Int)), ite2_false]
    have hji : j = i := by omega
    subst hji
    have hf : HL.Found (fun c => !ltC cf d[mid + m - 1 - c]! d[c]!) lo hi j := ⟨hmi, hjy, q1, q2⟩
    clear hI
    unfold F170_j5
    have w5 : IntKind.wrap .i64 (((mid + m : Nat) : Int) - (j : Int)) = ((mid + m - j : Nat) : Int) := wiN (by omega) (by omega)
    rw [w5]
    generalize he : mid + m - j = e' at *
    have c1 : x ≤ j ∧ j ≤ mid ∧ j ≤ m ∧ m ≤ e' ∧ mid ≤ e' ∧ e' ≤ y := by omega
    obtain ⟨c1, c2, c3, c4, c5, c6⟩ := c1
    -- behind the rotation
    have fin : ∀ d1 : Array Pc, d1.size = n → gA d1 = rotf (gA d) j m e' → Sort.PermIn x y d d1 → F170_j6 (some ⟨b, 0, none⟩) n c x y (.func (.func f) ⟨ga⟩ ⟨gb⟩) mid j e' (HA hp0 b 29 sp pc d1) K := by
      intro d1 hs1 hg1 hp1
      have rgt : ∀ d2 : Array Pc, d2.size = n → Sort.PermIn x mid d1 d2 → (Sort.SortedIn (ltC cf) x j d1 → Sort.SortedIn (ltC cf) j mid d1 → Sort.SortedIn (ltC cf) x mid d2) → F170_j7 (some ⟨b, 0, none⟩) n c y (.func (.func f) ⟨ga⟩ ⟨gb⟩) mid e' (HA hp0 b 29 sp pc d2) K := by
        intro d2 hs2 hp2 hq2
        have done : ∀ d3 : Array Pc, d3.size = n → Sort.PermIn mid y d2 d3 → (Sort.SortedIn (ltC cf) mid e' d2 → Sort.SortedIn (ltC cf) e' y d2 → Sort.SortedIn (ltC cf) mid y d3) → K (.tuple ⟨[]⟩) (HA hp0 b 29 sp pc d3) := by
          intro d3 hs3 hp3 hq3
          refine h d3 hs3 ?_ ?_
          · exact Sort.permIn_trans _ _ _ _ _ hp1 (Sort.permIn_trans _ _ _ _ _ (Sort.permIn_mono _ _ _ _ _ _ (by omega) (by omega) (by omega) hp2) (Sort.permIn_mono _ _ _ _ _ _ (by omega) (by omega) (by omega) hp3))
          · intro s1 s2
            obtain ⟨p1, p2, p3, p4, p5⟩ := sym_parts hS hxm hmy s1 s2 hmid.symm hlo hhi hf he.symm hg1
            exact sym_done (by omega) c1 c2 c5 c6 p1 p2 p3 p4 p5 hp2 hq2 hp3 hq3
        have none : ¬ (mid < e' ∧ e' < y) → K (.tuple ⟨[]⟩) (HA hp0 b 29 sp pc d2) := by
          intro hno
          refine done d2 hs2 (Sort.permIn_refl d2 _ _) fun t1 t2 => ?_
          rcases Nat.lt_or_ge mid e' with g | g
          · have : e' = y := by omega
            rw [← this]; exact t1
          · have : e' = mid := by omega
            rw [← this]; exact t2
        unfold F170_j7 F170_j8
        by_cases g1 : mid < e'
        · rw [decide_eq_true (by omega : (mid : Int) < (e' : Int)), ite2_true]
          by_cases g2 : e' < y
          · rw [decide_eq_true (by omega : (e' : Int) < (y : Int)), ite2_true]
            exact ih (by omega) hs2 g1 g2 hy done
          · rw [decide_eq_false (by omega : ¬ (e' : Int) < (y : Int)), ite2_false]
            exact none (fun x => g2 x.2)
        · rw [decide_eq_false (by omega : ¬ (mid : Int) < (e' : Int)), ite2_false, ite2_false]
          exact none (fun x => g1 x.1)
      have none : ¬ (x < j ∧ j < mid) → F170_j7 (some ⟨b, 0, none⟩) n c y (.func (.func f) ⟨ga⟩ ⟨gb⟩) mid e' (HA hp0 b 29 sp pc d1) K := by
        intro hno
        refine rgt d1 hs1 (Sort.permIn_refl d1 _ _) fun t1 t2 => ?_
        rcases Nat.lt_or_ge x j with g | g
        · have : j = mid := by omega
          rw [← this]; exact t1
        · have : j = x := by omega
          rw [← this]; exact t2
      unfold F170_j6 F170_j9
      by_cases g1 : x < j
      · rw [decide_eq_true (by omega : (x : Int) < (j : Int)), ite2_true]
        by_cases g2 : j < mid
        · rw [decide_eq_true (by omega : (j : Int) < (mid : Int)), ite2_true]
          exact ih (by omega) hs1 g1 g2 (by omega) rgt
        · rw [decide_eq_false (by omega : ¬ (j : Int) < (mid : Int)), ite2_false]
          exact none (fun x => g2 x.2)
      · rw [decide_eq_false (by omega : ¬ (x : Int) < (j : Int)), ite2_false, ite2_false]
        exact none (fun x => g1 x.1)
    have stay : ¬ (j < m ∧ m < e') → F170_j6 (some ⟨b, 0, none⟩) n c x y (.func (.func f) ⟨ga⟩ ⟨gb⟩) mid j e' (HA hp0 b 29 sp pc d) K := fun hno =>
      fin d hs (rot_id (by omega) c3 c4).symm (Sort.permIn_refl d _ _)
    unfold F170_j10
    by_cases g1 : j < m
    · rw [decide_eq_true (by omega : (j : Int) < (m : Int)), ite2_true]
      by_cases g2 : m < e'
      · rw [decide_eq_true (by omega : (m : Int) < (e' : Int)), ite2_true]
        refine S188 hs g1 g2 (by omega) hn ?_
        intro d1 hs1 hg1 hp1
        exact fin d1 hs1 hg1 (Sort.permIn_mono _ _ _ _ _ _ (by omega) (by omega) (by omega) hp1)
      · rw [decide_eq_false (by omega : ¬ (m : Int) < (e' : Int)), ite2_false]
        exact stay (fun x => g2 x.2)
    · rw [decide_eq_false (by omega : ¬ (j : Int) < (m : Int)), ite2_false, ite2_false]
      exact stay (fun x => g1 x.1)
  by_cases hgt : m > mid
  · rw [decide_eq_true (by omega : (m : Int) > (mid : Int)), ite2_true]
    have w4 : IntKind.wrap .i64 (((mid + m : Nat) : Int) - (y : Int)) = ((mid + m - y : Nat) : Int) := wiN (by omega) (by omega)
    rw [w4]
    exact go _ _ (if_pos hgt).symm (if_pos hgt).symm
  · rw [decide_eq_false (by omega : ¬ (m : Int) > (mid : Int)), ite2_false]
    exact go _ _ (if_neg hgt).symm (if_neg hgt).symm
end

/-- The stable sort of pieces, whole. -/
theorem S145 {hp : HP} {b c n : Nat} {l : List Pc} {K : Value → HP → Prop} (hb : hp b = .cells 29 (l.flatMap pc) ((c - n) * 6)) (hl : l.length = n) (hn : n ≤ 100000)
    (h : ∀ l' : List Pc, l'.Perm l → l'.Pairwise (fun x y => ltC cfP y x = false) → K (.tuple ⟨[]⟩) (hp.set b (.cells 29 (l'.flatMap pc) ((c - n) * 6)))) :
    CF Try.prog 124 [.slice (some ⟨b, 0, none⟩) n c, .func (.func 125) ⟨[]⟩ ⟨[]⟩] hp K := by
  refine F124_ok _ n c _ hp K ?_
  unfold F124
  refine F145_ok _ n c (n : Int) _ hp _ ?_
  unfold F145 F145_j1
  have hc : CmpOk Try.prog 125 [] [] hp b 29 ((c - n) * 6) pc n cfP := fun d x y K _ hK => C125 hK
  have hH : hp = HA hp b 29 ((c - n) * 6) pc l.toArray := by
    unfold HA; exact (HP.set_self hp b _ (by simpa using hb)).symm
  have hls : l.toArray.size = n := by simpa using hl
  -- what is asked of the row behind
  have fin : ∀ d' : Array Pc, Sort.PermIn 0 n l.toArray d' → Sort.SortedIn (ltC cfP) 0 n d' → K (.tuple ⟨[]⟩) (HA hp b 29 ((c - n) * 6) pc d') := by
    intro d' i1 i2
    obtain ⟨g1, g2⟩ := list_sorted hl i1 i2
    exact h _ g1 g2
  -- the merges
  have mrg : ∀ d0 : Array Pc, d0.size = n → Sort.PermIn 0 n l.toArray d0 → Lev (ltC cfP) 20 0 n d0 → F145_j3 (some ⟨b, 0, none⟩) n c n (.func (.func 125) ⟨[]⟩ ⟨[]⟩) 20 (HA hp b 29 ((c - n) * 6) pc d0) (fun u_1 h_2 => K (.tuple ⟨[]⟩) h_2) := by
    intro d0 hs0 hp0 hl0
    unfold F145_j3
    refine LoopP.by (J := fun r (z : Int) hp' => ∃ (w : Nat) (d' : Array Pc), z = w ∧ hp' = HA hp b 29 ((c - n) * 6) pc d' ∧ d'.size = n ∧ 0 < w ∧ w ≤ 200000 ∧ r = n - w ∧ Sort.PermIn 0 n l.toArray d' ∧ Lev (ltC cfP) w 0 n d') ?_
      (n := n - 20) ⟨20, d0, rfl, rfl, hs0, by omega, by omega, rfl, hp0, hl0⟩
    rintro I r z hp' ⟨w, d1, rfl, rfl, hs1, hw0, hw1, rfl, hp1, hl1⟩ hI
    unfold F145_l4
    by_cases hwn : w < n
    rotate_left
    · rw [decide_eq_false (by omega : ¬ (w : Int) < (n : Int)), ite2_false]
      exact fin d1 hp1 (hl1.all (by omega))
    rw [decide_eq_true (by omega : (w : Int) < (n : Int)), ite2_true]
    have w1 : IntKind.wrap .i64 (2 * (w : Int)) = ((2 * w : Nat) : Int) := wiN (by omega) (by omega)
    rw [w1]
    unfold F145_j5
    refine LoopP.by (J := fun r (z : Int × Int) hp' => ∃ (t : Nat) (d' : Array Pc), z = (((2 * w * t : Nat) : Int), ((2 * w * t + 2 * w : Nat) : Int)) ∧ hp' = HA hp b 29 ((c - n) * 6) pc d' ∧ d'.size = n ∧ 2 * w * t ≤ n ∧ r = n - 2 * w * t ∧ Sort.PermIn 0 n l.toArray d' ∧ Lev (ltC cfP) (2 * w) 0 (2 * w * t) d' ∧ Lev (ltC cfP) w (2 * w * t) n d') ?_
      (n := n) ⟨0, d1, by simp, rfl, hs1, by omega, by omega, hp1, Lev.nil, by simpa using hl1⟩
    rintro I2 r2 z2 hp2 ⟨t, d2, rfl, rfl, hs2, ht, rfl, hp2', hla, hlb⟩ hI2
    unfold F145_l8
    simp only []
    have e2w : 2 * w * t = w * (2 * t) := by rw [Nat.mul_comm 2 w, Nat.mul_assoc]
    have e2w1 : 2 * w * t + w = w * (2 * t + 1) := by rw [e2w, Nat.mul_succ]
    have e2w2 : 2 * w * t + 2 * w = w * (2 * t + 1 + 1) := by rw [Nat.mul_succ, ← e2w1]; omega
    have e2w3 : 2 * w * t + 2 * w = 2 * w * (t + 1) := (Nat.mul_succ _ _).symm
    have w2 : IntKind.wrap .i64 (((2 * w * t : Nat) : Int) + (w : Int)) = ((2 * w * t + w : Nat) : Int) := wiN (by omega) (by omega)
    rw [w2]
    by_cases hb2 : 2 * w * t + 2 * w ≤ n
    · rw [decide_eq_true (by omega : ((2 * w * t + 2 * w : Nat) : Int) ≤ (n : Int)), ite2_true]
      have w3 : IntKind.wrap .i64 (((2 * w * t + 2 * w : Nat) : Int) + ((2 * w : Nat) : Int)) = ((2 * w * t + 2 * w + 2 * w : Nat) : Int) := wiN (by omega) (by omega)
      rw [w1, w3]
      refine S170 hc swo_cfP (by omega) (2 * w) (by omega) hs2 (by omega) (by omega) hb2 ?_
      intro d3 hs3 hp3 hq3
      have k1 : Sort.SortedIn (ltC cfP) (2 * w * t) (2 * w * t + w) d2 := by
        have := hlb.part (t := 2 * t) (hi := 2 * w * t + w) hw0 (by omega) (by omega) (by omega)
        rw [← e2w] at this; exact this
      have k2 : Sort.SortedIn (ltC cfP) (2 * w * t + w) (2 * w * t + 2 * w) d2 := by
        have := hlb.part (t := 2 * t + 1) (hi := 2 * w * t + 2 * w) hw0 (by omega) (by omega) (by omega)
        rw [← e2w1] at this; exact this
      have k3 := hq3 k1 k2
      have k4 := (hla.off hp3 (.inl (Nat.le_refl _))).add (by omega) k3
      have k5 := (hlb.up (show 2 * w * t ≤ 2 * w * t + 2 * w by omega)).off hp3 (.inr (Nat.le_refl _))
      refine hI2 (n - 2 * w * (t + 1)) _ _ (by omega) ⟨t + 1, d3, by rw [← e2w3], rfl, hs3, by omega, rfl, Sort.permIn_trans _ _ _ _ _ hp2' (Sort.permIn_mono _ _ _ _ _ _ (by omega) hb2 (by omega) hp3), by rw [← e2w3]; exact k4, by rw [← e2w3]; exact k5⟩
    rw [decide_eq_false (by omega : ¬ ((2 * w * t + 2 * w : Nat) : Int) ≤ (n : Int)), ite2_false]
    have last : ∀ d3 : Array Pc, d3.size = n → Sort.PermIn (2 * w * t) n d2 d3 → Sort.SortedIn (ltC cfP) (2 * w * t) n d3 → F145_j7 (some ⟨b, 0, none⟩) n c n (.func (.func 125) ⟨[]⟩ ⟨[]⟩) w (HA hp b 29 ((c - n) * 6) pc d3) I (fun u_1 h_2 => K (.tuple ⟨[]⟩) h_2) := by
      intro d3 hs3 hp3 hq3
      unfold F145_j7
      have w3 : IntKind.wrap .i64 ((w : Int) * 2) = ((2 * w : Nat) : Int) := wiN (by omega) (by omega)
      rw [w3]
      refine hI (n - 2 * w) _ _ (by omega) ⟨2 * w, d3, rfl, rfl, hs3, by omega, by omega, rfl, Sort.permIn_trans _ _ _ _ _ hp2' (Sort.permIn_mono _ _ _ _ _ _ (by omega) (Nat.le_refl _) (by omega) hp3), ?_⟩
      exact (hla.off hp3 (.inl (Nat.le_refl _))).add (by omega) hq3
    unfold F145_j6
    rw [w2]
    by_cases hm : 2 * w * t + w < n
    · rw [decide_eq_true (by omega : ((2 * w * t + w : Nat) : Int) < (n : Int)), ite2_true]
      refine S170 hc swo_cfP (by omega) (2 * w) (by omega) hs2 (by omega) hm (Nat.le_refl _) ?_
      intro d3 hs3 hp3 hq3
      have k1 : Sort.SortedIn (ltC cfP) (2 * w * t) (2 * w * t + w) d2 := by
        have := hlb.part (t := 2 * t) (hi := 2 * w * t + w) hw0 (by omega) (by omega) (by omega)
        rw [← e2w] at this; exact this
      have k2 : Sort.SortedIn (ltC cfP) (2 * w * t + w) n d2 := by
        have := hlb.part (t := 2 * t + 1) (hi := n) hw0 (by omega) (by omega) (by omega)
        rw [← e2w1] at this; exact this
      exact last d3 hs3 hp3 (hq3 k1 k2)
    · rw [decide_eq_false (by omega : ¬ ((2 * w * t + w : Nat) : Int) < (n : Int)), ite2_false]
      refine last d2 hs2 (Sort.permIn_refl d2 _ _) ?_
      have := hlb.part (t := 2 * t) (hi := n) hw0 (by omega) (by omega) (by omega)
      rw [← e2w] at this; exact this
  -- the blocks
  have z0 : ((0 : Int), (20 : Int)) = (((20 * 0 : Nat) : Int), ((20 * 0 + 20 : Nat) : Int)) := rfl
  rw [z0]
  refine LoopP.by (J := fun r (y : Int × Int) hp' => ∃ (t : Nat) (d' : Array Pc), y = (((20 * t : Nat) : Int), ((20 * t + 20 : Nat) : Int)) ∧ hp' = HA hp b 29 ((c - n) * 6) pc d' ∧ d'.size = n ∧ 20 * t ≤ n ∧ r = n - 20 * t ∧ Sort.PermIn 0 n l.toArray d' ∧ Lev (ltC cfP) 20 0 (20 * t) d') ?_
    (n := n) ⟨0, l.toArray, rfl, hH, hls, by omega, by omega, Sort.permIn_refl _ _ _, Lev.nil⟩
  rintro I r y hp' ⟨t, d1, rfl, rfl, hs1, ht, rfl, hp1, hl1⟩ hI
  unfold F145_l9
  simp only []
  by_cases hb2 : 20 * t + 20 ≤ n
  · rw [decide_eq_true (by omega : ((20 * t + 20 : Nat) : Int) ≤ (n : Int)), ite2_true]
    have w3 : IntKind.wrap .i64 (((20 * t + 20 : Nat) : Int) + 20) = ((20 * (t + 1) + 20 : Nat) : Int) := wiN (by omega) (by omega)
    rw [w3]
    refine S169 hc hs1 (by omega) hb2 (by omega) ?_
    obtain ⟨i1, i2⟩ := Sort.insertionSort_holds swo_cfP d1 (20 * t) (20 * t + 20) (by omega) (by omega)
    have k4 := (hl1.off i1 (.inl (Nat.le_refl _))).add (by omega) i2
    exact hI (n - 20 * (t + 1)) _ _ (by omega) ⟨t + 1, _, rfl, rfl, by rw [i1.1]; exact hs1, by omega, rfl, Sort.permIn_trans _ _ _ _ _ hp1 (Sort.permIn_mono _ _ _ _ _ _ (by omega) hb2 (by omega) i1), k4⟩
  · rw [decide_eq_false (by omega : ¬ ((20 * t + 20 : Nat) : Int) ≤ (n : Int)), ite2_false]
    unfold F145_j2
    refine S169 hc hs1 ht (Nat.le_refl _) (by omega) ?_
    obtain ⟨i1, i2⟩ := Sort.insertionSort_holds swo_cfP d1 (20 * t) n ht (by omega)
    exact mrg _ (by rw [i1.1]; exact hs1) (Sort.permIn_trans _ _ _ _ _ hp1 (Sort.permIn_mono _ _ _ _ _ _ (by omega) (Nat.le_refl _) (by omega) i1)) ((hl1.off i1 (.inl (Nat.le_refl _))).add (by omega) i2)
end Go.Proofs

set_option linter.unusedVariables false
set_option maxRecDepth 20000
namespace Go.Proofs
open Go Go.HL

def e0s : ByteArray := ⟨#[]⟩
/-- A datagram as it is told. -/
def wh (key head data : ByteArray) (n : Int) : List Value := [.string key, .string head, .string data, .int .i64 n]
def joinG : List Pc → ByteArray → Option ByteArray
  | [], w => some w
  | p :: l, w => if p.at_ = w.size then joinG l (w ++ p.data) else none
def wholeQ (fin : Int) (l : List Pc) : Option ByteArray := (joinG l e0s).bind fun w => if (w.size : Int) = fin then some w else none
def whO (key head : ByteArray) (n : Int) : Option ByteArray → List Value
  | some w => wh key head w n
  | none => wh e0s e0s e0s 0

theorem DgR.setl {hp : HP} {d : Dg} {l' : List Pc} {c : Nat} (hne : d.rblk ≠ d.blk) (hd : DgR hp d) (hp' : l'.Perm d.l) (hb : hp d.blk = .cells 135 [.int .i64 d.id, .int .i64 d.due, .int .i64 d.fin, .slice (some ⟨d.rblk, 0, none⟩) d.l.length c] 0) (hc : d.l.length ≤ c) :
    DgR (hp.set d.rblk (.cells 29 (l'.flatMap pc) ((c - d.l.length) * 6))) { d with l := l' } := by
  have hl := hp'.length_eq
  refine ⟨fun e => hd.1 ?_, c, by simpa [hl] using hc, ?_, ?_⟩
  · simp only at e; rw [e] at hl; exact List.eq_nil_of_length_eq_zero hl.symm
  · simp only; rw [HP.set_ne _ _ hne.symm, hl]; exact hb
  · simp only; rw [HP.set_eq, hl]

section
variable {hp : HP} {K : Value → HP → Prop} {d : Dg} {key : ByteArray}

theorem C81 (hd : DgR hp d) (hn : d.l.length ≤ 100000) (hok : ∀ p ∈ d.l, rightP p = true)
    (hneg : d.fin < 0 → K (.tuple ⟨[.agg ⟨wh e0s e0s e0s 0⟩, .bool false]⟩) hp)
    (hpos : 0 ≤ d.fin → ∀ (l' : List Pc) (x : Ent), l'.Perm d.l → l'.Pairwise (fun x y => ltC cfP y x = false) → DgR (hp.set d.rblk x) { d with l := l' } →
      K (.tuple ⟨[.agg ⟨whO key (headQ d.l) d.l.length (wholeQ d.fin l')⟩, .bool (wholeQ d.fin l').isSome]⟩) (hp.set d.rblk x)) :
    CF Try.prog 81 [ptr d.blk 0, .string key] hp K := by
  refine F81_ok _ key hp K ?_
  unfold F81
  have hd0 := hd
  obtain ⟨h0, c, h1, h2, h3⟩ := hd
  have hne : d.rblk ≠ d.blk := fun e => by rw [e, h2] at h3; cases h3
  have hc : ∀ o, hp.cell d.blk o = [Value.int .i64 d.id, .int .i64 d.due, .int .i64 d.fin, .slice (some ⟨d.rblk, 0, none⟩) d.l.length c][o]? := fun o => HP.cell_of h2
  have hz : splice [(Value.string ⟨#[]⟩), (Value.string ⟨#[]⟩), (Value.string ⟨#[]⟩), (Value.int .i64 0)] 0 [(Value.string ⟨#[]⟩), (Value.string ⟨#[]⟩), (Value.string ⟨#[]⟩), (Value.int .i64 0)] = wh e0s e0s e0s 0 := splice_all rfl
  have whl : ∀ a b c d, (wh a b c d).length = 4 := fun _ _ _ _ => rfl
  have who : ∀ a b c d, (wh a b c d).all one = true := fun _ _ _ _ => rfl
  have hz0 : [(Value.string ⟨#[]⟩), (Value.string ⟨#[]⟩), (Value.string ⟨#[]⟩), (Value.int .i64 0)] = wh e0s e0s e0s 0 := rfl
  have hsp : ∀ a b c d a' b' c' d', splice (wh a b c d) 0 (wh a' b' c' d') = wh a' b' c' d' := fun _ _ _ _ _ _ _ _ => splice_all rfl
  simp only [ptrN_some, hc, Nat.zero_add, List.getElem?_cons_succ, List.getElem?_cons_zero, ldV_some, intV_int, slcV_slice, hz0, whl, who, if_true, hsp, cellsN_all (whl _ _ _ _), ldL_some]
  by_cases hf : d.fin < 0
  · rw [decide_eq_true hf, ite2_true]
    exact ifI (Nat.le_refl _) (hneg hf)
  rw [decide_eq_false hf, ite2_false]
  -- behind the head
  have one : F81_j1 (some ⟨d.blk, 0, none⟩) (wh e0s e0s e0s 0) (wh key (headQ d.l) e0s d.l.length) hp K := by
    unfold F81_j1
    simp only [ptrN_some, hc, Nat.zero_add, List.getElem?_cons_succ, List.getElem?_cons_zero, ldV_some, slcV_slice]
    refine S145 h3 rfl hn fun l' hperm hsort => ?_
    have hK := hpos (by omega) l' _ hperm hsort (hd0.setl hne hperm h2 h1)
    generalize hh1 : hp.set d.rblk (.cells 29 (l'.flatMap pc) ((c - d.l.length) * 6)) = hp1 at hK ⊢
    have hc1 : ∀ o, hp1.cell d.blk o = [Value.int .i64 d.id, .int .i64 d.due, .int .i64 d.fin, .slice (some ⟨d.rblk, 0, none⟩) d.l.length c][o]? := fun o => by
      rw [← hh1]; exact HP.cell_of (by rw [HP.set_ne _ _ hne.symm]; exact h2)
    have hll := hperm.length_eq
    have sh : Shows hp1 (some ⟨d.rblk, 0, none⟩) d.l.length 6 (l'.flatMap pc) := .inr ⟨d.rblk, 0, rfl, by rw [← hh1, HP.cellN_of (HP.set_eq ..)]; exact cellsN_all (by rw [flat_len pc_len, hll])⟩
    simp only [ptrN_some, hc1, Nat.zero_add, List.getElem?_cons_succ, List.getElem?_cons_zero, ldV_some, slcV_slice]
    unfold F81_j3
    have hwq : wholeQ d.fin l' = (joinG l' e0s).bind fun w => if (w.size : Int) = d.fin then some w else none := rfl
    -- it is not
    have no : wholeQ d.fin l' = none → K (.tuple ⟨[.agg ⟨wh e0s e0s e0s 0⟩, .bool false]⟩) hp1 := fun e => by rw [e] at hK; exact hK
    refine LoopP.by (J := fun m (y : Int × List Value × List Value) hp' => hp' = hp1 ∧ ∃ (i : Nat) (w : ByteArray), y.1 = i ∧ i + m = d.l.length ∧ y.2.1 = wh e0s e0s e0s 0 ∧ y.2.2 = wh key (headQ d.l) w d.l.length ∧ joinG l' e0s = joinG (l'.drop i) w) ?_ (n := d.l.length)
      ⟨rfl, 0, e0s, rfl, by omega, rfl, rfl, by simp⟩
    rintro I m ⟨y, k4, k6⟩ hp' ⟨rfl, i, w, hy, him, hk4, hk6, hj⟩ hI
    simp only at hy hk4 hk6
    subst hy hk4 hk6
    unfold F81_l4
    simp only []
    have w2 : ∀ a b c d, (wh a b c d)[2]? = some (.string c) := fun _ _ _ _ => rfl
    by_cases hi : i < d.l.length
    · have hil : i < l'.length := by omega
      rw [decide_eq_true (by omega : (i : Int) < (d.l.length : Int)), ite2_true]
      obtain ⟨b, o, hao, hg⟩ := sh.get pc_len hll hi
      have hzp : splice [(Value.string ⟨#[]⟩), (Value.string ⟨#[]⟩), (Value.int .i64 0), (Value.bool false), (Value.string ⟨#[]⟩), (Value.string ⟨#[]⟩)] 0 (pc l'[i]) = pc l'[i] := splice_all rfl
      have k2 : (pc l'[i])[2]? = some (.int .i64 l'[i].at_) := rfl
      have k4 : (pc l'[i])[4]? = some (.string l'[i].data) := rfl
      cases hao
      simp only [ptrN_some, Int.toNat_natCast, hg, ldL_some, pc_len, pc_one, if_true, hzp, k2, k4, w2, ldV_some, intV_int, strV_string, hz0, whl, who, hsp, cellsN_all (whl _ _ _ _)]
      refine ⟨by omega, by omega, ?_⟩
      refine ifI (Nat.le_refl _) ?_
      rw [List.drop_eq_getElem_cons hil, joinG] at hj
      have hr := rightP_iff.1 (hok l'[i] (hperm.mem_iff.1 (List.getElem_mem hil)))
      by_cases ha : l'[i].at_ = w.size
      · have e : (l'[i].at_ != (w.size : Int)) = false := by simpa using ha
        have w1 : IntKind.wrap .i64 ((i : Int) + 1) = ((i + 1 : Nat) : Int) := wiN (by omega) (by omega)
        rw [e, ite2_false, w1]
        rw [if_pos ha] at hj
        refine ⟨by omega, ?_⟩
        rw [if_pos (by decide)]
        exact hI (m - 1) _ _ (by omega) ⟨rfl, i + 1, w ++ l'[i].data, rfl, by omega, rfl, rfl, hj⟩
      · have e : (l'[i].at_ != (w.size : Int)) = true := by simpa using ha
        rw [e, ite2_true]
        rw [if_neg ha] at hj
        refine ifI (Nat.le_refl _) (no ?_)
        rw [hwq, hj]; rfl
    · rw [decide_eq_false (by omega : ¬ (i : Int) < (d.l.length : Int)), ite2_false]
      rw [List.drop_of_length_le (by omega), joinG] at hj
      unfold F81_j2
      simp only [w2, ldV_some, strV_string, ptrN_some, hc1, Nat.zero_add, List.getElem?_cons_succ, List.getElem?_cons_zero, intV_int, hz0, whl, who, if_true, hsp, cellsN_all (whl _ _ _ _), ldL_some]
      by_cases hwf : (w.size : Int) = d.fin
      · have e : ((w.size : Int) != d.fin) = false := by simpa using hwf
        rw [e, ite2_false]
        have hq : wholeQ d.fin l' = some w := by rw [hwq, hj]; simp [hwf]
        rw [hq] at hK
        exact ifI (Nat.le_refl _) hK
      · have e : ((w.size : Int) != d.fin) = true := by simpa using hwf
        rw [e, ite2_true]
        refine ifI (Nat.le_refl _) (no ?_)
        rw [hwq, hj]; simp [hwf]
  have hz2 : ∀ (s : ByteArray) (x : Int), [Value.string key, .string s, .string ⟨#[]⟩, .int .i64 x] = wh key s e0s x := fun _ _ => rfl
  refine ⟨?_, ?_⟩
  · refine C110 hd0 (by omega) ?_
    simp only [strV_string, hz2, whl, who, if_true, hsp]
    exact ifI (Nat.le_refl _) one
  · refine C110 hd0 (by omega) ?_
    simp only [strV_string, hc, Nat.zero_add, List.getElem?_cons_succ, List.getElem?_cons_zero, ldV_some, slcV_slice, hz2, whl, who, if_true, hsp]
    exact ifI (Nat.le_refl _) one
end
end Go.Proofs

set_option linter.unusedVariables false
set_option maxRecDepth 20000
namespace Go.Proofs
open Go Go.HL

def jw (n : Int) : Value := .int .i64 n
def dv (d : Dg) : Value := .pointer (some ⟨d.blk, 0, none⟩)
theorem zeroF {P : Program} {t : TypeId} {z : Value} (h : (P.info? t).bind (·.zero) = some z) (w : World) : (zeroValue t).run P w = .ok z w := by
  cases hi : P.info? t with
  | none => rw [hi] at h; cases h
  | some i => rw [hi] at h; simp only [Option.bind_some] at h; simp [zeroValue, typeInfo, hi, h]
theorem zj : ∀ w : World, (zeroValue 3).run Try.prog w = .ok (.int .i64 0) w := zeroF (by kernel_rfl)
theorem zpt : ∀ w : World, (zeroValue 131).run Try.prog w = .ok (.pointer none) w := zeroF (by kernel_rfl)
theorem jw_get {k : ByteArray} {l : List (ByteArray × Int)} : ((getL k l).map jw).getD (.int .i64 0) = .int .i64 ((getL k l).getD 0) := by cases getL k l <;> rfl

/-- What a store has. -/
structure Stt where
  max : Int
  source : Int
  last : Int
  n : Int
  D : List (ByteArray × Dg)
  of : List (ByteArray × Int)

def stc (S : Stt) (m mo : Nat) : List Value := [.int .i64 S.max, .int .i64 S.source, .int .i64 S.last, .int .i64 S.n, .map (some m), .map (some mo)]
/-- A store in memory, beside what is known. -/
def StR (hp0 hp : HP) (q m mo : Nat) (S : Stt) : Prop :=
  HSub hp0 hp ∧ hp0 q = .none ∧ hp0 m = .none ∧ hp0 mo = .none ∧ m ≠ mo ∧ hp q = .cells 130 (stc S m mo) 0 ∧ MapE sw dv S.D (hp m) ∧ MapE sw jw S.of (hp mo) ∧
  (∀ kd ∈ S.D, DgR hp kd.2 ∧ hp0 kd.2.blk = .none ∧ hp0 kd.2.rblk = .none) ∧ (S.D.map (·.2.blk)).Nodup ∧ (S.D.map (·.2.rblk)).Nodup ∧ (S.D.map (·.1)).Nodup
/-- A step of a store, whatever is known beside it. -/
def Stp (q m mo : Nat) (hp : HP) (S : Stt) (hp' : HP) (S' : Stt) : Prop := ∀ hp0, StR hp0 hp q m mo S → StR hp0 hp' q m mo S'
theorem Stp.refl {q m mo : Nat} {hp : HP} {S : Stt} : Stp q m mo hp S hp S := fun _ h => h
theorem Stp.trans {q m mo : Nat} {a b c : HP} {A B C : Stt} (h : Stp q m mo a A b B) (k : Stp q m mo b B c C) : Stp q m mo a A c C := fun hp0 x => k hp0 (h hp0 x)

theorem mapE_obj {κ ν : Type} {ek : κ → Value} {ev : ν → Value} {l : List (κ × ν)} {e : Ent} (h : MapE ek ev l e) : ∃ o, e = .obj o := by
  obtain ⟨es, clock, he, _⟩ := h; exact ⟨_, he⟩
theorem DgR.ne {hp : HP} {d : Dg} {x : Nat} {e : Ent} (h : DgR hp d) (h1 : x ≠ d.blk) (h2 : x ≠ d.rblk) : DgR (hp.set x e) d := by
  obtain ⟨h0, c, g1, g2, g3⟩ := h
  exact ⟨h0, c, g1, by rw [HP.set_ne _ _ h1.symm]; exact g2, by rw [HP.set_ne _ _ h2.symm]; exact g3⟩
theorem DgR.ne_obj {hp : HP} {d : Dg} {x : Nat} {o : Obj} (h : DgR hp d) (hx : hp x = .obj o) : x ≠ d.blk ∧ x ≠ d.rblk := by
  obtain ⟨h0, c, g1, g2, g3⟩ := h
  exact ⟨fun e => (by rw [e, g2] at hx; cases hx), fun e => (by rw [e, g3] at hx; cases hx)⟩
theorem DgR.ne_st {hp : HP} {d : Dg} {x : Nat} {cs : List Value} (h : DgR hp d) (hx : hp x = .cells 130 cs 0) : x ≠ d.blk ∧ x ≠ d.rblk := by
  obtain ⟨h0, c, g1, g2, g3⟩ := h
  exact ⟨fun e => (by rw [e, g2] at hx; cases hx), fun e => (by rw [e, g3] at hx; cases hx)⟩

section
variable {hp0 hp : HP} {q m mo : Nat} {S : Stt} {K : Value → HP → Prop}

theorem StR.sub {hp' : HP} (h : StR hp0 hp q m mo S) (hs : HSub hp hp') : StR hp0 hp' q m mo S := by
  obtain ⟨h1, h2, h3, h4, h5, h6, h7, h8, h9, h10, h11, h12⟩ := h
  refine ⟨h1.trans hs, h2, h3, h4, h5, hs.cells h6, ?_, ?_, fun kd hk => ⟨(h9 kd hk).1.sub hs, (h9 kd hk).2⟩, h10, h11, h12⟩
  · obtain ⟨es, clock, he, r⟩ := h7; exact ⟨es, clock, hs.obj he, r⟩
  · obtain ⟨es, clock, he, r⟩ := h8; exact ⟨es, clock, hs.obj he, r⟩
theorem StR.cell (h : StR hp0 hp q m mo S) (o : Nat) : hp.cell q o = (stc S m mo)[o]? := HP.cell_of h.2.2.2.2.2.1
theorem StR.mapD (h : StR hp0 hp q m mo S) : MapE sw dv S.D (hp m) := h.2.2.2.2.2.2.1
theorem StR.mapOf (h : StR hp0 hp q m mo S) : MapE sw jw S.of (hp mo) := h.2.2.2.2.2.2.2.1
theorem StR.dg (h : StR hp0 hp q m mo S) {key : ByteArray} {d : Dg} (hg : getL key S.D = some d) : DgR hp d := (h.2.2.2.2.2.2.2.2.1 _ (getL_some_mem hg)).1

/-- The store's own cells. -/
theorem Stp.own {last n : Int} : Stp q m mo hp S (hp.set q (.cells 130 (stc { S with last := last, n := n } m mo) 0)) { S with last := last, n := n } := by
  rintro hp0 ⟨h1, h2, h3, h4, h5, h6, h7, h8, h9, h10, h11, h12⟩
  obtain ⟨o1, e1⟩ := (mapE_obj h7)
  obtain ⟨o2, e2⟩ := (mapE_obj h8)
  refine ⟨h1.up h2 _, h2, h3, h4, h5, HP.set_eq .., ?_, ?_, fun kd hk => ⟨(h9 kd hk).1.ne ((h9 kd hk).1.ne_st h6).1 ((h9 kd hk).1.ne_st h6).2, (h9 kd hk).2⟩, h10, h11, h12⟩
  · rw [HP.set_ne _ _ (fun e => by rw [e, h6] at e1; cases e1)]; exact h7
  · rw [HP.set_ne _ _ (fun e => by rw [e, h6] at e2; cases e2)]; exact h8
/-- How many of a source. -/
theorem Stp.ofs {of : List (ByteArray × Int)} {e : Ent} (he : MapE sw jw of e) : Stp q m mo hp S (hp.set mo e) { S with of := of } := by
  rintro hp0 ⟨h1, h2, h3, h4, h5, h6, h7, h8, h9, h10, h11, h12⟩
  obtain ⟨o2, e2⟩ := (mapE_obj h8)
  refine ⟨h1.up h4 _, h2, h3, h4, h5, ?_, ?_, by simp only; rw [HP.set_eq]; exact he, fun kd hk => ⟨(h9 kd hk).1.ne ((h9 kd hk).1.ne_obj e2).1 ((h9 kd hk).1.ne_obj e2).2, (h9 kd hk).2⟩, h10, h11, h12⟩
  · rw [HP.set_ne _ _ (fun e => by rw [e, e2] at h6; cases h6)]; exact h6
  · rw [HP.set_ne _ _ h5]; exact h7
/-- Fewer datagrams. -/
theorem Stp.fewer {D : List (ByteArray × Dg)} {e : Ent} (he : MapE sw dv D e) (hs : D.Sublist S.D) : Stp q m mo hp S (hp.set m e) { S with D := D } := by
  rintro hp0 ⟨h1, h2, h3, h4, h5, h6, h7, h8, h9, h10, h11, h12⟩
  obtain ⟨o1, e1⟩ := (mapE_obj h7)
  refine ⟨h1.up h3 _, h2, h3, h4, h5, ?_, by simp only; rw [HP.set_eq]; exact he, ?_, fun kd hk => ?_, (hs.map _).nodup h10, (hs.map _).nodup h11, (hs.map _).nodup h12⟩
  · rw [HP.set_ne _ _ (fun e => by rw [e, e1] at h6; cases h6)]; exact h6
  · rw [HP.set_ne _ _ h5.symm]; exact h8
  · have hk' := hs.subset hk
    exact ⟨(h9 kd hk').1.ne ((h9 kd hk').1.ne_obj e1).1 ((h9 kd hk').1.ne_obj e1).2, (h9 kd hk').2⟩

theorem del_sub {κ ν : Type} [DecidableEq κ] (k : κ) : ∀ l : List (κ × ν), (delL k l).Sublist l
  | [] => .slnil
  | p :: l => by
    unfold delL
    split
    · exact List.sublist_cons_self _ _
    · exact (del_sub k l).cons_cons _

/-- What is left of the sources' numbers, and of the pieces', when a datagram goes. -/
def cutOf : List Pc → List (ByteArray × Int) → List (ByteArray × Int)
  | [], of => of
  | p :: l, of => cutOf l (if IntKind.wrap .i64 ((getL p.src of).getD 0 - 1) = 0 then delL p.src (putL p.src (IntKind.wrap .i64 ((getL p.src of).getD 0 - 1)) of) else putL p.src (IntKind.wrap .i64 ((getL p.src of).getD 0 - 1)) of)
def cutN : Nat → Int → Int
  | 0, n => n
  | k + 1, n => cutN k (IntKind.wrap .i64 (n - 1))

theorem C79 {key : ByteArray} {d : Dg} (h : StR hp0 hp q m mo S) (hg : getL key S.D = some d) (hn : d.l.length ≤ 1000000)
    (hK : ∀ hp', Stp q m mo hp S hp' { S with n := cutN d.l.length S.n, D := delL key S.D, of := cutOf d.l S.of } → K (.tuple ⟨[]⟩) hp') :
    CF Try.prog 79 [ptr q 0, .string key] hp K := by
  refine F79_ok _ key hp K ?_
  unfold F79
  have c4 : ∀ S : Stt, (stc S m mo)[4]? = some (.map (some m)) := fun _ => rfl
  have c5 : ∀ S : Stt, (stc S m mo)[5]? = some (.map (some mo)) := fun _ => rfl
  have c3 : ∀ S : Stt, (stc S m mo)[3]? = some (.int .i64 S.n) := fun _ => rfl
  simp only [ptrN_some, h.cell, Nat.zero_add, c4, ldV_some, mapV_map]
  refine rdS_lookup u128 enc9 zpt h.mapD key ?_
  simp only [Bool.false_eq_true, if_false, hg, Option.map_some, Option.getD_some, dv, ptrV_pointer, ptrN_some, Nat.zero_add]
  obtain ⟨h0, c, h1, h2, h3⟩ := h.dg hg
  have hc : ∀ o, hp.cell d.blk o = [Value.int .i64 d.id, .int .i64 d.due, .int .i64 d.fin, .slice (some ⟨d.rblk, 0, none⟩) d.l.length c][o]? := fun o => HP.cell_of h2
  simp only [hc, List.getElem?_cons_succ, List.getElem?_cons_zero, ldV_some, slcV_slice]
  unfold F79_j2
  refine LoopP.by (J := fun k (y : Int) hp' => ∃ (i : Nat) (n' : Int) (of' : List (ByteArray × Int)), y = i ∧ i + k = d.l.length ∧ Stp q m mo hp S hp' { S with n := n', of := of' } ∧ cutN d.l.length S.n = cutN (d.l.length - i) n' ∧ cutOf d.l S.of = cutOf (d.l.drop i) of') ?_ (n := d.l.length)
    ⟨0, S.n, S.of, rfl, by omega, Stp.refl, rfl, rfl⟩
  rintro I k y hp' ⟨i, n', of', rfl, hik, hS, hcn, hco⟩ hI
  have h' := hS hp0 h
  unfold F79_l3
  by_cases hi : i < d.l.length
  · rw [decide_eq_true (by omega : (i : Int) < (d.l.length : Int)), ite2_true]
    obtain ⟨_, c', h1', h2', h3'⟩ := StR.dg h' hg
    have sh : Shows hp' (some ⟨d.rblk, 0, none⟩) d.l.length 6 (d.l.flatMap pc) := .inr ⟨d.rblk, 0, rfl, by rw [HP.cellN_of h3']; exact cellsN_all (by rw [flat_len pc_len])⟩
    obtain ⟨b, o, hao, hgp⟩ := sh.get pc_len rfl hi
    have hz : splice [(Value.string ⟨#[]⟩), (Value.string ⟨#[]⟩), (Value.int .i64 0), (Value.bool false), (Value.string ⟨#[]⟩), (Value.string ⟨#[]⟩)] 0 (pc d.l[i]) = pc d.l[i] := splice_all rfl
    have k1 : (pc d.l[i])[1]? = some (.string d.l[i].src) := rfl
    cases hao
    rw [Nat.zero_add] at hgp
    simp only [ptrN_some, Int.toNat_natCast, hgp, ldL_some, pc_len, pc_one, if_true, hz, h'.cell, Nat.zero_add, c3, ldV_some, intV_int]
    refine ⟨by omega, by omega, ?_⟩
    refine ifI (Nat.le_refl _) ?_
    refine HP.st_at h'.2.2.2.2.2.1 (by simp [stc]) ?_
    have e1 : (stc { S with n := n', of := of' } m mo).set 3 (.int .i64 (IntKind.wrap .i64 (n' - 1))) = stc { S with last := S.last, n := IntKind.wrap .i64 (n' - 1), of := of' } m mo := rfl
    rw [e1]
    have s1 := hS.trans (Stp.own (last := S.last) (n := IntKind.wrap .i64 (n' - 1)))
    have g1 := s1 hp0 h
    generalize hp'.set q (.cells 130 (stc { S with last := S.last, n := IntKind.wrap .i64 (n' - 1), of := of' } m mo) 0) = hp2 at s1 g1 ⊢
    simp only [g1.cell, c5, ldV_some, mapV_map, k1, strV_string]
    refine rdS_lookup u97 enc9 zj g1.mapOf d.l[i].src ?_
    simp only [Bool.false_eq_true, if_false, jw_get, intV_int]
    refine opS_mapUpdate u97 enc9 (ev := jw) g1.mapOf d.l[i].src (IntKind.wrap .i64 ((getL d.l[i].src of').getD 0 - 1)) ?_
    intro e he
    have s2 := s1.trans (Stp.ofs he)
    have g2 := s2 hp0 h
    generalize hp2.set mo e = hp3 at s2 g2 ⊢
    simp only [g2.cell, c5, ldV_some, mapV_map, k1, strV_string]
    refine rdS_lookup u97 enc9 zj g2.mapOf d.l[i].src ?_
    have w1 : IntKind.wrap .i64 ((i : Int) + 1) = ((i + 1 : Nat) : Int) := wiN (by omega) (by omega)
    simp only [Bool.false_eq_true, if_false, jw_get, intV_int, getL_put, if_true, Option.getD_some, Option.map_some, jw]
    have hcn2 : cutN d.l.length S.n = cutN (d.l.length - (i + 1)) (IntKind.wrap .i64 (n' - 1)) := by
      rw [hcn]
      have : d.l.length - i = (d.l.length - (i + 1)) + 1 := by omega
      rw [this]; rfl
    rw [List.drop_eq_getElem_cons hi, cutOf] at hco
    by_cases hv : IntKind.wrap .i64 ((getL d.l[i].src of').getD 0 - 1) = 0
    · have e : (IntKind.wrap .i64 ((getL d.l[i].src of').getD 0 - 1) == 0) = true := by simpa using hv
      rw [e, ite2_true]
      rw [if_pos hv] at hco
      refine opS_delete u97 enc9 g2.mapOf d.l[i].src ?_
      intro e' he'
      have s3 := s2.trans (Stp.ofs he')
      unfold F79_j4
      rw [w1]
      exact hI (k - 1) _ _ (by omega) ⟨i + 1, _, _, rfl, by omega, s3, hcn2, hco⟩
    · have e : (IntKind.wrap .i64 ((getL d.l[i].src of').getD 0 - 1) == 0) = false := by simpa using hv
      rw [e, ite2_false]
      rw [if_neg hv] at hco
      unfold F79_j4
      rw [w1]
      exact hI (k - 1) _ _ (by omega) ⟨i + 1, _, _, rfl, by omega, s2, hcn2, hco⟩
  · rw [decide_eq_false (by omega : ¬ (i : Int) < (d.l.length : Int)), ite2_false]
    have hie : i = d.l.length := by omega
    subst hie
    rw [Nat.sub_self, cutN] at hcn
    rw [List.drop_of_length_le (Nat.le_refl _), cutOf] at hco
    unfold F79_j1
    simp only [ptrN_some, h'.cell, Nat.zero_add, c4, ldV_some, mapV_map]
    refine opS_delete u128 enc9 h'.mapD key ?_
    intro e he
    refine hK _ ?_
    rw [hcn, hco]
    exact hS.trans (Stp.fewer he (del_sub key _))
end
end Go.Proofs

set_option linter.unusedVariables false
set_option maxRecDepth 20000
namespace Go.Proofs
open Go Go.HL

theorem map_inj_of_nodup {α β : Type} {f : α → β} : ∀ {l : List α} {x y : α}, (l.map f).Nodup → x ∈ l → y ∈ l → f x = f y → x = y
  | a :: l, x, y, hn, hx, hy, e => by
    rw [List.map_cons, List.nodup_cons] at hn
    rcases List.mem_cons.1 hx with h1 | h1
    · rcases List.mem_cons.1 hy with h2 | h2
      · rw [h1, h2]
      · exact absurd (List.mem_map.2 ⟨y, h2, by rw [← e, h1]⟩) hn.1
    · rcases List.mem_cons.1 hy with h2 | h2
      · exact absurd (List.mem_map.2 ⟨x, h1, by rw [e, h2]⟩) hn.1
      · exact map_inj_of_nodup hn.2 h1 h2 e

section
variable {κ ν : Type} [DecidableEq κ]
theorem mem_put {k : κ} {v : ν} : ∀ {l : List (κ × ν)} {x : κ × ν}, (l.map (·.1)).Nodup → x ∈ putL k v l → x = (k, v) ∨ (x ∈ l ∧ x.1 ≠ k)
  | [], x, _, h => by simp only [putL, List.mem_singleton] at h; exact .inl h
  | p :: l, x, hn, h => by
    rw [List.map_cons, List.nodup_cons] at hn
    by_cases hk : k = p.1
    · simp only [putL, hk, if_true, List.mem_cons] at h
      rcases h with h | h
      · exact .inl (by rw [h, hk])
      · exact .inr ⟨by simp [h], fun e => hn.1 (by rw [← hk, ← e]; exact List.mem_map.2 ⟨x, h, rfl⟩)⟩
    · simp only [putL, hk, if_false, List.mem_cons] at h
      rcases h with h | h
      · exact .inr ⟨by simp [h], by rw [h]; exact fun e => hk e.symm⟩
      · rcases mem_put hn.2 h with h | ⟨h, h'⟩
        · exact .inl h
        · exact .inr ⟨by simp [h], h'⟩
theorem nodup_put_map {β : Type} {f : ν → β} {k : κ} {v : ν} : ∀ {l : List (κ × ν)}, (l.map (·.1)).Nodup → (l.map (fun x => f x.2)).Nodup → (∀ x ∈ l, x.1 ≠ k → f x.2 ≠ f v) → ((putL k v l).map (fun x => f x.2)).Nodup
  | [], _, _, _ => by simp [putL]
  | p :: l, hk, hf, h => by
    rw [List.map_cons, List.nodup_cons] at hk hf
    by_cases hkp : k = p.1
    · simp only [putL, hkp, if_true, List.map_cons, List.nodup_cons]
      refine ⟨fun hm => ?_, hf.2⟩
      obtain ⟨x, hx, e⟩ := List.mem_map.1 hm
      exact h x (by simp [hx]) (fun e' => hk.1 (by rw [← hkp, ← e']; exact List.mem_map.2 ⟨x, hx, rfl⟩)) e
    · simp only [putL, hkp, if_false, List.map_cons, List.nodup_cons]
      refine ⟨fun hm => ?_, nodup_put_map hk.2 hf.2 fun x hx => h x (by simp [hx])⟩
      obtain ⟨x, hx, e⟩ := List.mem_map.1 hm
      rcases mem_put hk.2 hx with rfl | ⟨hx, _⟩
      · exact h p (by simp) (fun e' => hkp e'.symm) e.symm
      · exact hf.1 (by rw [← e]; exact List.mem_map.2 ⟨x, hx, rfl⟩)
theorem put_same_map {β : Type} {f : κ × ν → β} {k : κ} {v u : ν} : ∀ {l : List (κ × ν)}, getL k l = some u → f (k, v) = f (k, u) → (putL k v l).map f = l.map f
  | [], h, _ => by cases h
  | p :: l, h, e => by
    simp only [getL] at h
    by_cases hk : k = p.1
    · simp only [hk, if_true, Option.some.injEq] at h
      simp only [putL, hk, if_true, List.map_cons]
      have hp : p = (k, u) := Prod.ext hk.symm h
      rw [hp] at *
      simp only [e]
    · simp only [hk, if_false] at h
      simp only [putL, hk, if_false, List.map_cons, put_same_map h e]
end
theorem mapE_same {κ ν : Type} {ek : κ → Value} {ev : ν → Value} {l l' : List (κ × ν)} {e : Ent} (h : MapE ek ev l e) (hl : l'.map (fun p => (ek p.1, ev p.2)) = l.map (fun p => (ek p.1, ev p.2))) : MapE ek ev l' e := by
  obtain ⟨es, clock, h1, h2, h3, h4⟩ := h
  exact ⟨es, clock, h1, h2.trans hl.symm, h3, h4⟩

section
variable {hp0 hp : HP} {q m mo : Nat} {S : Stt} {K : Value → HP → Prop} {p : Pc}

/-- The store, but for one datagram, of which only where it is is known. -/
def Pre (hp0 hp : HP) (q m mo : Nat) (S : Stt) (key : ByteArray) (blk : Nat) (s : Option Addr) : Prop :=
  HSub hp0 hp ∧ hp0 q = .none ∧ hp0 m = .none ∧ hp0 mo = .none ∧ m ≠ mo ∧ hp q = .cells 130 (stc S m mo) 0 ∧ MapE sw jw S.of (hp mo) ∧
  (∀ d : Dg, d.blk = blk → MapE sw dv (putL key d S.D) (hp m)) ∧ hp0 blk = .none ∧ (∀ b, s = some ⟨b, 0, none⟩ → hp0 b = .none) ∧
  (∀ kd ∈ S.D, kd.1 ≠ key → DgR hp kd.2 ∧ hp0 kd.2.blk = .none ∧ hp0 kd.2.rblk = .none ∧ kd.2.blk ≠ blk ∧ ∀ b, s = some ⟨b, 0, none⟩ → kd.2.rblk ≠ b) ∧
  (S.D.map (·.2.blk)).Nodup ∧ (S.D.map (·.2.rblk)).Nodup ∧ (S.D.map (·.1)).Nodup

/-- What stays. -/
def Fr2 (hp hp' : HP) (blk rb : Nat) (s : Option Addr) : Prop := ∀ h0 : HP, HSub h0 hp → h0 blk = .none → (∀ b, s = some ⟨b, 0, none⟩ → h0 b = .none) → HSub h0 hp' ∧ h0 rb = .none

theorem Pre.done {hp' : HP} {key : ByteArray} {d' : Dg} {s : Option Addr} (h : Pre hp0 hp q m mo S key d'.blk s) (hb : ∃ cs, hp d'.blk = .cells 135 cs 0) (hs : ∀ b, s = some ⟨b, 0, none⟩ → ∃ cs sp, hp b = .cells 29 cs sp) (hf : Fr2 hp hp' d'.blk d'.rblk s) (hd : DgR hp' d') : StR hp0 hp' q m mo { S with D := putL key d' S.D } := by
  obtain ⟨h1, h2, h3, h4, h5, h6, h7, h8, h9, h10, h11, h12, h13, h14⟩ := h
  obtain ⟨cs, hb⟩ := hb
  have hM := h8 d' rfl
  obtain ⟨o1, e1⟩ := (mapE_obj hM)
  obtain ⟨o2, e2⟩ := (mapE_obj h7)
  obtain ⟨f1, f2⟩ := hf hp0 h1 h9 h10
  -- one block that is neither
  have keep : ∀ x e, hp x = e → e ≠ .none → x ≠ d'.blk → (∀ b, s = some ⟨b, 0, none⟩ → x ≠ b) → hp' x = e ∧ x ≠ d'.rblk := by
    intro x e hx he hxb hxs
    obtain ⟨g1, g2⟩ := hf (HP.onlyF x e) (HSub.onlyF hx) (HP.onlyF_ne _ hxb.symm) (fun b e' => HP.onlyF_ne _ (hxs b e').symm)
    refine ⟨g1.some (HP.onlyF_eq ..) he, fun e' => ?_⟩
    rw [← e', HP.onlyF_eq] at g2
    exact he g2
  have kq := keep q _ h6 (by simp) (fun e => by rw [e, hb] at h6; cases h6) (fun b e e' => by obtain ⟨c, sp, hc⟩ := hs b e; rw [e', hc] at h6; cases h6)
  have km := keep m _ e1 (by simp) (fun e => by rw [e, hb] at e1; cases e1) (fun b e e' => by obtain ⟨c, sp, hc⟩ := hs b e; rw [e', hc] at e1; cases e1)
  have kmo := keep mo _ e2 (by simp) (fun e => by rw [e, hb] at e2; cases e2) (fun b e e' => by obtain ⟨c, sp, hc⟩ := hs b e; rw [e', hc] at e2; cases e2)
  have ko : ∀ kd ∈ S.D, kd.1 ≠ key → DgR hp' kd.2 ∧ kd.2.rblk ≠ d'.rblk := by
    intro kd hkd hne
    obtain ⟨⟨g0, c, g1, g2, g3⟩, _, _, g4, g5⟩ := h11 kd hkd hne
    have kb := keep kd.2.blk _ g2 (by simp) g4 (fun b e e' => by obtain ⟨c, sp, hc⟩ := hs b e; rw [e', hc] at g2; cases g2)
    have kr := keep kd.2.rblk _ g3 (by simp) (fun e => by rw [e, hb] at g3; cases g3) (fun b e => g5 b e)
    exact ⟨⟨g0, c, g1, kb.1, kr.1⟩, kr.2⟩
  refine ⟨f1, h2, h3, h4, h5, kq.1, ?_, ?_, fun kd hkd => ?_, nodup_put_map (f := fun d : Dg => d.blk) h14 h12 fun x hx hne => (h11 x hx hne).2.2.2.1, nodup_put_map (f := fun d : Dg => d.rblk) h14 h13 fun x hx hne => (ko x hx hne).2, nodup_put h14⟩
  · simp only; rw [km.1, ← e1]; exact hM
  · simp only; rw [kmo.1, ← e2]; exact h7
  · rcases mem_put h14 hkd with rfl | ⟨hkd, hne⟩
    · exact ⟨hd, h9, f2⟩
    · obtain ⟨_, a, b, _, _⟩ := h11 kd hkd hne
      exact ⟨(ko kd hkd hne).1, a, b⟩

/-- The piece is put behind the others, and its end is known, if it is the last. -/
theorem J80 {blk : Nat} {id due fin : Int} {s : Option Addr} {n c : Nat} {l : List Pc} (hb : hp blk = .cells 135 [.int .i64 id, .int .i64 due, .int .i64 fin, .slice s n c] 0) (hr : Row hp s n c 29 6 (l.flatMap pc)) (hl : l.length = n) (hn : n ≤ 1000000)
    (hK : ∀ hp' rb, DgR hp' ⟨blk, rb, id, due, if p.more then fin else p.toW, l ++ [p]⟩ → Fr2 hp hp' blk rb s → F80_j3 (some ⟨q, 0, none⟩) (pc p) hp' K) :
    F80_j1 (some ⟨q, 0, none⟩) (some ⟨blk, 0, none⟩) (pc p) hp K := by
  have hc : ∀ hp', HSub hp hp' → ∀ o, hp'.cell blk o = [Value.int .i64 id, .int .i64 due, .int .i64 fin, .slice s n c][o]? := fun hp' hs o => HP.cell_of (hs.cells hb)
  have hz : splice [(Value.string ⟨#[]⟩), (Value.string ⟨#[]⟩), (Value.int .i64 0), (Value.bool false), (Value.string ⟨#[]⟩), (Value.string ⟨#[]⟩)] 0 (pc p) = pc p := splice_all rfl
  -- behind the append
  have tail : ∀ b, hp b = .none → opS Try.prog (Builtin.append_ #[26, 26] 26 ⟨[.slice s n c, .slice (some ⟨b, 0, none⟩) 1 1]⟩) (hp.set b (.cells 29 (pc p) 0)) fun u h => slcV u fun a n c => HP.st h blk 3 (.slice a n c) fun h => F80_j2 (some ⟨q, 0, none⟩) (some ⟨blk, 0, none⟩) (pc p) h K := by
    intro b hbn
    have sb := HSub.set_fresh hp (.cells 29 (pc p) 0) hbn
    refine opS_appF (e := 29) (size := 6) (bytes := 80) (by kernel_rfl) (hr.sub sb) (.inr ⟨b, 0, rfl, by rw [HP.cellN_of (HP.set_eq ..)]; exact cellsN_all rfl⟩) (pc_one p) (by omega) (by omega) ?_
    intro s3 c3 hp3 hrow hf
    rw [slcV_slice]
    rcases hrow with ⟨_, h0, _, _⟩ | ⟨rb, rfl, hnc, _, hrb⟩
    · omega
    have hb3 : hp3 blk = .cells 135 [.int .i64 id, .int .i64 due, .int .i64 fin, .slice s n c] 0 := by
      have := (hf (HP.onlyF blk (.cells 135 [.int .i64 id, .int .i64 due, .int .i64 fin, .slice s n c] 0)) (HSub.onlyF (sb.cells hb)) (fun b' e => by
        refine HP.onlyF_ne _ fun e' => ?_
        rcases hr with ⟨h0, _, _, _⟩ | ⟨b2, h0, _, _, h3⟩
        · rw [h0] at e; cases e
        · rw [h0] at e; cases e; rw [e', hb] at h3; cases h3)).1
      exact this.cells (HP.onlyF_eq ..)
    have hne : rb ≠ blk := fun e => by rw [e, hb3] at hrb; cases hrb
    have fr : ∀ v, Fr2 hp (hp3.set blk v) blk rb s := fun v h0 g1 g2 g3 => by
      obtain ⟨k1, k2⟩ := hf h0 (g1.trans sb) g3
      exact ⟨k1.up g2 _, k2 rb rfl⟩
    refine HP.st_at hb3 (by simp) ?_
    have hfl : l.flatMap pc ++ pc p = (l ++ [p]).flatMap pc := by simp
    rw [hfl] at hrb
    have dg : ∀ fin' : Int, DgR (hp3.set blk (.cells 135 [.int .i64 id, .int .i64 due, .int .i64 fin', .slice (some ⟨rb, 0, none⟩) (n + 1) c3] 0)) ⟨blk, rb, id, due, fin', l ++ [p]⟩ := fun fin' => by
      refine ⟨by simp, c3, by simp [hl]; exact hnc, ?_, ?_⟩
      · simp only; rw [HP.set_eq]; simp [hl]
      · simp only; rw [HP.set_ne _ _ hne, hrb]; simp [hl]
    unfold F80_j2
    have k3 : (pc p)[3]? = some (.bool p.more) := rfl
    simp only [k3, ldV_some, boolV_bool]
    cases hm : p.more
    · rw [Bool.not_false, ite2_true, cellsN_all (pc_len p), ldL_some]
      refine C122 ?_
      rw [intV_int, ptrN_some]
      refine HP.st_at (HP.set_eq ..) (by simp) ?_
      rw [HP.set_set]
      have := hK _ rb (by rw [hm]; exact dg p.toW) (fr _)
      exact this
    · rw [Bool.not_true, ite2_false]
      exact hK _ rb (by rw [hm]; exact dg fin) (fr _)
  unfold F80_j1
  refine ⟨?_, ?_⟩
  · simp only [ptrN_some, hc hp (HSub.refl _), Nat.zero_add, List.getElem?_cons_succ, List.getElem?_cons_zero, ldV_some, slcV_slice, cellsN_all (pc_len p), ldL_some, hz]
    refine ifI (pc_len p) ?_
    exact tail
  · simp only [ptrN_some, cellsN_all (pc_len p), ldL_some, hz]
    refine ifI (pc_len p) ?_
    intro b hbn
    simp only [hc _ (HSub.set_fresh hp (.cells 29 (pc p) 0) hbn), Nat.zero_add, List.getElem?_cons_succ, List.getElem?_cons_zero, ldV_some, slcV_slice]
    exact tail b hbn

/-- What the store has behind a piece. -/
def takeS (S : Stt) (p : Pc) (last : Int) (d' : Dg) : Stt :=
  { S with last := last, n := IntKind.wrap .i64 (S.n + 1), D := putL p.key d' S.D, of := putL p.src (IntKind.wrap .i64 ((getL p.src S.of).getD 0 + 1)) S.of }

theorem J80c {hp' : HP} (h : StR hp0 hp' q m mo S) (hK : ∀ hp2, Stp q m mo hp' S hp2 { S with n := IntKind.wrap .i64 (S.n + 1), of := putL p.src (IntKind.wrap .i64 ((getL p.src S.of).getD 0 + 1)) S.of } → K (.tuple ⟨[]⟩) hp2) : F80_j3 (some ⟨q, 0, none⟩) (pc p) hp' K := by
  unfold F80_j3
  have c5 : ∀ S : Stt, (stc S m mo)[5]? = some (.map (some mo)) := fun _ => rfl
  have c3 : ∀ S : Stt, (stc S m mo)[3]? = some (.int .i64 S.n) := fun _ => rfl
  have k1 : (pc p)[1]? = some (.string p.src) := rfl
  simp only [ptrN_some, h.cell, Nat.zero_add, c3, ldV_some, intV_int]
  refine HP.st_at h.2.2.2.2.2.1 (by simp [stc]) ?_
  have e1 : (stc S m mo).set 3 (.int .i64 (IntKind.wrap .i64 (S.n + 1))) = stc { S with last := S.last, n := IntKind.wrap .i64 (S.n + 1) } m mo := rfl
  rw [e1]
  have s1 : Stp q m mo hp' S _ _ := Stp.own (last := S.last) (n := IntKind.wrap .i64 (S.n + 1))
  have g1 := s1 hp0 h
  generalize hp'.set q (.cells 130 (stc { S with last := S.last, n := IntKind.wrap .i64 (S.n + 1) } m mo) 0) = hp2 at s1 g1 ⊢
  simp only [g1.cell, c5, ldV_some, mapV_map, k1, strV_string]
  refine rdS_lookup u97 enc9 zj g1.mapOf p.src ?_
  simp only [Bool.false_eq_true, if_false, jw_get, intV_int]
  refine opS_mapUpdate u97 enc9 (ev := jw) g1.mapOf p.src (IntKind.wrap .i64 ((getL p.src S.of).getD 0 + 1)) ?_
  intro e he
  exact hK _ (s1.trans (Stp.ofs he))
theorem put_map_congr {κ ν β : Type} [DecidableEq κ] {f : κ × ν → β} {k : κ} {v u : ν} (e : f (k, v) = f (k, u)) : ∀ l : List (κ × ν), (putL k v l).map f = (putL k u l).map f
  | [] => by simp only [putL, List.map_cons, List.map_nil, e]
  | p :: l => by
    by_cases hk : k = p.1
    · subst hk; simp only [putL, if_true, List.map_cons, e]
    · simp only [putL, hk, if_false, List.map_cons, put_map_congr e l]

/-- What becomes of a piece's datagram. -/
def Took (S : Stt) (p : Pc) (due last' : Int) (d' : Dg) : Prop :=
  (getL p.key S.D = none ∧ last' = IntKind.wrap .i64 (S.last + 1) ∧ d'.id = last' ∧ d'.due = due ∧ d'.fin = (if p.more then -1 else p.toW) ∧ d'.l = [p]) ∨
  ∃ d, getL p.key S.D = some d ∧ last' = S.last ∧ d'.id = d.id ∧ d'.due = d.due ∧ d'.fin = (if p.more then d.fin else p.toW) ∧ d'.l = d.l ++ [p]

theorem C80 {due : Int} (h : StR hp0 hp q m mo S) (hlen : ∀ d, getL p.key S.D = some d → d.l.length ≤ 100000)
    (hK : ∀ hp' d' last', Took S p due last' d' → Stp q m mo hp S hp' (takeS S p last' d') → K (.tuple ⟨[]⟩) hp') : CF Try.prog 80 [ptr q 0, .agg ⟨pc p⟩, .int .i64 due] hp K := by
  refine F80_ok _ (pc p) due hp K ?_
  unfold F80
  have c4 : ∀ S : Stt, (stc S m mo)[4]? = some (.map (some m)) := fun _ => rfl
  have c2 : ∀ S : Stt, (stc S m mo)[2]? = some (.int .i64 S.last) := fun _ => rfl
  have k0 : (pc p)[0]? = some (.string p.key) := rfl
  simp only [ptrN_some, h.cell, Nat.zero_add, c4, k0, ldV_some, mapV_map, strV_string]
  refine rdS_lookup u128 enc9 zpt h.mapD p.key ?_
  simp only [if_true, tup2V_mk, boolV_bool]
  cases hg : getL p.key S.D with
  | none =>
    simp only [Option.map_none, Option.getD_none, Option.isSome_none, ptrV_pointer, boolV_bool, Bool.not_false, ite2_true, ptrN_some, h.cell, Nat.zero_add, c2, ldV_some, intV_int]
    refine HP.st_at h.2.2.2.2.2.1 (by simp [stc]) ?_
    have e1 : (stc S m mo).set 2 (.int .i64 (IntKind.wrap .i64 (S.last + 1))) = stc { S with last := IntKind.wrap .i64 (S.last + 1), n := S.n } m mo := rfl
    rw [e1]
    have s1 : Stp q m mo hp S _ _ := Stp.own (last := IntKind.wrap .i64 (S.last + 1)) (n := S.n)
    have g1 := s1 hp0 h
    generalize hp.set q (.cells 130 (stc { S with last := IntKind.wrap .i64 (S.last + 1), n := S.n } m mo) 0) = hp1 at s1 g1 ⊢
    simp only [ptrN_some, g1.cell, c2, ldV_some, intV_int]
    intro b hb
    have sb := HSub.set_fresh hp1 (.cells 135 [.int .i64 (IntKind.wrap .i64 (S.last + 1)), .int .i64 due, .int .i64 (-1), .slice none 0 0] 0) hb
    have g2 := g1.sub sb
    simp only [ptrN_some, g2.cell, c4, ldV_some, mapV_map, k0, strV_string]
    refine opS_mapUpdate u128 enc9 (ev := dv) g2.mapD p.key ⟨b, b, 0, 0, 0, []⟩ ?_
    intro e he
    obtain ⟨o1, ho1⟩ := (mapE_obj g1.mapD)
    have hbm : b ≠ m := fun e' => by rw [e', ho1] at hb; cases hb
    have hb3 : ((hp1.set b (.cells 135 [.int .i64 (IntKind.wrap .i64 (S.last + 1)), .int .i64 due, .int .i64 (-1), .slice none 0 0] 0)).set m e) b = .cells 135 [.int .i64 (IntKind.wrap .i64 (S.last + 1)), .int .i64 due, .int .i64 (-1), .slice none 0 0] 0 := by
      rw [HP.set_ne _ _ hbm, HP.set_eq]
    refine J80 hb3 (l := []) (.inl ⟨rfl, rfl, rfl, rfl⟩) rfl (by omega) ?_
    intro hp4 rb hd4 hf4
    have st : ∀ hp0', StR hp0' hp q m mo S → StR hp0' hp4 q m mo { S with last := IntKind.wrap .i64 (S.last + 1), n := S.n, D := putL p.key ⟨b, rb, IntKind.wrap .i64 (S.last + 1), due, if p.more then -1 else p.toW, [] ++ [p]⟩ S.D } := by
      intro hp0' x
      have x1 := s1 hp0' x
      have x2 := x1.sub sb
      obtain ⟨a1, a2, a3, a4, a5, a6, a7, a8, a9, a10, a11, a12⟩ := x2
      have hb0 : hp0' b = .none := x1.1.none hb
      obtain ⟨oo, ho⟩ := (mapE_obj a8)
      refine Pre.done (s := none) ⟨a1.up a3 e, a2, a3, a4, a5, ?_, ?_, ?_, hb0, (fun b e => by cases e), ?_, a10, a11, a12⟩ ⟨_, hb3⟩ (fun b e => by cases e) hf4 hd4
      · rw [HP.set_ne _ _ (fun e' => by rw [e'] at a6; obtain ⟨o, ho⟩ := (mapE_obj a7); rw [ho] at a6; cases a6)]; exact a6
      · rw [HP.set_ne _ _ a5.symm]; exact a8
      · intro d hdb
        rw [HP.set_eq]
        exact mapE_same he (put_map_congr (by simp only [dv, hdb]) _)
      · intro kd hkd _
        obtain ⟨o, ho⟩ := (mapE_obj a7)
        obtain ⟨y1, y2, y3⟩ := a9 kd hkd
        refine ⟨y1.ne (y1.ne_obj ho).1 (y1.ne_obj ho).2, y2, y3, fun e' => ?_, fun b e => by cases e⟩
        obtain ⟨_, _, _, z, _⟩ := (x1.2.2.2.2.2.2.2.2.1 kd hkd).1
        rw [e', hb] at z; cases z
    have g4 := st hp0 h
    refine J80c g4 fun hp5 s5 => ?_
    exact hK hp5 ⟨b, rb, IntKind.wrap .i64 (S.last + 1), due, if p.more then -1 else p.toW, [p]⟩ (IntKind.wrap .i64 (S.last + 1)) (.inl ⟨hg, rfl, rfl, rfl, rfl, rfl⟩) fun hp0' x => s5 hp0' (st hp0' x)
  | some d =>
    simp only [Option.map_some, Option.getD_some, Option.isSome_some, dv, ptrV_pointer, boolV_bool, Bool.not_true, ite2_false]
    obtain ⟨h0, c, h1, h2, h3⟩ := h.dg hg
    have hr : Row hp (some ⟨d.rblk, 0, none⟩) d.l.length c 29 6 (d.l.flatMap pc) := .inr ⟨d.rblk, rfl, h1, flat_len pc_len _, h3⟩
    refine J80 h2 hr rfl (by have := hlen d hg; omega) ?_
    intro hp4 rb hd4 hf4
    have st : ∀ hp0', StR hp0' hp q m mo S → StR hp0' hp4 q m mo { S with D := putL p.key ⟨d.blk, rb, d.id, d.due, if p.more then d.fin else p.toW, d.l ++ [p]⟩ S.D } := by
      rintro hp0' ⟨a1, a2, a3, a4, a5, a6, a7, a8, a9, a10, a11, a12⟩
      obtain ⟨y1, y2, y3⟩ := a9 _ (getL_some_mem hg)
      refine Pre.done (s := some ⟨d.rblk, 0, none⟩) ⟨a1, a2, a3, a4, a5, a6, a8, ?_, y2, (fun b e => by cases e; exact y3), ?_, a10, a11, a12⟩ ⟨_, h2⟩ (fun b e => by cases e; exact ⟨_, _, h3⟩) hf4 hd4
      · intro d2 hdb
        exact mapE_same a7 (put_same_map hg (by simp only [dv, hdb]))
      · intro kd hkd hne
        obtain ⟨z1, z2, z3⟩ := a9 kd hkd
        refine ⟨z1, z2, z3, fun e => hne ?_, fun b e e' => hne ?_⟩
        · have := map_inj_of_nodup (f := fun x : ByteArray × Dg => x.2.blk) a10 hkd (getL_some_mem hg) e
          rw [this]
        · cases e
          have := map_inj_of_nodup (f := fun x : ByteArray × Dg => x.2.rblk) a11 hkd (getL_some_mem hg) e'
          rw [this]
    have g4 := st hp0 h
    refine J80c g4 fun hp5 s5 => ?_
    exact hK hp5 ⟨d.blk, rb, d.id, d.due, if p.more then d.fin else p.toW, d.l ++ [p]⟩ S.last (.inr ⟨d, hg, rfl, rfl, rfl, rfl, rfl⟩) fun hp0' x => s5 hp0' (st hp0' x)
end
end Go.Proofs

set_option linter.unusedVariables false
set_option maxRecDepth 20000
namespace Go.Proofs
open Go Go.HL

def zeroW : List Value := wh e0s e0s e0s 0
def cutS (S : Stt) (key : ByteArray) (d : Dg) : Stt := { S with n := cutN d.l.length S.n, D := delL key S.D, of := cutOf d.l S.of }
def setS (S : Stt) (key : ByteArray) (d : Dg) : Stt := { S with D := putL key d S.D }
def okDue (due : Int) : Prop := 0 ≤ due ∧ due ≤ 4611686018427387904
/-- There is room for it in its datagram, or it begins one. -/
def Room (S : Stt) (p : Pc) : Prop := match getL p.key S.D with
  | none => ¬ (p.at_ = 0 ∧ p.more = false)
  | some d => d.l.any (sameP p) = false ∧ fitsQ d.fin d.l p = true

/-- What comes of a piece. -/
inductive PutR (S : Stt) (p : Pc) (due : Int) : List Value → Bool → Int → Stt → Prop
  | arg : ¬ okDue due → PutR S p due zeroW false 1 S
  | form : okDue due → rightP p = false → PutR S p due zeroW false 8 S
  | again (d : Dg) : okDue due → rightP p = true → getL p.key S.D = some d → d.l.any (sameP p) = true → PutR S p due zeroW false 0 S
  | clash (d : Dg) : okDue due → rightP p = true → getL p.key S.D = some d → d.l.any (sameP p) = false → fitsQ d.fin d.l p = false → PutR S p due zeroW false 5 (cutS S p.key d)
  | alone : okDue due → rightP p = true → getL p.key S.D = none → p.at_ = 0 → p.more = false → PutR S p due (wh p.key p.head p.data 1) true 0 S
  | full : okDue due → rightP p = true → Room S p → S.n ≥ S.max → PutR S p due zeroW false 6 S
  | state : okDue due → rightP p = true → Room S p → S.n < S.max → (getL p.src S.of).getD 0 ≥ S.source → PutR S p due zeroW false 11 S
  | part (d' : Dg) (last' : Int) : okDue due → rightP p = true → Room S p → S.n < S.max → (getL p.src S.of).getD 0 < S.source → Took S p due last' d' → d'.fin < 0 → PutR S p due zeroW false 0 (takeS S p last' d')
  | none (d' : Dg) (last' : Int) (l' : List Pc) : okDue due → rightP p = true → Room S p → S.n < S.max → (getL p.src S.of).getD 0 < S.source → Took S p due last' d' → 0 ≤ d'.fin →
      l'.Perm d'.l → l'.Pairwise (fun x y => ltC cfP y x = false) → wholeQ d'.fin l' = Option.none → PutR S p due zeroW false 0 (setS (takeS S p last' d') p.key { d' with l := l' })
  | whole (d' : Dg) (last' : Int) (l' : List Pc) (w : ByteArray) : okDue due → rightP p = true → Room S p → S.n < S.max → (getL p.src S.of).getD 0 < S.source → Took S p due last' d' → 0 ≤ d'.fin →
      l'.Perm d'.l → l'.Pairwise (fun x y => ltC cfP y x = false) → wholeQ d'.fin l' = some w →
      PutR S p due (wh p.key (headQ d'.l) w d'.l.length) true 0 (cutS (setS (takeS S p last' d') p.key { d' with l := l' }) p.key { d' with l := l' })

section
variable {hp0 hp : HP} {q m mo : Nat} {S : Stt} {K : Value → HP → Prop} {p : Pc}

theorem C75 (h : StR hp0 hp q m mo S) (hK : K (.bool false) hp) : CF Try.prog 75 [ptr q 0] hp K := by
  refine F75_ok _ hp K ?_
  unfold F75
  have c4 : (stc S m mo)[4]? = some (.map (some m)) := rfl
  simp only [Option.isNone_some, ite2_false, ptrN_some, h.cell, Nat.zero_add, c4, ldV_some, mapV_map]
  exact hK
theorem C27 (h : StR hp0 hp q m mo S) (hK : K (.int .i64 S.n) hp) : CF Try.prog 27 [ptr q 0] hp K := by
  refine F27_ok _ hp K ?_
  unfold F27
  refine C75 h ?_
  have c3 : (stc S m mo)[3]? = some (.int .i64 S.n) := rfl
  simp only [boolV_bool, ite2_false, ptrN_some, h.cell, Nat.zero_add, c3, ldV_some, intV_int]
  exact hK

theorem C25 {max source : Int} (hbad : ¬ (1 ≤ max ∧ max ≤ 65536 ∧ 1 ≤ source ∧ source ≤ 65536) → K (.tuple ⟨[.pointer none, .int .i64 1]⟩) hp)
    (hok : 1 ≤ max ∧ max ≤ 65536 ∧ 1 ≤ source ∧ source ≤ 65536 → ∀ (q m mo : Nat) (hp' : HP), (∀ hp0, HSub hp0 hp → StR hp0 hp' q m mo ⟨max, source, 0, 0, [], []⟩) → K (.tuple ⟨[ptr q 0, .int .i64 0]⟩) hp') :
    CF Try.prog 25 [.int .i64 max, .int .i64 source] hp K := by
  refine F25_ok max source hp K ?_
  unfold F25
  have bad : ¬ (1 ≤ max ∧ max ≤ 65536 ∧ 1 ≤ source ∧ source ≤ 65536) → F25_j1 max source true hp K := fun h => by
    unfold F25_j1; rw [ite2_true]; exact hbad h
  by_cases h1 : max < 1
  · rw [decide_eq_true h1, ite2_true]; exact bad (by omega)
  rw [decide_eq_false h1, ite2_false]
  by_cases h2 : max > 65536
  · rw [decide_eq_true h2, ite2_true]; exact bad (by omega)
  rw [decide_eq_false h2, ite2_false]
  by_cases h3 : source < 1
  · rw [decide_eq_true h3, ite2_true]; exact bad (by omega)
  rw [decide_eq_false h3, ite2_false]
  by_cases h4 : source > 65536
  · rw [decide_eq_true h4]; exact bad (by omega)
  rw [decide_eq_false h4]
  unfold F25_j1
  rw [ite2_false]
  intro b1 hb1 b2 hb2 b3 hb3
  have n21 : b2 ≠ b1 := fun e => by rw [e, HP.set_eq] at hb2; cases hb2
  have n32 : b3 ≠ b2 := fun e => by rw [e, HP.set_eq] at hb3; cases hb3
  have n31 : b3 ≠ b1 := fun e => by rw [e, HP.set_ne _ _ n21.symm, HP.set_eq] at hb3; cases hb3
  have f2 : hp b2 = .none := by rw [HP.set_ne _ _ n21] at hb2; exact hb2
  have f3 : hp b3 = .none := by rw [HP.set_ne _ _ n32, HP.set_ne _ _ n31] at hb3; exact hb3
  refine hok ⟨by omega, by omega, by omega, by omega⟩ b3 b1 b2 _ fun hp0 hs => ?_
  refine ⟨((hs.up (hs.none hb1) _).up (hs.none f2) _).up (hs.none f3) _, hs.none f3, hs.none hb1, hs.none f2, n21.symm, HP.set_eq .., ?_, ?_, (fun kd h => by cases h), .nil, .nil, .nil⟩
  · rw [HP.set_ne _ _ n31.symm, HP.set_ne _ _ n21.symm, HP.set_eq]; exact MapE.empty _ _
  · rw [HP.set_ne _ _ n32.symm, HP.set_eq]; exact MapE.empty _ _

theorem pre_of {key : ByteArray} {d : Dg} (h : StR hp0 hp q m mo S) (hg : getL key S.D = some d) : Pre hp0 hp q m mo S key d.blk (some ⟨d.rblk, 0, none⟩) := by
  obtain ⟨a1, a2, a3, a4, a5, a6, a7, a8, a9, a10, a11, a12⟩ := h
  obtain ⟨y1, y2, y3⟩ := a9 _ (getL_some_mem hg)
  refine ⟨a1, a2, a3, a4, a5, a6, a8, ?_, y2, (fun b e => by cases e; exact y3), ?_, a10, a11, a12⟩
  · intro d2 hdb
    exact mapE_same a7 (put_same_map hg (by simp only [dv, hdb]))
  · intro kd hkd hne
    obtain ⟨z1, z2, z3⟩ := a9 kd hkd
    refine ⟨z1, z2, z3, fun e => hne ?_, fun b e e' => hne ?_⟩
    · have := map_inj_of_nodup (f := fun x : ByteArray × Dg => x.2.blk) a10 hkd (getL_some_mem hg) e
      rw [this]
    · cases e
      have := map_inj_of_nodup (f := fun x : ByteArray × Dg => x.2.rblk) a11 hkd (getL_some_mem hg) e'
      rw [this]

/-- A datagram's pieces in another order. -/
theorem Stp.order {key : ByteArray} {d : Dg} {l' : List Pc} {x : Ent} (hg : getL key S.D = some d) (hd : DgR hp d) (hd' : DgR (hp.set d.rblk x) { d with l := l' }) : Stp q m mo hp S (hp.set d.rblk x) (setS S key { d with l := l' }) := by
  intro hp0 h
  obtain ⟨h0, c, h1, h2, h3⟩ := hd
  exact Pre.done (d' := { d with l := l' }) (pre_of (d := d) h hg) ⟨_, h2⟩ (fun b e => by cases e; exact ⟨_, _, h3⟩) (fun h0 g1 g2 g3 => ⟨g1.up (g3 _ rfl) _, g3 _ rfl⟩) hd'

theorem C26 {due : Int} (h : StR hp0 hp q m mo S) (hok : okP p) (hlen : ∀ d, getL p.key S.D = some d → d.l.length ≤ 70000) (hri : ∀ d, getL p.key S.D = some d → ∀ x ∈ d.l, rightP x = true)
    (hK : ∀ hp' w b e S', PutR S p due w b e S' → Stp q m mo hp S hp' S' → K (.tuple ⟨[.agg ⟨w⟩, .bool b, .int .i64 e]⟩) hp') :
    CF Try.prog 26 [ptr q 0, .agg ⟨pc p⟩, .int .i64 due] hp K := by
  refine F26_ok _ (pc p) due hp K ?_
  unfold F26
  refine C75 h ?_
  rw [boolV_bool, ite2_false]
  have hz0 : [(Value.string ⟨#[]⟩), (Value.string ⟨#[]⟩), (Value.string ⟨#[]⟩), (Value.int .i64 0)] = wh e0s e0s e0s 0 := rfl
  have whl : ∀ a b c d, (wh a b c d).length = 4 := fun _ _ _ _ => rfl
  have who : ∀ a b c d, (wh a b c d).all one = true := fun _ _ _ _ => rfl
  have hsp : ∀ a b c d a' b' c' d', splice (wh a b c d) 0 (wh a' b' c' d') = wh a' b' c' d' := fun _ _ _ _ _ _ _ _ => splice_all rfl
  have whc : ∀ a b c d, cellsN (wh a b c d) 0 4 = some (wh a b c d) := fun a b c d => cellsN_all (whl a b c d)
  have k0 : (pc p)[0]? = some (.string p.key) := rfl
  have k1 : (pc p)[1]? = some (.string p.src) := rfl
  have k2 : (pc p)[2]? = some (.int .i64 p.at_) := rfl
  have k3 : (pc p)[3]? = some (.bool p.more) := rfl
  have k4 : (pc p)[4]? = some (.string p.data) := rfl
  have k5 : (pc p)[5]? = some (.string p.head) := rfl
  have kN : cellsN (pc p) 0 6 = some (pc p) := cellsN_all (pc_len p)
  have c0 : ∀ S : Stt, (stc S m mo)[0]? = some (.int .i64 S.max) := fun _ => rfl
  have c1 : ∀ S : Stt, (stc S m mo)[1]? = some (.int .i64 S.source) := fun _ => rfl
  have c3 : ∀ S : Stt, (stc S m mo)[3]? = some (.int .i64 S.n) := fun _ => rfl
  have c4 : ∀ S : Stt, (stc S m mo)[4]? = some (.map (some m)) := fun _ => rfl
  have c5 : ∀ S : Stt, (stc S m mo)[5]? = some (.map (some mo)) := fun _ => rfl
  have bad : ¬ okDue due → F26_j1 (some ⟨q, 0, none⟩) due true (pc p) [(Value.string ⟨#[]⟩), (Value.string ⟨#[]⟩), (Value.string ⟨#[]⟩), (Value.int .i64 0)] hp K := by
    intro hd
    unfold F26_j1
    simp only [ite2_true, hz0, whl, who, if_true, hsp, whc, ldL_some]
    exact ifI (Nat.le_refl _) (hK _ _ _ _ _ (.arg hd) Stp.refl)
  by_cases hd1 : due < 0
  · rw [decide_eq_true hd1, ite2_true]; exact bad (by unfold okDue; omega)
  rw [decide_eq_false hd1, ite2_false]
  by_cases hd2 : due > 4611686018427387904
  · rw [decide_eq_true hd2]; exact bad (by unfold okDue; omega)
  rw [decide_eq_false hd2]
  have hod : okDue due := ⟨by omega, by omega⟩
  unfold F26_j1
  rw [ite2_false, kN, ldL_some]
  refine C67 hok ?_
  rw [boolV_bool]
  cases hrp : rightP p
  · simp only [Bool.not_false, ite2_true, hz0, whl, who, if_true, hsp, whc, ldL_some]
    exact ifI (Nat.le_refl _) (hK _ _ _ _ _ (.form hod hrp) Stp.refl)
  rw [Bool.not_true, ite2_false]
  simp only [ptrN_some, h.cell, Nat.zero_add, c4, k0, ldV_some, mapV_map, strV_string]
  refine rdS_lookup u128 enc9 zpt h.mapD p.key ?_
  simp only [if_true, tup2V_mk, boolV_bool]
  -- there is room
  have four : Room S p → F26_j4 (some ⟨q, 0, none⟩) due false (pc p) (wh e0s e0s e0s 0) hp K := by
    intro hroom
    unfold F26_j4
    simp only [ite2_false, ptrN_some, h.cell, Nat.zero_add, c3, c0, ldV_some, intV_int, hz0, whl, who, if_true, hsp, whc, ldL_some, Nat.le_refl]
    by_cases hf : S.n ≥ S.max
    · rw [decide_eq_true hf, ite2_true]
      exact hK _ _ _ _ _ (.full hod hrp hroom hf) Stp.refl
    rw [decide_eq_false hf, ite2_false]
    simp only [c5, c1, k1, ldV_some, mapV_map, strV_string]
    refine rdS_lookup u97 enc9 zj h.mapOf p.src ?_
    simp only [Bool.false_eq_true, if_false, jw_get, intV_int]
    by_cases hs : (getL p.src S.of).getD 0 ≥ S.source
    · rw [decide_eq_true hs, ite2_true]
      exact hK _ _ _ _ _ (.state hod hrp hroom (by omega) hs) Stp.refl
    rw [decide_eq_false hs, ite2_false, kN, ldL_some]
    refine C80 h (fun d hg => by have := hlen d hg; omega) ?_
    intro hp1 d' last' htook s1
    have g1 := s1 hp0 h
    have hg1 : getL p.key (takeS S p last' d').D = some d' := by
      unfold takeS; simp only [getL_put, if_true]
    have hll : d'.l.length ≤ 100000 := by
      rcases htook with ⟨_, _, _, _, _, e⟩ | ⟨d, hg, _, _, _, _, e⟩
      · rw [e]; simp
      · rw [e, List.length_append]; have := hlen d hg; simp only [List.length_cons, List.length_nil]; omega
    have hrr : ∀ x ∈ d'.l, rightP x = true := by
      rcases htook with ⟨_, _, _, _, _, e⟩ | ⟨d, hg, _, _, _, _, e⟩
      · rw [e]; intro x hx; rw [List.mem_singleton] at hx; rw [hx]; exact hrp
      · rw [e]; intro x hx
        rw [List.mem_append, List.mem_singleton] at hx
        rcases hx with hx | hx
        · exact hri d hg x hx
        · rw [hx]; exact hrp
    simp only [ptrN_some, g1.cell, Nat.zero_add, c4, k0, ldV_some, mapV_map, strV_string]
    refine rdS_lookup u128 enc9 zpt g1.mapD p.key ?_
    simp only [Bool.false_eq_true, if_false, hg1, Option.map_some, Option.getD_some, dv, ptrV_pointer]
    refine C81 (g1.dg hg1) hll hrr ?_ ?_
    · intro hneg
      simp only [tup2V_mk, aggV_agg, boolV_bool, whl, who, if_true, hsp, Nat.zero_add, Nat.le_refl, ite2_false]
      unfold F26_j5
      simp only [whl, who, if_true, hsp, whc, ldL_some, Nat.zero_add, Nat.le_refl]
      exact hK _ _ _ _ _ (.part d' last' hod hrp hroom (by omega) (by omega) htook hneg) s1
    · intro hpos l' x hperm hsort hd2
      have s2 := s1.trans (Stp.order hg1 (g1.dg hg1) hd2)
      generalize hp1.set d'.rblk x = hp2 at s2 hd2 ⊢
      cases hw : wholeQ d'.fin l' with
      | none =>
        simp only [whO, Option.isSome_none, tup2V_mk, aggV_agg, boolV_bool, whl, who, if_true, hsp, Nat.zero_add, Nat.le_refl, ite2_false]
        unfold F26_j5
        simp only [whl, who, if_true, hsp, whc, ldL_some, Nat.zero_add, Nat.le_refl]
        exact hK _ _ _ _ _ (.none d' last' l' hod hrp hroom (by omega) (by omega) htook hpos hperm hsort hw) s2
      | some w =>
        simp only [whO, Option.isSome_some, tup2V_mk, aggV_agg, boolV_bool, whl, who, if_true, hsp, Nat.zero_add, Nat.le_refl, ite2_true, k0, ldV_some, strV_string]
        have g2 := s2 hp0 h
        have hg2 : getL p.key (setS (takeS S p last' d') p.key { d' with l := l' }).D = some { d' with l := l' } := by
          unfold setS; simp only [getL_put, if_true]
        refine C79 g2 hg2 (by simp only; rw [hperm.length_eq]; omega) ?_
        intro hp3 s3
        unfold F26_j5
        simp only [whl, who, if_true, hsp, whc, ldL_some, Nat.zero_add, Nat.le_refl]
        exact hK _ _ _ _ _ (.whole d' last' l' w hod hrp hroom (by omega) (by omega) htook hpos hperm hsort hw) (s2.trans s3)
  cases hg : getL p.key S.D with
  | none =>
    simp only [Option.map_none, Option.getD_none, Option.isSome_none, ptrV_pointer, boolV_bool, ite2_false, hz0]
    unfold F26_j2
    simp only [ite2_false]
    unfold F26_j3
    simp only [ite2_false, Bool.not_false, ite2_true, k2, k3, ldV_some, intV_int, boolV_bool]
    by_cases ha : p.at_ = 0
    · have e : (p.at_ == 0) = true := by simpa using ha
      rw [e, ite2_true]
      cases hm : p.more
      · rw [Bool.not_false]
        unfold F26_j4
        have hl3 : [Value.string p.key, .string p.head, .string p.data, .int .i64 1] = wh p.key p.head p.data 1 := rfl
        simp only [ite2_true, k0, k4, k5, ldV_some, strV_string, hl3, whl, who, if_true, hsp, whc, ldL_some, Nat.zero_add, Nat.le_refl]
        exact hK _ _ _ _ _ (.alone hod hrp hg ha hm) Stp.refl
      · rw [Bool.not_true]
        exact four (by unfold Room; rw [hg]; simp [hm])
    · have e : (p.at_ == 0) = false := by simpa using ha
      rw [e, ite2_false]
      exact four (by unfold Room; rw [hg]; simp [ha])
  | some d =>
    simp only [Option.map_some, Option.getD_some, Option.isSome_some, dv, ptrV_pointer, boolV_bool, ite2_true, ptrN_some, Nat.zero_add, hz0]
    have hdg := h.dg hg
    have hl19 := hlen d hg
    obtain ⟨h0, c, h1, h2, h3⟩ := hdg
    have hc : ∀ o, hp.cell d.blk o = [Value.int .i64 d.id, .int .i64 d.due, .int .i64 d.fin, .slice (some ⟨d.rblk, 0, none⟩) d.l.length c][o]? := fun o => HP.cell_of h2
    have sh : Shows hp (some ⟨d.rblk, 0, none⟩) d.l.length 6 (d.l.flatMap pc) := .inr ⟨d.rblk, 0, rfl, by rw [HP.cellN_of h3]; exact cellsN_all (by rw [flat_len pc_len])⟩
    simp only [hc, List.getElem?_cons_succ, List.getElem?_cons_zero, ldV_some, slcV_slice, kN, ldL_some]
    refine C76 (g := sameP p) sh rfl (by omega) (fun x _ K' hK' => C77 hK') ?_
    rw [boolV_bool]
    unfold F26_j2
    cases hany : d.l.any (sameP p)
    rotate_left
    · simp only [ite2_true, hz0, whl, who, if_true, hsp, whc, ldL_some, Nat.zero_add, Nat.le_refl]
      exact hK _ _ _ _ _ (.again d hod hrp hg hany) Stp.refl
    simp only [ite2_false, ite2_true, kN, ldL_some]
    refine C78 (h.dg hg) (by omega) ?_
    rw [boolV_bool]
    unfold F26_j3
    cases hfit : fitsQ d.fin d.l p
    · simp only [Bool.not_false, ite2_true, k0, ldV_some, strV_string]
      refine C79 h hg (by omega) ?_
      intro hp3 s3
      simp only [hz0, whl, who, if_true, hsp, whc, ldL_some, Nat.zero_add, Nat.le_refl]
      exact hK _ _ _ _ _ (.clash d hod hrp hg hany hfit) s3
    · simp only [Bool.not_true, ite2_false]
      exact four (by unfold Room; rw [hg]; exact ⟨hany, hfit⟩)
end
end Go.Proofs

set_option linter.unusedVariables false
namespace Go.HL
open Go

def ssT {T : Type} (en : T → ByteArray) (x : T) : List Value := [sw (en x)]
theorem ss_len {T : Type} {en : T → ByteArray} (x : T) : (ssT en x).length = 1 := rfl
theorem ss_one {T : Type} {en : T → ByteArray} (x : T) : (ssT en x).all one = true := rfl
/-- The comparison that a sort of strings is handed. -/
def CmpOk1 {T : Type} (P : Program) (f : FuncId) (ga gb : List Value) (hp0 : HP) (b : Nat) (e : TypeId) (sp : Nat) (n : Nat) (cf : T → T → Int) (en : T → ByteArray) : Prop :=
  ∀ (d : Array T) (x y : T) (K : Value → HP → Prop), d.size = n → x ∈ d.toList → y ∈ d.toList → K (.int .i64 (cf x y)) (HA hp0 b e sp (ssT en) d) → CF P f (ga ++ [.string (en x), .string (en y)] ++ gb) (HA hp0 b e sp (ssT en) d) K
def CmpX1 {T : Type} (P : Program) (f : FuncId) (ga gb : List Value) (hp0 : HP) (b : Nat) (e : TypeId) (sp : Nat) (n : Nat) (cf : T → T → Int) (en : T → ByteArray) : Prop :=
  ∀ hp1, HSub hp0 hp1 → CmpOk1 P f ga gb hp1 b e sp n cf en

section
variable {P : Program} {f : FuncId} {ga gb : List Value} {hp0 : HP} {b : Nat} {e : TypeId} {sp n : Nat} {T : Type} [Inhabited T] {en : T → ByteArray} {cf : T → T → Int} {d : Array T}
omit [Inhabited T] in
theorem CmpX1.sub {hp1 : HP} (h : CmpX1 P f ga gb hp0 b e sp n cf en) (hs : HSub hp0 hp1) : CmpX1 P f ga gb hp1 b e sp n cf en := fun hp2 h2 => h hp2 (hs.trans h2)
omit [Inhabited T] in
theorem CmpX1.ok (h : CmpX1 P f ga gb hp0 b e sp n cf en) : CmpOk1 P f ga gb hp0 b e sp n cf en := h hp0 (HSub.refl _)
theorem at_mem {i : Nat} (hi : i < d.size) : d[i]! ∈ d.toList := by
  rw [getElem!_pos d i hi]; simp

theorem cmpP1 (hc : CmpOk1 P f ga gb hp0 b e sp n cf en) {I J : Int} {i j : Nat} {X : Int → HP → Prop} (hs : d.size = n) (hI : I = i) (hJ : J = j) (hi : i < n) (hj : j < n)
    (h : X (cf d[i]! d[j]!) (HA hp0 b e sp (ssT en) d)) :
    ((0 ≤ I) ∧ (I < (n : Nat)) ∧ (ptrN (some ⟨b, 0, none⟩) fun b1 o2 => (ldV (HP.cell (HA hp0 b e sp (ssT en) d) b1 (o2 + Int.toNat I * 1)) fun v3 => (strV v3 fun s3 => ((0 ≤ J) ∧ (J < (n : Nat)) ∧ (ptrN (some ⟨b, 0, none⟩) fun b4 o5 => (ldV (HP.cell (HA hp0 b e sp (ssT en) d) b4 (o5 + Int.toNat J * 1)) fun v6 => (strV v6 fun s6 =>
      (fnV (.func (.func f) ⟨ga⟩ ⟨gb⟩) fun f7 ga8 gb9 => (CF P f7 (ga8 ++ [(Value.string s3), (Value.string s6)] ++ gb9) (HA hp0 b e sp (ssT en) d) fun u10 h11 => (intV u10 .i64 fun i12 => X i12 h11))))))))))) := by
  subst hI hJ
  have g1 := HA.get1 (hp0 := hp0) (b := b) (e := e) (sp := sp) (en := fun x => sw (en x)) (d := d) (i := i) (by omega)
  have g2 := HA.get1 (hp0 := hp0) (b := b) (e := e) (sp := sp) (en := fun x => sw (en x)) (d := d) (i := j) (by omega)
  have hss : (fun x => [sw (en x)]) = (ssT en) := rfl
  rw [hss] at g1 g2
  simp only [ptrN_some, Int.toNat_natCast, g1, g2, ldV_some, fnV_mk, sw, strV_string]
  refine ⟨by omega, by omega, by omega, by omega, ?_⟩
  refine hc d _ _ _ hs (at_mem (by omega)) (at_mem (by omega)) ?_
  rw [intV_int]
  exact h

theorem swapP1 {I J : Int} {i j : Nat} {X : HP → Prop} (hs : d.size = n) (hI : I = i) (hJ : J = j) (hi : i < n) (hj : j < n)
    (h : X (HA hp0 b e sp (ssT en) (Sort.swp d i j))) :
    ((0 ≤ J) ∧ (J < (n : Nat)) ∧ (ptrN (some ⟨b, 0, none⟩) fun b1 o2 => (ldV (HP.cell (HA hp0 b e sp (ssT en) d) b1 (o2 + Int.toNat J * 1)) fun v3 => (strV v3 fun s3 => ((0 ≤ I) ∧ (I < (n : Nat)) ∧ (ptrN (some ⟨b, 0, none⟩) fun b4 o5 => (ldV (HP.cell (HA hp0 b e sp (ssT en) d) b4 (o5 + Int.toNat I * 1)) fun v6 => (strV v6 fun s6 =>
      ((0 ≤ I) ∧ (I < (n : Nat)) ∧ (ptrN (some ⟨b, 0, none⟩) fun b7 o8 => (HP.st (HA hp0 b e sp (ssT en) d) b7 (o8 + Int.toNat I * 1) (Value.string s3) fun h9 => ((0 ≤ J) ∧ (J < (n : Nat)) ∧ (ptrN (some ⟨b, 0, none⟩) fun b10 o11 => (HP.st h9 b10 (o11 + Int.toNat J * 1) (Value.string s6) fun h12 => X h12)))))))))))))) := by
  subst hI hJ
  have g1 := HA.get1 (hp0 := hp0) (b := b) (e := e) (sp := sp) (en := fun x => sw (en x)) (d := d) (i := i) (by omega)
  have g2 := HA.get1 (hp0 := hp0) (b := b) (e := e) (sp := sp) (en := fun x => sw (en x)) (d := d) (i := j) (by omega)
  have hss : (fun x => [sw (en x)]) = (ssT en) := rfl
  rw [hss] at g1 g2
  simp only [ptrN_some, Int.toNat_natCast, g1, g2, ldV_some, sw, strV_string]
  refine ⟨by omega, by omega, by omega, by omega, by omega, by omega, ?_⟩
  refine HA.st1 (en := fun x => sw (en x)) (by omega) _ ?_
  refine ⟨by omega, by omega, ?_⟩
  refine HA.st1 (en := fun x => sw (en x)) (by rw [Array.size_setIfInBounds]; omega) _ ?_
  exact h
end
end Go.HL

set_option linter.unusedVariables false
set_option maxRecDepth 20000
namespace Go.Proofs
open Go Go.HL
-- 180 slices.insertionSortCmpFunc[string]
section
variable (e : Env) (x0a : Option Addr) (x0n x0c : Nat) (x1 x2 : Int) (x3 : Value) (x8 x9 : Int) (hp : HP) (K : Env → PV → HP → Prop)
abbrev R180 (p : List Nat) (n : Nat) := RW Try.prog 53 [] (opsAt Try.f180 p) (List.range n)
theorem F180_r0 : R180 [1, 0, 0, 0, 0] 3 (upd (upd e 8 (sI x8)) 2 (sI x2)) V0 hp K =
    (K (upd (upd (upd (upd (upd e 8 (sI x8)) 2 (sI x2)) 12 (sI x8)) 13 (sI x2)) 14 (sB (decide (x8 < x2)))) V0 hp) := by kernel_rfl
theorem F180_r1 : R180 [1, 0, 0, 1, 1] 3 (upd e 8 (sI x8)) V0 hp K =
    (K (upd (upd (upd (upd e 8 (sI x8)) 15 (sI x8)) 16 (sI ((wr (x8 + 1))))) 8 (sI ((wr (x8 + 1))))) V0 hp) := by kernel_rfl
def F180_j3 (x0a : Option Addr) (x0n : Nat) (x0c : Nat) (x1 : Int) (x2 : Int) (x3 : Value) (x8 : Int) (hp : HP) (I2 : (Int) → HP → Prop) (K : Value → HP → Prop) : Prop :=
  (I2 (IntKind.wrap .i64 (x8 + 1)) hp)
theorem F180_r2 : R180 [1, 0, 0, 1, 0, 0, 1, 0, 0, 1, 0, 0] 18 (upd (upd e 9 (sI x9)) 0 (sS x0a x0n x0c)) V0 hp K =
    ((0 ≤ ((wr (x9 - 1)) : Int)) ∧ (((wr (x9 - 1)) : Int) < x0n) ∧ (ptrN x0a fun b1 o2 => (ldV (HP.cell hp b1 (o2 + Int.toNat (wr (x9 - 1)) * 1)) fun v3 => (strV v3 fun s4 => ((0 ≤ x9) ∧ (x9 < x0n) ∧ (ptrN x0a fun b5 o6 => (ldV (HP.cell hp b5 (o6 + Int.toNat x9 * 1)) fun v7 => (strV v7 fun s8 => ((0 ≤ x9) ∧ (x9 < x0n) ∧ (ptrN x0a fun b9 o10 => (HP.st hp b9 (o10 + Int.toNat x9 * 1) (.string s4) fun h11 => ((0 ≤ ((wr (x9 - 1)) : Int)) ∧ (((wr (x9 - 1)) : Int) < x0n) ∧ (ptrN x0a fun b12 o13 => (HP.st h11 b12 (o13 + Int.toNat (wr (x9 - 1)) * 1) (.string s8) fun h14 => (K (upd (upd (upd (upd (upd (upd (upd (upd (upd (upd (upd (upd (upd (upd (upd (upd (upd (upd e 9 (sI x9)) 0 (sS x0a x0n x0c)) 37 (sS x0a x0n x0c)) 38 (sI x9)) 39 (sS x0a x0n x0c)) 40 (sI x9)) 41 (sI ((wr (x9 - 1))))) 42 (sS x0a x0n x0c)) 43 (sI x9)) 44 (sI ((wr (x9 - 1))))) 45 (sV (ptr b1 (o2 + Int.toNat (wr (x9 - 1)) * 1)))) 46 (sV (.string s4))) 47 (sS x0a x0n x0c)) 48 (sI x9)) 49 (sQ b5 (o6 + Int.toNat x9 * 1))) 50 (sV (.string s8))) 51 (sQ b9 (o10 + Int.toNat x9 * 1))) 52 (sV (ptr b12 (o13 + Int.toNat (wr (x9 - 1)) * 1)))) V0 h14))))))))))))))) := by kernel_rfl
theorem F180_r3 : R180 [1, 0, 0, 1, 0, 0, 1, 0, 0, 1, 1] 3 (upd e 9 (sI x9)) V0 hp K =
    (K (upd (upd (upd (upd e 9 (sI x9)) 35 (sI x9)) 36 (sI ((wr (x9 - 1))))) 9 (sI ((wr (x9 - 1))))) V0 hp) := by kernel_rfl
def F180_j6 (x0a : Option Addr) (x0n : Nat) (x0c : Nat) (x1 : Int) (x2 : Int) (x3 : Value) (x8 : Int) (x9 : Int) (x34 : Bool) (hp : HP) (I2 : (Int) → HP → Prop) (I5 : (Int) → HP → Prop) (K : Value → HP → Prop) : Prop :=
  (ite2 x34 ((0 ≤ ((IntKind.wrap .i64 (x9 - 1)) : Int)) ∧ (((IntKind.wrap .i64 (x9 - 1)) : Int) < x0n) ∧ (ptrN x0a fun b_1 o_2 => (ldV (HP.cell hp b_1 (o_2 + Int.toNat (IntKind.wrap .i64 (x9 - 1)) * 1)) fun v_3 => (strV v_3 fun s_4 => ((0 ≤ x9) ∧ (x9 < x0n) ∧ (ptrN x0a fun b_5 o_6 => (ldV (HP.cell hp b_5 (o_6 + Int.toNat x9 * 1)) fun v_7 => (strV v_7 fun s_8 => ((0 ≤ x9) ∧ (x9 < x0n) ∧ (ptrN x0a fun b_9 o_10 => (HP.st hp b_9 (o_10 + Int.toNat x9 * 1) (.string s_4) fun h_11 => ((0 ≤ ((IntKind.wrap .i64 (x9 - 1)) : Int)) ∧ (((IntKind.wrap .i64 (x9 - 1)) : Int) < x0n) ∧ (ptrN x0a fun b_12 o_13 => (HP.st h_11 b_12 (o_13 + Int.toNat (IntKind.wrap .i64 (x9 - 1)) * 1) (.string s_8) fun h_14 => (I5 (IntKind.wrap .i64 (x9 - 1)) h_14))))))))))))))) (F180_j3 x0a x0n x0c x1 x2 x3 x8 hp I2 K))
theorem F180_r4 : R180 [1, 0, 0, 1, 0, 0, 1, 0, 0, 0, 0] 17 (upd (upd (upd (upd e 9 (sI x9)) 3 (sV x3)) 1 (sI x1)) 0 (sS x0a x0n x0c)) V0 hp K =
    (ite2 (decide (x9 > x1)) ((0 ≤ x9) ∧ (x9 < x0n) ∧ (ptrN x0a fun b1 o2 => (ldV (HP.cell hp b1 (o2 + Int.toNat x9 * 1)) fun v3 => (strV v3 fun s4 => ((0 ≤ ((wr (x9 - 1)) : Int)) ∧ (((wr (x9 - 1)) : Int) < x0n) ∧ (ptrN x0a fun b5 o6 => (ldV (HP.cell hp b5 (o6 + Int.toNat (wr (x9 - 1)) * 1)) fun v7 => (strV v7 fun s8 => (fnV x3 fun f9 ga10 gb11 => (CF Try.prog f9 (ga10 ++ [(Value.string s4), (.string s8)] ++ gb11) hp fun u12 h13 => (intV u12 .i64 fun i14 => (K (upd (upd (upd (upd (upd (upd (upd (upd (upd (upd (upd (upd (upd (upd (upd (upd (upd (upd (upd (upd (upd e 9 (sI x9)) 3 (sV x3)) 1 (sI x1)) 0 (sS x0a x0n x0c)) 18 (sI x9)) 19 (sI x1)) 20 (sB (decide (x9 > x1)))) 21 (sB true)) 22 (sV x3)) 23 (sS x0a x0n x0c)) 24 (sI x9)) 25 (sQ b1 (o2 + Int.toNat x9 * 1))) 26 (sV (.string s4))) 27 (sS x0a x0n x0c)) 28 (sI x9)) 29 (sI ((wr (x9 - 1))))) 30 (sV (ptr b5 (o6 + Int.toNat (wr (x9 - 1)) * 1)))) 31 (sV (.string s8))) 32 (sI i14)) 33 (sB (decide (i14 < 0)))) 34 (sB (decide (i14 < 0)))) V0 h13)))))))))))) (K (upd (upd (upd (upd (upd (upd (upd (upd (upd (upd (upd (upd (upd (upd (upd (upd (upd (upd (upd (upd (upd e 9 (sI x9)) 3 (sV x3)) 1 (sI x1)) 0 (sS x0a x0n x0c)) 18 (sI x9)) 19 (sI x1)) 20 (sB (decide (x9 > x1)))) 21 (sB false)) 22 sU) 23 sU) 24 sU) 25 sU) 26 sU) 27 sU) 28 sU) 29 sU) 30 sU) 31 sU) 32 sU) 33 sU) 34 (sB false)) V0 hp)) := by kernel_rfl
def F180_l5 (x0a : Option Addr) (x0n : Nat) (x0c : Nat) (x1 : Int) (x2 : Int) (x3 : Value) (x8 : Int) (I2 : (Int) → HP → Prop) (K : Value → HP → Prop) (I5 : (Int) → HP → Prop) (x9 : Int) (hp : HP) : Prop :=
  (ite2 (decide (x9 > x1)) ((0 ≤ x9) ∧ (x9 < x0n) ∧ (ptrN x0a fun b_15 o_16 => (ldV (HP.cell hp b_15 (o_16 + Int.toNat x9 * 1)) fun v_17 => (strV v_17 fun s_18 => ((0 ≤ ((IntKind.wrap .i64 (x9 - 1)) : Int)) ∧ (((IntKind.wrap .i64 (x9 - 1)) : Int) < x0n) ∧ (ptrN x0a fun b_19 o_20 => (ldV (HP.cell hp b_19 (o_20 + Int.toNat (IntKind.wrap .i64 (x9 - 1)) * 1)) fun v_21 => (strV v_21 fun s_22 => (fnV x3 fun f_23 ga_24 gb_25 => (CF Try.prog f_23 (ga_24 ++ [(Value.string s_18), (.string s_22)] ++ gb_25) hp fun u_26 h_27 => (intV u_26 .i64 fun i_28 => (F180_j6 x0a x0n x0c x1 x2 x3 x8 x9 (decide (i_28 < 0)) h_27 I2 I5 K)))))))))))) (F180_j6 x0a x0n x0c x1 x2 x3 x8 x9 false hp I2 I5 K))
def F180_j4 (x0a : Option Addr) (x0n : Nat) (x0c : Nat) (x1 : Int) (x2 : Int) (x3 : Value) (x8 : Int) (x9 : Int) (hp : HP) (I2 : (Int) → HP → Prop) (K : Value → HP → Prop) : Prop :=
  (LoopP (σ := Int) (fun I s hp => F180_l5 x0a x0n x0c x1 x2 x3 x8 I2 K I s hp) x9 hp)
theorem F180_r5 : R180 [1, 0, 0, 1, 0, 0, 0] 2 (upd e 8 (sI x8)) V0 hp K =
    (K (upd (upd (upd e 8 (sI x8)) 17 (sI x8)) 9 (sI x8)) V0 hp) := by kernel_rfl
def F180_l2 (x0a : Option Addr) (x0n : Nat) (x0c : Nat) (x1 : Int) (x2 : Int) (x3 : Value) (K : Value → HP → Prop) (I2 : (Int) → HP → Prop) (x8 : Int) (hp : HP) : Prop :=
  (ite2 (decide (x8 < x2)) (F180_j4 x0a x0n x0c x1 x2 x3 x8 x8 hp I2 K) (K (.tuple ⟨[]⟩) hp))
def F180_j1 (x0a : Option Addr) (x0n : Nat) (x0c : Nat) (x1 : Int) (x2 : Int) (x3 : Value) (x8 : Int) (hp : HP) (K : Value → HP → Prop) : Prop :=
  (LoopP (σ := Int) (fun I s hp => F180_l2 x0a x0n x0c x1 x2 x3  K I s hp) x8 hp)
theorem F180_r6 : R180 [0] 3 (upd e 1 (sI x1)) V0 hp K =
    (K (upd (upd (upd (upd e 1 (sI x1)) 10 (sI x1)) 11 (sI ((wr (x1 + 1))))) 8 (sI ((wr (x1 + 1))))) V0 hp) := by kernel_rfl
def F180 (x0a : Option Addr) (x0n : Nat) (x0c : Nat) (x1 : Int) (x2 : Int) (x3 : Value) (hp : HP) (K : Value → HP → Prop) : Prop :=
  (F180_j1 x0a x0n x0c x1 x2 x3 (IntKind.wrap .i64 (x1 + 1)) hp  K)
noncomputable def F180_code : Code := (.seq (.region 0 (opsAt Try.f180 [0]) false) (.block 0 (.loop (.seq (.seq (.region 1 (opsAt Try.f180 [1, 0, 0, 0, 0]) false) (.cond (.tmp 14) .skip (.exit 0))) (.seq (.block 1 (.seq (.region 3 (opsAt Try.f180 [1, 0, 0, 1, 0, 0, 0]) false) (.block 2 (.loop (.seq (.seq (.region 4 (opsAt Try.f180 [1, 0, 0, 1, 0, 0, 1, 0, 0, 0, 0]) true) (.cond (.tmp 34) .skip (.exit 2))) (.seq (.block 3 (.region 6 (opsAt Try.f180 [1, 0, 0, 1, 0, 0, 1, 0, 0, 1, 0, 0]) true)) (.region 5 (opsAt Try.f180 [1, 0, 0, 1, 0, 0, 1, 0, 0, 1, 1]) false))))))) (.region 2 (opsAt Try.f180 [1, 0, 0, 1, 1]) false))))))
theorem F180_body : Try.f180.body = some F180_code := by kernel_rfl
theorem F180_ok (x0a : Option Addr) (x0n : Nat) (x0c : Nat) (x1 : Int) (x2 : Int) (x3 : Value) (hp : HP) (K : Value → HP → Prop) (h : F180 x0a x0n x0c x1 x2 x3 hp K) : CF Try.prog 180 [(.slice x0a x0n x0c), (.int .i64 x1), (.int .i64 x2), x3] hp K := by
 refine .inl ⟨by kernel_rfl, AC.intro (N := 53) Try.func180 F180_body rfl (Nat.le_of_ble_eq_true rfl) ?_⟩
 unfold F180 at h
 unfold F180_code
 refine AWP.seq (fun env pv hp => ∃ (x0a : Option Addr) (x0n : Nat) (x0c : Nat) (x1 : Int) (x2 : Int) (x3 : Value) (x8 : Int), Sub (upd (upd (upd (upd (upd E0 8 (sI x8)) 3 (sV x3)) 2 (sI x2)) 1 (sI x1)) 0 (sS x0a x0n x0c)) env ∧ Sub V0 pv ∧ (F180_j1 x0a x0n x0c x1 x2 x3 x8 hp  K)) ?_ ?_
 ·refine AWP.rgn (F180_r6 (upd (upd (upd E0 3 (sV x3)) 2 (sI x2)) 0 (sS x0a x0n x0c)) x1 hp _) ?_ (Ru 1 (Ru 0 (Ru 2 (Ru 3 Rn)))) (Sc rfl (Sc rfl (Sc rfl (Sc rfl Sn)))) Sn
  exact ⟨x0a, x0n, x0c, x1, x2, x3, (wr (x1 + 1)), (Sc rfl (Sc rfl (Sc rfl (Sc rfl (Sc rfl Sn))))), Sn, h⟩
 ·rintro env pv hp ⟨x0a, x0n, x0c, x1, x2, x3, x8, he, hv, h⟩
  refine AWP.sub (env' := (upd (upd (upd (upd (upd E0 8 (sI x8)) 3 (sV x3)) 2 (sI x2)) 1 (sI x1)) 0 (sS x0a x0n x0c))) (pv' := V0) ?_ (Ru 0 (Ru 1 (Ru 2 (Ru 3 (Ru 8 Rn))))) he hv (HSub.refl _)
  clear he hv
  unfold F180_j1 at h
  refine AWP.block ?_
  refine AWP.loop (σ := Int) (fun I s hp => F180_l2 x0a x0n x0c x1 x2 x3  K I s hp) (fun s => (upd (upd (upd (upd (upd E0 8 (sI s)) 3 (sV x3)) 2 (sI x2)) 1 (sI x1)) 0 (sS x0a x0n x0c))) (fun s => V0) x8 h (fun s => (Ru 0 (Ru 1 (Ru 2 (Ru 3 (Ru 8 Rn)))))) (Sc rfl (Sc rfl (Sc rfl (Sc rfl (Sc rfl Sn))))) Sn ?_
  intro I2 s hp h
  obtain ⟨x8, hs⟩ : ∃ x, x = s := ⟨s, rfl⟩
  subst hs
  replace h : F180_l2 x0a x0n x0c x1 x2 x3  K I2 x8 hp := h
  unfold F180_l2 at h
  refine AWP.seq' ?_
  refine AWP.seq' ?_
  refine AWP.rgn (F180_r0 (upd (upd (upd E0 3 (sV x3)) 1 (sI x1)) 0 (sS x0a x0n x0c)) x2 x8 hp _) ?_ (Ru 2 (Ru 8 (Ru 0 (Ru 1 (Ru 3 Rn))))) (Sc rfl (Sc rfl (Sc rfl (Sc rfl (Sc rfl Sn))))) Sn
  refine AWP.cond (t := (decide (x8 < x2))) rfl (fun e => ?_) (fun e => ?_)
  ·replace h := ite2_t h e
   refine AWP.skip ?_
   refine AWP.seq (fun env pv hp => ∃ (x8 : Int), Sub (upd (upd (upd (upd (upd E0 8 (sI x8)) 3 (sV x3)) 2 (sI x2)) 1 (sI x1)) 0 (sS x0a x0n x0c)) env ∧ Sub V0 pv ∧ (F180_j3 x0a x0n x0c x1 x2 x3 x8 hp I2 K)) ?_ ?_
   ·refine AWP.block ?_
    refine AWP.seq (fun env pv hp => ∃ (x8 : Int) (x9 : Int), Sub (upd (upd (upd (upd (upd (upd E0 9 (sI x9)) 8 (sI x8)) 3 (sV x3)) 2 (sI x2)) 1 (sI x1)) 0 (sS x0a x0n x0c)) env ∧ Sub V0 pv ∧ (F180_j4 x0a x0n x0c x1 x2 x3 x8 x9 hp I2 K)) ?_ ?_
    ·refine AWP.rgn (F180_r5 (upd (upd (upd (upd E0 3 (sV x3)) 2 (sI x2)) 1 (sI x1)) 0 (sS x0a x0n x0c)) x8 hp _) ?_ (Ru 8 (Ru 0 (Ru 1 (Ru 2 (Ru 3 Rn))))) (Sc rfl (Sc rfl (Sc rfl (Sc rfl (Sc rfl Sn))))) Sn
     exact ⟨x8, x8, (Sc rfl (Sc rfl (Sc rfl (Sc rfl (Sc rfl (Sc rfl Sn)))))), Sn, h⟩
    ·rintro env pv hp ⟨x8, x9, he, hv, h⟩
     refine AWP.sub (env' := (upd (upd (upd (upd (upd (upd E0 9 (sI x9)) 8 (sI x8)) 3 (sV x3)) 2 (sI x2)) 1 (sI x1)) 0 (sS x0a x0n x0c))) (pv' := V0) ?_ (Ru 0 (Ru 1 (Ru 2 (Ru 3 (Ru 8 (Ru 9 Rn)))))) he hv (HSub.refl _)
     clear he hv
     unfold F180_j4 at h
     refine AWP.block ?_
     refine AWP.loop (σ := Int) (fun I s hp => F180_l5 x0a x0n x0c x1 x2 x3 x8 I2 K I s hp) (fun s => (upd (upd (upd (upd (upd (upd E0 9 (sI s)) 8 (sI x8)) 3 (sV x3)) 2 (sI x2)) 1 (sI x1)) 0 (sS x0a x0n x0c))) (fun s => V0) x9 h (fun s => (Ru 0 (Ru 1 (Ru 2 (Ru 3 (Ru 8 (Ru 9 Rn))))))) (Sc rfl (Sc rfl (Sc rfl (Sc rfl (Sc rfl (Sc rfl Sn)))))) Sn ?_
     intro I5 s hp h
     obtain ⟨x9, hs⟩ : ∃ x, x = s := ⟨s, rfl⟩
     subst hs
     replace h : F180_l5 x0a x0n x0c x1 x2 x3 x8 I2 K I5 x9 hp := h
     unfold F180_l5 at h
     refine AWP.seq' ?_
     refine AWP.seq (fun env pv hp => ∃ (x9 : Int) (x34 : Bool), Sub (upd (upd (upd (upd (upd (upd (upd E0 34 (sB x34)) 9 (sI x9)) 8 (sI x8)) 3 (sV x3)) 2 (sI x2)) 1 (sI x1)) 0 (sS x0a x0n x0c)) env ∧ Sub V0 pv ∧ (F180_j6 x0a x0n x0c x1 x2 x3 x8 x9 x34 hp I2 I5 K)) ?_ ?_
     ·refine AWP.rgnD (by kernel_rfl) (by kernel_rfl) (F180_r4 (upd (upd E0 8 (sI x8)) 2 (sI x2)) x0a x0n x0c x1 x3 x9 hp _) ?_ (Ru 0 (Ru 1 (Ru 3 (Ru 9 (Ru 2 (Ru 8 Rn)))))) (Sc rfl (Sc rfl (Sc rfl (Sc rfl (Sc rfl (Sc rfl Sn)))))) Sn
      refine mt h (fun h => ?_) (fun h => ?_)
      ·refine ⟨h.1, h.2.1, mN h.2.2 (fun b_15 o_16 h => mV h (fun v_17 h => ms h (fun s_18 h => ⟨h.1, h.2.1, mN h.2.2 fun b_19 o_20 h => mV h fun v_21 h => ms h fun s_22 h => mF h fun f_23 ga_24 gb_25 h => mC h fun u_26 h_27 h => mI h fun i_28 h => ?_⟩)))⟩
       exact ⟨x9, (decide (i_28 < 0)), (Sc rfl (Sc rfl (Sc rfl (Sc rfl (Sc rfl (Sc rfl (Sc rfl Sn))))))), Sn, h⟩
      ·exact ⟨x9, false, (Sc rfl (Sc rfl (Sc rfl (Sc rfl (Sc rfl (Sc rfl (Sc rfl Sn))))))), Sn, h⟩
     ·rintro env pv hp ⟨x9, x34, he, hv, h⟩
      refine AWP.sub (env' := (upd (upd (upd (upd (upd (upd (upd E0 34 (sB x34)) 9 (sI x9)) 8 (sI x8)) 3 (sV x3)) 2 (sI x2)) 1 (sI x1)) 0 (sS x0a x0n x0c))) (pv' := V0) ?_ (Ru 0 (Ru 1 (Ru 2 (Ru 3 (Ru 8 (Ru 9 (Ru 34 Rn))))))) he hv (HSub.refl _)
      clear he hv
      unfold F180_j6 at h
      refine AWP.cond (t := x34) rfl (fun e => ?_) (fun e => ?_)
      ·replace h := ite2_t h e
       refine AWP.skip ?_
       refine AWP.seq' ?_
       refine AWP.block ?_
       refine AWP.rgnD (by kernel_rfl) (by kernel_rfl) (F180_r2 (upd (upd (upd (upd E0 8 (sI x8)) 3 (sV x3)) 2 (sI x2)) 1 (sI x1)) x0a x0n x0c x9 hp _) ?_ (Ru 0 (Ru 9 (Ru 1 (Ru 2 (Ru 3 (Ru 8 Rn)))))) (Sc rfl (Sc rfl (Sc rfl (Sc rfl (Sc rfl (Sc rfl Sn)))))) Sn
       refine ⟨h.1, h.2.1, mN h.2.2 (fun b_1 o_2 h => mV h (fun v_3 h => ms h (fun s_4 h => ⟨h.1, h.2.1, mN h.2.2 (fun b_5 o_6 h => mV h (fun v_7 h => ms h (fun s_8 h => ⟨h.1, h.2.1, mN h.2.2 (fun b_9 o_10 h => mw h (fun h_11 h => ⟨h.1, h.2.1, mN h.2.2 fun b_12 o_13 h => mw h fun h_14 h => ?_⟩))⟩)))⟩)))⟩
       refine AWP.rgn (F180_r3 (upd (upd (upd (upd (upd E0 8 (sI x8)) 3 (sV x3)) 2 (sI x2)) 1 (sI x1)) 0 (sS x0a x0n x0c)) x9 h_14 _) ?_ (Ru 9 (Ru 0 (Ru 1 (Ru 2 (Ru 3 (Ru 8 Rn)))))) (Sc rfl (Sc rfl (Sc rfl (Sc rfl (Sc rfl (Sc rfl Sn)))))) Sn
       exact ⟨(wr (x9 - 1)), (Sc rfl (Sc rfl (Sc rfl (Sc rfl (Sc rfl (Sc rfl Sn)))))), Sn, h⟩
      ·replace h := ite2_f h e
       refine AWP.exit ?_
       exact ⟨x8, (Sc rfl (Sc rfl (Sc rfl (Sc rfl (Sc rfl Sn))))), Sn, h⟩
   ·rintro env pv hp ⟨x8, he, hv, h⟩
    refine AWP.sub (env' := (upd (upd (upd (upd (upd E0 8 (sI x8)) 3 (sV x3)) 2 (sI x2)) 1 (sI x1)) 0 (sS x0a x0n x0c))) (pv' := V0) ?_ (Ru 0 (Ru 1 (Ru 2 (Ru 3 (Ru 8 Rn))))) he hv (HSub.refl _)
    clear he hv
    unfold F180_j3 at h
    refine AWP.rgn (F180_r1 (upd (upd (upd (upd E0 3 (sV x3)) 2 (sI x2)) 1 (sI x1)) 0 (sS x0a x0n x0c)) x8 hp _) ?_ (Ru 8 (Ru 0 (Ru 1 (Ru 2 (Ru 3 Rn))))) (Sc rfl (Sc rfl (Sc rfl (Sc rfl (Sc rfl Sn))))) Sn
    exact ⟨(wr (x8 + 1)), (Sc rfl (Sc rfl (Sc rfl (Sc rfl (Sc rfl Sn))))), Sn, h⟩
  ·replace h := ite2_f h e
   refine AWP.exit ?_
   exact h
end
-- 181 slices.heapSortCmpFunc[string]
section
variable (e : Env) (x0a : Option Addr) (x0n x0c : Nat) (x1 x2 : Int) (x3 : Value) (x8 x9 x10 x11 x12 : Int) (hp : HP) (K : Env → PV → HP → Prop)
abbrev R181 (p : List Nat) (n : Nat) := RW Try.prog 60 [] (opsAt Try.f181 p) (List.range n)
theorem F181_r0 : R181 [0] 2 (upd e 1 (sI x1)) V0 hp K =
    (K (upd (upd (upd e 1 (sI x1)) 13 (sI x1)) 8 (sI x1)) V0 hp) := by kernel_rfl
theorem F181_r1 : R181 [1, 0] 1 e V0 hp K =
    (K (upd e 9 (sI 0)) V0 hp) := by kernel_rfl
theorem F181_r2 : R181 [1, 1, 0] 4 (upd (upd e 2 (sI x2)) 1 (sI x1)) V0 hp K =
    (K (upd (upd (upd (upd (upd (upd e 2 (sI x2)) 1 (sI x1)) 14 (sI x2)) 15 (sI x1)) 16 (sI ((wr (x2 - x1))))) 10 (sI ((wr (x2 - x1))))) V0 hp) := by kernel_rfl
theorem F181_r3 : R181 [1, 1, 1, 1, 1, 0, 0, 0, 0] 2 (upd e 12 (sI x12)) V0 hp K =
    (K (upd (upd (upd e 12 (sI x12)) 32 (sI x12)) 33 (sB (decide (x12 ≥ 0)))) V0 hp) := by kernel_rfl
theorem F181_r4 : R181 [1, 1, 1, 1, 1, 0, 0, 1, 0, 0, 0] 20 (upd (upd (upd e 12 (sI x12)) 8 (sI x8)) 0 (sS x0a x0n x0c)) V0 hp K =
    ((0 ≤ ((wr (x8 + x12)) : Int)) ∧ (((wr (x8 + x12)) : Int) < x0n) ∧ (ptrN x0a fun b1 o2 => (ldV (HP.cell hp b1 (o2 + Int.toNat (wr (x8 + x12)) * 1)) fun v3 => (strV v3 fun s4 => ((0 ≤ x8) ∧ (x8 < x0n) ∧ (ptrN x0a fun b5 o6 => (ldV (HP.cell hp b5 (o6 + Int.toNat x8 * 1)) fun v7 => (strV v7 fun s8 => ((0 ≤ x8) ∧ (x8 < x0n) ∧ (ptrN x0a fun b9 o10 => (HP.st hp b9 (o10 + Int.toNat x8 * 1) (.string s4) fun h11 => ((0 ≤ ((wr (x8 + x12)) : Int)) ∧ (((wr (x8 + x12)) : Int) < x0n) ∧ (ptrN x0a fun b12 o13 => (HP.st h11 b12 (o13 + Int.toNat (wr (x8 + x12)) * 1) (.string s8) fun h14 => (K (upd (upd (upd (upd (upd (upd (upd (upd (upd (upd (upd (upd (upd (upd (upd (upd (upd (upd (upd (upd (upd e 12 (sI x12)) 8 (sI x8)) 0 (sS x0a x0n x0c)) 36 (sS x0a x0n x0c)) 37 (sI x8)) 38 (sS x0a x0n x0c)) 39 (sI x8)) 40 (sI x12)) 41 (sI ((wr (x8 + x12))))) 42 (sS x0a x0n x0c)) 43 (sI x8)) 44 (sI x12)) 45 (sI ((wr (x8 + x12))))) 46 (sV (ptr b1 (o2 + Int.toNat (wr (x8 + x12)) * 1)))) 47 (sV (.string s4))) 48 (sS x0a x0n x0c)) 49 (sI x8)) 50 (sQ b5 (o6 + Int.toNat x8 * 1))) 51 (sV (.string s8))) 52 (sQ b9 (o10 + Int.toNat x8 * 1))) 53 (sV (ptr b12 (o13 + Int.toNat (wr (x8 + x12)) * 1)))) V0 h14))))))))))))))) := by kernel_rfl
theorem F181_r5 : R181 [1, 1, 1, 1, 1, 0, 0, 1, 0, 0, 1] 6 (upd (upd (upd (upd (upd e 12 (sI x12)) 9 (sI x9)) 8 (sI x8)) 3 (sV x3)) 0 (sS x0a x0n x0c)) V0 hp K =
    (CF Try.prog 192 [(.slice x0a x0n x0c), (.int .i64 x9), (.int .i64 x12), (.int .i64 x8), x3] hp fun u1 h2 => (K (upd (upd (upd (upd (upd (upd (upd (upd (upd (upd (upd e 12 (sI x12)) 9 (sI x9)) 8 (sI x8)) 3 (sV x3)) 0 (sS x0a x0n x0c)) 54 (sS x0a x0n x0c)) 55 (sI x9)) 56 (sI x12)) 57 (sI x8)) 58 (sV x3)) 59 (sV u1)) V0 h2)) := by kernel_rfl
theorem F181_r6 : R181 [1, 1, 1, 1, 1, 0, 0, 1, 1] 3 (upd e 12 (sI x12)) V0 hp K =
    (K (upd (upd (upd (upd e 12 (sI x12)) 34 (sI x12)) 35 (sI ((wr (x12 - 1))))) 12 (sI ((wr (x12 - 1))))) V0 hp) := by kernel_rfl
def F181_l3 (x0a : Option Addr) (x0n : Nat) (x0c : Nat) (x3 : Value) (x8 : Int) (x9 : Int) (K : Value → HP → Prop) (I3 : (Int) → HP → Prop) (x12 : Int) (hp : HP) : Prop :=
  (ite2 (decide (x12 ≥ 0)) ((0 ≤ ((IntKind.wrap .i64 (x8 + x12)) : Int)) ∧ (((IntKind.wrap .i64 (x8 + x12)) : Int) < x0n) ∧ (ptrN x0a fun b_1 o_2 => (ldV (HP.cell hp b_1 (o_2 + Int.toNat (IntKind.wrap .i64 (x8 + x12)) * 1)) fun v_3 => (strV v_3 fun s_4 => ((0 ≤ x8) ∧ (x8 < x0n) ∧ (ptrN x0a fun b_5 o_6 => (ldV (HP.cell hp b_5 (o_6 + Int.toNat x8 * 1)) fun v_7 => (strV v_7 fun s_8 => ((0 ≤ x8) ∧ (x8 < x0n) ∧ (ptrN x0a fun b_9 o_10 => (HP.st hp b_9 (o_10 + Int.toNat x8 * 1) (.string s_4) fun h_11 => ((0 ≤ ((IntKind.wrap .i64 (x8 + x12)) : Int)) ∧ (((IntKind.wrap .i64 (x8 + x12)) : Int) < x0n) ∧ (ptrN x0a fun b_12 o_13 => (HP.st h_11 b_12 (o_13 + Int.toNat (IntKind.wrap .i64 (x8 + x12)) * 1) (.string s_8) fun h_14 => (CF Try.prog 192 [(.slice x0a x0n x0c), (.int .i64 x9), (.int .i64 x12), (.int .i64 x8), x3] h_14 fun u_15 h_16 => (I3 (IntKind.wrap .i64 (x12 - 1)) h_16)))))))))))))))) (K (.tuple ⟨[]⟩) hp))
def F181_j2 (x0a : Option Addr) (x0n : Nat) (x0c : Nat) (x3 : Value) (x8 : Int) (x9 : Int) (x12 : Int) (hp : HP) (K : Value → HP → Prop) : Prop :=
  (LoopP (σ := Int) (fun I s hp => F181_l3 x0a x0n x0c x3 x8 x9  K I s hp) x12 hp)
theorem F181_r7 : R181 [1, 1, 1, 1, 0] 3 (upd e 10 (sI x10)) V0 hp K =
    (K (upd (upd (upd (upd e 10 (sI x10)) 30 (sI x10)) 31 (sI ((wr (x10 - 1))))) 12 (sI ((wr (x10 - 1))))) V0 hp) := by kernel_rfl
def F181_j1 (x0a : Option Addr) (x0n : Nat) (x0c : Nat) (x3 : Value) (x8 : Int) (x9 : Int) (x10 : Int) (hp : HP) (K : Value → HP → Prop) : Prop :=
  (F181_j2 x0a x0n x0c x3 x8 x9 (IntKind.wrap .i64 (x10 - 1)) hp  K)
theorem F181_r8 : R181 [1, 1, 1, 0, 1, 0, 0, 0, 0] 2 (upd e 11 (sI x11)) V0 hp K =
    (K (upd (upd (upd e 11 (sI x11)) 20 (sI x11)) 21 (sB (decide (x11 ≥ 0)))) V0 hp) := by kernel_rfl
theorem F181_r9 : R181 [1, 1, 1, 0, 1, 0, 0, 1, 0, 0] 6 (upd (upd (upd (upd (upd e 11 (sI x11)) 10 (sI x10)) 8 (sI x8)) 3 (sV x3)) 0 (sS x0a x0n x0c)) V0 hp K =
    (CF Try.prog 192 [(.slice x0a x0n x0c), (.int .i64 x11), (.int .i64 x10), (.int .i64 x8), x3] hp fun u1 h2 => (K (upd (upd (upd (upd (upd (upd (upd (upd (upd (upd (upd e 11 (sI x11)) 10 (sI x10)) 8 (sI x8)) 3 (sV x3)) 0 (sS x0a x0n x0c)) 24 (sS x0a x0n x0c)) 25 (sI x11)) 26 (sI x10)) 27 (sI x8)) 28 (sV x3)) 29 (sV u1)) V0 h2)) := by kernel_rfl
theorem F181_r10 : R181 [1, 1, 1, 0, 1, 0, 0, 1, 1] 3 (upd e 11 (sI x11)) V0 hp K =
    (K (upd (upd (upd (upd e 11 (sI x11)) 22 (sI x11)) 23 (sI ((wr (x11 - 1))))) 11 (sI ((wr (x11 - 1))))) V0 hp) := by kernel_rfl
def F181_l5 (x0a : Option Addr) (x0n : Nat) (x0c : Nat) (x3 : Value) (x8 : Int) (x9 : Int) (x10 : Int) (K : Value → HP → Prop) (I5 : (Int) → HP → Prop) (x11 : Int) (hp : HP) : Prop :=
  (ite2 (decide (x11 ≥ 0)) (CF Try.prog 192 [(.slice x0a x0n x0c), (.int .i64 x11), (.int .i64 x10), (.int .i64 x8), x3] hp fun u_17 h_18 => (I5 (IntKind.wrap .i64 (x11 - 1)) h_18)) (F181_j1 x0a x0n x0c x3 x8 x9 x10 hp  K))
def F181_j4 (x0a : Option Addr) (x0n : Nat) (x0c : Nat) (x3 : Value) (x8 : Int) (x9 : Int) (x10 : Int) (x11 : Int) (hp : HP) (K : Value → HP → Prop) : Prop :=
  (LoopP (σ := Int) (fun I s hp => F181_l5 x0a x0n x0c x3 x8 x9 x10  K I s hp) x11 hp)
theorem F181_r11 : R181 [1, 1, 1, 0, 0] 4 (upd e 10 (sI x10)) V0 hp K =
    (((2 : Int) ≠ 0) ∧ (K (upd (upd (upd (upd (upd e 10 (sI x10)) 17 (sI x10)) 18 (sI ((wr (x10 - 1))))) 19 (sI ((wr (Int.tdiv (wr (x10 - 1)) 2))))) 11 (sI ((wr (Int.tdiv (wr (x10 - 1)) 2))))) V0 hp)) := by kernel_rfl
def F181 (x0a : Option Addr) (x0n : Nat) (x0c : Nat) (x1 : Int) (x2 : Int) (x3 : Value) (hp : HP) (K : Value → HP → Prop) : Prop :=
  (((2 : Int) ≠ 0) ∧ (F181_j4 x0a x0n x0c x3 x1 0 (IntKind.wrap .i64 (x2 - x1)) (IntKind.wrap .i64 (Int.tdiv (IntKind.wrap .i64 ((IntKind.wrap .i64 (x2 - x1)) - 1)) 2)) hp  K))
noncomputable def F181_code : Code := (.seq (.region 0 (opsAt Try.f181 [0]) false) (.seq (.region 1 (opsAt Try.f181 [1, 0]) false) (.seq (.region 2 (opsAt Try.f181 [1, 1, 0]) false) (.seq (.seq (.region 3 (opsAt Try.f181 [1, 1, 1, 0, 0]) false) (.block 0 (.loop (.seq (.seq (.region 4 (opsAt Try.f181 [1, 1, 1, 0, 1, 0, 0, 0, 0]) false) (.cond (.tmp 21) .skip (.exit 0))) (.seq (.block 1 (.region 6 (opsAt Try.f181 [1, 1, 1, 0, 1, 0, 0, 1, 0, 0]) false)) (.region 5 (opsAt Try.f181 [1, 1, 1, 0, 1, 0, 0, 1, 1]) false)))))) (.seq (.region 7 (opsAt Try.f181 [1, 1, 1, 1, 0]) false) (.block 2 (.loop (.seq (.seq (.region 8 (opsAt Try.f181 [1, 1, 1, 1, 1, 0, 0, 0, 0]) false) (.cond (.tmp 33) .skip (.exit 2))) (.seq (.block 3 (.seq (.region 10 (opsAt Try.f181 [1, 1, 1, 1, 1, 0, 0, 1, 0, 0, 0]) true) (.region 11 (opsAt Try.f181 [1, 1, 1, 1, 1, 0, 0, 1, 0, 0, 1]) false))) (.region 9 (opsAt Try.f181 [1, 1, 1, 1, 1, 0, 0, 1, 1]) false))))))))))
theorem F181_body : Try.f181.body = some F181_code := by kernel_rfl
theorem F181_ok (x0a : Option Addr) (x0n : Nat) (x0c : Nat) (x1 : Int) (x2 : Int) (x3 : Value) (hp : HP) (K : Value → HP → Prop) (h : F181 x0a x0n x0c x1 x2 x3 hp K) : CF Try.prog 181 [(.slice x0a x0n x0c), (.int .i64 x1), (.int .i64 x2), x3] hp K := by
 refine .inl ⟨by kernel_rfl, AC.intro (N := 60) Try.func181 F181_body rfl (Nat.le_of_ble_eq_true rfl) ?_⟩
 unfold F181 at h
 unfold F181_code
 refine AWP.seq' ?_
 refine AWP.rgn (F181_r0 (upd (upd (upd E0 3 (sV x3)) 2 (sI x2)) 0 (sS x0a x0n x0c)) x1 hp _) ?_ (Ru 1 (Ru 0 (Ru 2 (Ru 3 Rn)))) (Sc rfl (Sc rfl (Sc rfl (Sc rfl Sn)))) Sn
 refine AWP.seq' ?_
 refine AWP.rgn (F181_r1 (upd (upd (upd (upd (upd E0 8 (sI x1)) 3 (sV x3)) 2 (sI x2)) 1 (sI x1)) 0 (sS x0a x0n x0c))  hp _) ?_ (Ru 0 (Ru 1 (Ru 2 (Ru 3 (Ru 8 Rn))))) (Sc rfl (Sc rfl (Sc rfl (Sc rfl (Sc rfl Sn))))) Sn
 refine AWP.seq' ?_
 refine AWP.rgn (F181_r2 (upd (upd (upd (upd E0 9 (sI 0)) 8 (sI x1)) 3 (sV x3)) 0 (sS x0a x0n x0c)) x1 x2 hp _) ?_ (Ru 1 (Ru 2 (Ru 0 (Ru 3 (Ru 8 (Ru 9 Rn)))))) (Sc rfl (Sc rfl (Sc rfl (Sc rfl (Sc rfl (Sc rfl Sn)))))) Sn
 refine AWP.seq (fun env pv hp => ∃ (x0a : Option Addr) (x0n : Nat) (x0c : Nat) (x3 : Value) (x8 : Int) (x9 : Int) (x10 : Int), Sub (upd (upd (upd (upd (upd E0 10 (sI x10)) 9 (sI x9)) 8 (sI x8)) 3 (sV x3)) 0 (sS x0a x0n x0c)) env ∧ Sub V0 pv ∧ (F181_j1 x0a x0n x0c x3 x8 x9 x10 hp  K)) ?_ ?_
 ·refine AWP.seq (fun env pv hp => ∃ (x0a : Option Addr) (x0n : Nat) (x0c : Nat) (x3 : Value) (x8 : Int) (x9 : Int) (x10 : Int) (x11 : Int), Sub (upd (upd (upd (upd (upd (upd E0 11 (sI x11)) 10 (sI x10)) 9 (sI x9)) 8 (sI x8)) 3 (sV x3)) 0 (sS x0a x0n x0c)) env ∧ Sub V0 pv ∧ (F181_j4 x0a x0n x0c x3 x8 x9 x10 x11 hp  K)) ?_ ?_
  ·refine AWP.rgn (F181_r11 (upd (upd (upd (upd E0 9 (sI 0)) 8 (sI x1)) 3 (sV x3)) 0 (sS x0a x0n x0c)) (wr (x2 - x1)) hp _) ?_ (Ru 10 (Ru 0 (Ru 3 (Ru 8 (Ru 9 Rn))))) (Sc rfl (Sc rfl (Sc rfl (Sc rfl (Sc rfl Sn))))) Sn
   refine ⟨h.1, ?_⟩
   replace h := h.2
   exact ⟨x0a, x0n, x0c, x3, x1, 0, (wr (x2 - x1)), (wr (Int.tdiv (wr ((wr (x2 - x1)) - 1)) 2)), (Sc rfl (Sc rfl (Sc rfl (Sc rfl (Sc rfl (Sc rfl Sn)))))), Sn, h⟩
  ·rintro env pv hp ⟨x0a, x0n, x0c, x3, x8, x9, x10, x11, he, hv, h⟩
   refine AWP.sub (env' := (upd (upd (upd (upd (upd (upd E0 11 (sI x11)) 10 (sI x10)) 9 (sI x9)) 8 (sI x8)) 3 (sV x3)) 0 (sS x0a x0n x0c))) (pv' := V0) ?_ (Ru 0 (Ru 3 (Ru 8 (Ru 9 (Ru 10 (Ru 11 Rn)))))) he hv (HSub.refl _)
   clear he hv
   unfold F181_j4 at h
   refine AWP.block ?_
   refine AWP.loop (σ := Int) (fun I s hp => F181_l5 x0a x0n x0c x3 x8 x9 x10  K I s hp) (fun s => (upd (upd (upd (upd (upd (upd E0 11 (sI s)) 10 (sI x10)) 9 (sI x9)) 8 (sI x8)) 3 (sV x3)) 0 (sS x0a x0n x0c))) (fun s => V0) x11 h (fun s => (Ru 0 (Ru 3 (Ru 8 (Ru 9 (Ru 10 (Ru 11 Rn))))))) (Sc rfl (Sc rfl (Sc rfl (Sc rfl (Sc rfl (Sc rfl Sn)))))) Sn ?_
   intro I5 s hp h
   obtain ⟨x11, hs⟩ : ∃ x, x = s := ⟨s, rfl⟩
   subst hs
   replace h : F181_l5 x0a x0n x0c x3 x8 x9 x10  K I5 x11 hp := h
   unfold F181_l5 at h
   refine AWP.seq' ?_
   refine AWP.seq' ?_
   refine AWP.rgn (F181_r8 (upd (upd (upd (upd (upd E0 10 (sI x10)) 9 (sI x9)) 8 (sI x8)) 3 (sV x3)) 0 (sS x0a x0n x0c)) x11 hp _) ?_ (Ru 11 (Ru 0 (Ru 3 (Ru 8 (Ru 9 (Ru 10 Rn)))))) (Sc rfl (Sc rfl (Sc rfl (Sc rfl (Sc rfl (Sc rfl Sn)))))) Sn
   refine AWP.cond (t := (decide (x11 ≥ 0))) rfl (fun e => ?_) (fun e => ?_)
   ·replace h := ite2_t h e
    refine AWP.skip ?_
    refine AWP.seq' ?_
    refine AWP.block ?_
    refine AWP.rgn (F181_r9 (upd E0 9 (sI x9)) x0a x0n x0c x3 x8 x10 x11 hp _) ?_ (Ru 0 (Ru 3 (Ru 8 (Ru 10 (Ru 11 (Ru 9 Rn)))))) (Sc rfl (Sc rfl (Sc rfl (Sc rfl (Sc rfl (Sc rfl Sn)))))) Sn
    refine mC h fun u_17 h_18 h => ?_
    refine AWP.rgn (F181_r10 (upd (upd (upd (upd (upd E0 10 (sI x10)) 9 (sI x9)) 8 (sI x8)) 3 (sV x3)) 0 (sS x0a x0n x0c)) x11 h_18 _) ?_ (Ru 11 (Ru 0 (Ru 3 (Ru 8 (Ru 9 (Ru 10 Rn)))))) (Sc rfl (Sc rfl (Sc rfl (Sc rfl (Sc rfl (Sc rfl Sn)))))) Sn
    exact ⟨(wr (x11 - 1)), (Sc rfl (Sc rfl (Sc rfl (Sc rfl (Sc rfl (Sc rfl Sn)))))), Sn, h⟩
   ·replace h := ite2_f h e
    refine AWP.exit ?_
    exact ⟨x0a, x0n, x0c, x3, x8, x9, x10, (Sc rfl (Sc rfl (Sc rfl (Sc rfl (Sc rfl Sn))))), Sn, h⟩
 ·rintro env pv hp ⟨x0a, x0n, x0c, x3, x8, x9, x10, he, hv, h⟩
  refine AWP.sub (env' := (upd (upd (upd (upd (upd E0 10 (sI x10)) 9 (sI x9)) 8 (sI x8)) 3 (sV x3)) 0 (sS x0a x0n x0c))) (pv' := V0) ?_ (Ru 0 (Ru 3 (Ru 8 (Ru 9 (Ru 10 Rn))))) he hv (HSub.refl _)
  clear he hv
  unfold F181_j1 at h
  refine AWP.seq (fun env pv hp => ∃ (x0a : Option Addr) (x0n : Nat) (x0c : Nat) (x3 : Value) (x8 : Int) (x9 : Int) (x12 : Int), Sub (upd (upd (upd (upd (upd E0 12 (sI x12)) 9 (sI x9)) 8 (sI x8)) 3 (sV x3)) 0 (sS x0a x0n x0c)) env ∧ Sub V0 pv ∧ (F181_j2 x0a x0n x0c x3 x8 x9 x12 hp  K)) ?_ ?_
  ·refine AWP.rgn (F181_r7 (upd (upd (upd (upd E0 9 (sI x9)) 8 (sI x8)) 3 (sV x3)) 0 (sS x0a x0n x0c)) x10 hp _) ?_ (Ru 10 (Ru 0 (Ru 3 (Ru 8 (Ru 9 Rn))))) (Sc rfl (Sc rfl (Sc rfl (Sc rfl (Sc rfl Sn))))) Sn
   exact ⟨x0a, x0n, x0c, x3, x8, x9, (wr (x10 - 1)), (Sc rfl (Sc rfl (Sc rfl (Sc rfl (Sc rfl Sn))))), Sn, h⟩
  ·rintro env pv hp ⟨x0a, x0n, x0c, x3, x8, x9, x12, he, hv, h⟩
   refine AWP.sub (env' := (upd (upd (upd (upd (upd E0 12 (sI x12)) 9 (sI x9)) 8 (sI x8)) 3 (sV x3)) 0 (sS x0a x0n x0c))) (pv' := V0) ?_ (Ru 0 (Ru 3 (Ru 8 (Ru 9 (Ru 12 Rn))))) he hv (HSub.refl _)
   clear he hv
   unfold F181_j2 at h
   refine AWP.block ?_
   refine AWP.loop (σ := Int) (fun I s hp => F181_l3 x0a x0n x0c x3 x8 x9  K I s hp) (fun s => (upd (upd (upd (upd (upd E0 12 (sI s)) 9 (sI x9)) 8 (sI x8)) 3 (sV x3)) 0 (sS x0a x0n x0c))) (fun s => V0) x12 h (fun s => (Ru 0 (Ru 3 (Ru 8 (Ru 9 (Ru 12 Rn)))))) (Sc rfl (Sc rfl (Sc rfl (Sc rfl (Sc rfl Sn))))) Sn ?_
   intro I3 s hp h
   obtain ⟨x12, hs⟩ : ∃ x, x = s := ⟨s, rfl⟩
   subst hs
   replace h : F181_l3 x0a x0n x0c x3 x8 x9  K I3 x12 hp := h
   unfold F181_l3 at h
   refine AWP.seq' ?_
   refine AWP.seq' ?_
   refine AWP.rgn (F181_r3 (upd (upd (upd (upd E0 9 (sI x9)) 8 (sI x8)) 3 (sV x3)) 0 (sS x0a x0n x0c)) x12 hp _) ?_ (Ru 12 (Ru 0 (Ru 3 (Ru 8 (Ru 9 Rn))))) (Sc rfl (Sc rfl (Sc rfl (Sc rfl (Sc rfl Sn))))) Sn
   refine AWP.cond (t := (decide (x12 ≥ 0))) rfl (fun e => ?_) (fun e => ?_)
   ·replace h := ite2_t h e
    refine AWP.skip ?_
    refine AWP.seq' ?_
    refine AWP.block ?_
    refine AWP.seq' ?_
    refine AWP.rgnD (by kernel_rfl) (by kernel_rfl) (F181_r4 (upd (upd E0 9 (sI x9)) 3 (sV x3)) x0a x0n x0c x8 x12 hp _) ?_ (Ru 0 (Ru 8 (Ru 12 (Ru 3 (Ru 9 Rn))))) (Sc rfl (Sc rfl (Sc rfl (Sc rfl (Sc rfl Sn))))) Sn
    refine ⟨h.1, h.2.1, mN h.2.2 (fun b_1 o_2 h => mV h (fun v_3 h => ms h (fun s_4 h => ⟨h.1, h.2.1, mN h.2.2 (fun b_5 o_6 h => mV h (fun v_7 h => ms h (fun s_8 h => ⟨h.1, h.2.1, mN h.2.2 (fun b_9 o_10 h => mw h (fun h_11 h => ⟨h.1, h.2.1, mN h.2.2 fun b_12 o_13 h => mw h fun h_14 h => ?_⟩))⟩)))⟩)))⟩
    refine AWP.rgn (F181_r5 E0 x0a x0n x0c x3 x8 x9 x12 h_14 _) ?_ (Ru 0 (Ru 3 (Ru 8 (Ru 9 (Ru 12 Rn))))) (Sc rfl (Sc rfl (Sc rfl (Sc rfl (Sc rfl Sn))))) Sn
    refine mC h fun u_15 h_16 h => ?_
    refine AWP.rgn (F181_r6 (upd (upd (upd (upd E0 9 (sI x9)) 8 (sI x8)) 3 (sV x3)) 0 (sS x0a x0n x0c)) x12 h_16 _) ?_ (Ru 12 (Ru 0 (Ru 3 (Ru 8 (Ru 9 Rn))))) (Sc rfl (Sc rfl (Sc rfl (Sc rfl (Sc rfl Sn))))) Sn
    exact ⟨(wr (x12 - 1)), (Sc rfl (Sc rfl (Sc rfl (Sc rfl (Sc rfl Sn))))), Sn, h⟩
   ·replace h := ite2_f h e
    refine AWP.exit ?_
    exact h
end
-- 182 slices.breakPatternsCmpFunc[string]
section
variable (e : Env) (x0a : Option Addr) (x0n x0c : Nat) (x1 x2 x8 : Int) (x9 : Option Addr) (x10 x11 x12 : Int) (hp : HP) (K : Env → PV → HP → Prop)
abbrev R182 (p : List Nat) (n : Nat) := RW Try.prog 67 [] (opsAt Try.f182 p) (List.range n)
theorem F182_r0 : R182 [0] 4 (upd (upd e 2 (sI x2)) 1 (sI x1)) V0 hp K =
    (K (upd (upd (upd (upd (upd (upd e 2 (sI x2)) 1 (sI x1)) 13 (sI x2)) 14 (sI x1)) 15 (sI ((wr (x2 - x1))))) 8 (sI ((wr (x2 - x1))))) V0 hp) := by kernel_rfl
theorem F182_r1 : R182 [1, 0] 2 (upd e 8 (sI x8)) V0 hp K =
    (K (upd (upd (upd e 8 (sI x8)) 16 (sI x8)) 17 (sB (decide (x8 ≥ 8)))) V0 hp) := by kernel_rfl
theorem F182_r2 : R182 [1, 1, 0, 0] 4 (upd e 8 (sI x8)) V0 hp K =
    (∀ b1 : Nat, hp b1 = .none → (HP.st (HP.set hp b1 (.cells 236 [.int .u64 0] 0)) b1 0 (.int .u64 (IntKind.wrap .u64 (x8))) fun h2 => (K (upd (upd (upd (upd e 8 (sI x8)) 18 (sI x8)) 19 (sV (.int .u64 (IntKind.wrap .u64 (x8))))) 9 (sQ b1 0)) V0 h2))) := by kernel_rfl
theorem F182_r3 : R182 [1, 1, 0, 1, 0] 3 (upd e 8 (sI x8)) V0 hp K =
    (CF Try.prog 172 [(.int .i64 x8)] hp fun u1 h2 => (intV u1 .u64 fun i3 => (K (upd (upd (upd (upd e 8 (sI x8)) 20 (sI x8)) 21 (sV (.int .u64 i3))) 10 (sV (.int .u64 i3))) V0 h2))) := by kernel_rfl
theorem F182_r4 : R182 [1, 1, 0, 1, 1, 1, 0, 0, 0, 0] 8 (upd (upd (upd e 11 (sI x11)) 8 (sI x8)) 1 (sI x1)) V0 hp K =
    (((4 : Int) ≠ 0) ∧ (K (upd (upd (upd (upd (upd (upd (upd (upd (upd (upd (upd e 11 (sI x11)) 8 (sI x8)) 1 (sI x1)) 28 (sI x11)) 29 (sI x1)) 30 (sI x8)) 31 (sI ((wr (Int.tdiv x8 4))))) 32 (sI ((wr ((wr (Int.tdiv x8 4)) * 2))))) 33 (sI ((wr (x1 + (wr ((wr (Int.tdiv x8 4)) * 2))))))) 34 (sI ((wr ((wr (x1 + (wr ((wr (Int.tdiv x8 4)) * 2)))) + 1))))) 35 (sB ((decide (x11 ≤ (wr ((wr (x1 + (wr ((wr (Int.tdiv x8 4)) * 2)))) + 1))))))) V0 hp)) := by kernel_rfl
theorem F182_r5 : R182 [1, 1, 0, 1, 1, 1, 0, 0, 1, 0, 0, 0] 6 (upd (upd e 10 (sV (.int .u64 x10))) 9 (sP x9)) V0 hp K =
    (CF Try.prog 173 [(.pointer x9)] hp fun u1 h2 => (intV u1 .u64 fun i3 => (K (upd (upd (upd (upd (upd (upd (upd (upd e 10 (sV (.int .u64 x10))) 9 (sP x9)) 38 (sV (.int .u64 i3))) 39 (sV (.int .u64 x10))) 40 (sV (.int .u64 (IntKind.wrap .u64 (x10 - 1))))) 41 (sV (.int .u64 (band .u64 i3 (IntKind.wrap .u64 (x10 - 1)))))) 42 (sI ((wr ((band .u64 i3 (IntKind.wrap .u64 (x10 - 1)))))))) 12 (sI ((wr ((band .u64 i3 (IntKind.wrap .u64 (x10 - 1)))))))) V0 h2))) := by kernel_rfl
theorem F182_r6 : R182 [1, 1, 0, 1, 1, 1, 0, 0, 1, 0, 0, 1, 1] 20 (upd (upd (upd (upd e 12 (sI x12)) 11 (sI x11)) 1 (sI x1)) 0 (sS x0a x0n x0c)) V0 hp K =
    ((0 ≤ ((wr (x1 + x12)) : Int)) ∧ (((wr (x1 + x12)) : Int) < x0n) ∧ (ptrN x0a fun b1 o2 => (ldV (HP.cell hp b1 (o2 + Int.toNat (wr (x1 + x12)) * 1)) fun v3 => (strV v3 fun s4 => ((0 ≤ x11) ∧ (x11 < x0n) ∧ (ptrN x0a fun b5 o6 => (ldV (HP.cell hp b5 (o6 + Int.toNat x11 * 1)) fun v7 => (strV v7 fun s8 => ((0 ≤ x11) ∧ (x11 < x0n) ∧ (ptrN x0a fun b9 o10 => (HP.st hp b9 (o10 + Int.toNat x11 * 1) (.string s4) fun h11 => ((0 ≤ ((wr (x1 + x12)) : Int)) ∧ (((wr (x1 + x12)) : Int) < x0n) ∧ (ptrN x0a fun b12 o13 => (HP.st h11 b12 (o13 + Int.toNat (wr (x1 + x12)) * 1) (.string s8) fun h14 => (K (upd (upd (upd (upd (upd (upd (upd (upd (upd (upd (upd (upd (upd (upd (upd (upd (upd (upd (upd (upd (upd (upd e 12 (sI x12)) 11 (sI x11)) 1 (sI x1)) 0 (sS x0a x0n x0c)) 49 (sS x0a x0n x0c)) 50 (sI x11)) 51 (sS x0a x0n x0c)) 52 (sI x1)) 53 (sI x12)) 54 (sI ((wr (x1 + x12))))) 55 (sS x0a x0n x0c)) 56 (sI x1)) 57 (sI x12)) 58 (sI ((wr (x1 + x12))))) 59 (sV (ptr b1 (o2 + Int.toNat (wr (x1 + x12)) * 1)))) 60 (sV (.string s4))) 61 (sS x0a x0n x0c)) 62 (sI x11)) 63 (sQ b5 (o6 + Int.toNat x11 * 1))) 64 (sV (.string s8))) 65 (sQ b9 (o10 + Int.toNat x11 * 1))) 66 (sV (ptr b12 (o13 + Int.toNat (wr (x1 + x12)) * 1)))) V0 h14))))))))))))))) := by kernel_rfl
theorem F182_r7 : R182 [1, 1, 0, 1, 1, 1, 0, 0, 1, 1] 3 (upd e 11 (sI x11)) V0 hp K =
    (K (upd (upd (upd (upd e 11 (sI x11)) 36 (sI x11)) 37 (sI ((wr (x11 + 1))))) 11 (sI ((wr (x11 + 1))))) V0 hp) := by kernel_rfl
def F182_j3 (x0a : Option Addr) (x0n : Nat) (x0c : Nat) (x1 : Int) (x8 : Int) (x9 : Option Addr) (x10 : Int) (x11 : Int) (x12 : Int) (hp : HP) (I2 : (Int) → HP → Prop) (K : Value → HP → Prop) : Prop :=
  ((0 ≤ ((IntKind.wrap .i64 (x1 + x12)) : Int)) ∧ (((IntKind.wrap .i64 (x1 + x12)) : Int) < x0n) ∧ (ptrN x0a fun b_9 o_10 => (ldV (HP.cell hp b_9 (o_10 + Int.toNat (IntKind.wrap .i64 (x1 + x12)) * 1)) fun v_11 => (strV v_11 fun s_12 => ((0 ≤ x11) ∧ (x11 < x0n) ∧ (ptrN x0a fun b_13 o_14 => (ldV (HP.cell hp b_13 (o_14 + Int.toNat x11 * 1)) fun v_15 => (strV v_15 fun s_16 => ((0 ≤ x11) ∧ (x11 < x0n) ∧ (ptrN x0a fun b_17 o_18 => (HP.st hp b_17 (o_18 + Int.toNat x11 * 1) (.string s_12) fun h_19 => ((0 ≤ ((IntKind.wrap .i64 (x1 + x12)) : Int)) ∧ (((IntKind.wrap .i64 (x1 + x12)) : Int) < x0n) ∧ (ptrN x0a fun b_20 o_21 => (HP.st h_19 b_20 (o_21 + Int.toNat (IntKind.wrap .i64 (x1 + x12)) * 1) (.string s_16) fun h_22 => (I2 (IntKind.wrap .i64 (x11 + 1)) h_22)))))))))))))))
theorem F182_r8 : R182 [1, 1, 0, 1, 1, 1, 0, 0, 1, 0, 0, 1, 0, 0] 3 (upd (upd e 12 (sI x12)) 8 (sI x8)) V0 hp K =
    (K (upd (upd (upd (upd (upd e 12 (sI x12)) 8 (sI x8)) 43 (sI x12)) 44 (sI x8)) 45 (sB (decide (x12 ≥ x8)))) V0 hp) := by kernel_rfl
theorem F182_r9 : R182 [1, 1, 0, 1, 1, 1, 0, 0, 1, 0, 0, 1, 0, 1, 0] 4 (upd (upd e 12 (sI x12)) 8 (sI x8)) V0 hp K =
    (K (upd (upd (upd (upd (upd (upd e 12 (sI x12)) 8 (sI x8)) 46 (sI x12)) 47 (sI x8)) 48 (sI ((wr (x12 - x8))))) 12 (sI ((wr (x12 - x8))))) V0 hp) := by kernel_rfl
def F182_l2 (x0a : Option Addr) (x0n : Nat) (x0c : Nat) (x1 : Int) (x8 : Int) (x9 : Option Addr) (x10 : Int) (K : Value → HP → Prop) (I2 : (Int) → HP → Prop) (x11 : Int) (hp : HP) : Prop :=
  (((4 : Int) ≠ 0) ∧ (ite2 (decide (x11 ≤ (IntKind.wrap .i64 ((IntKind.wrap .i64 (x1 + (IntKind.wrap .i64 ((IntKind.wrap .i64 (Int.tdiv x8 4)) * 2)))) + 1)))) (CF Try.prog 173 [(.pointer x9)] hp fun u_6 h_7 => (intV u_6 .u64 fun i_8 => (ite2 (decide (((IntKind.wrap .i64 ((band .u64 i_8 (IntKind.wrap .u64 (x10 - 1))))) : Int) ≥ x8)) (F182_j3 x0a x0n x0c x1 x8 x9 x10 x11 (IntKind.wrap .i64 ((IntKind.wrap .i64 ((band .u64 i_8 (IntKind.wrap .u64 (x10 - 1))))) - x8)) h_7 I2 K) (F182_j3 x0a x0n x0c x1 x8 x9 x10 x11 (IntKind.wrap .i64 ((band .u64 i_8 (IntKind.wrap .u64 (x10 - 1))))) h_7 I2 K)))) (K (.tuple ⟨[]⟩) hp)))
def F182_j1 (x0a : Option Addr) (x0n : Nat) (x0c : Nat) (x1 : Int) (x8 : Int) (x9 : Option Addr) (x10 : Int) (x11 : Int) (hp : HP) (K : Value → HP → Prop) : Prop :=
  (LoopP (σ := Int) (fun I s hp => F182_l2 x0a x0n x0c x1 x8 x9 x10  K I s hp) x11 hp)
theorem F182_r10 : R182 [1, 1, 0, 1, 1, 0] 7 (upd (upd e 8 (sI x8)) 1 (sI x1)) V0 hp K =
    (((4 : Int) ≠ 0) ∧ (K (upd (upd (upd (upd (upd (upd (upd (upd (upd e 8 (sI x8)) 1 (sI x1)) 22 (sI x1)) 23 (sI x8)) 24 (sI ((wr (Int.tdiv x8 4))))) 25 (sI ((wr ((wr (Int.tdiv x8 4)) * 2))))) 26 (sI ((wr (x1 + (wr ((wr (Int.tdiv x8 4)) * 2))))))) 27 (sI ((wr ((wr (x1 + (wr ((wr (Int.tdiv x8 4)) * 2)))) - 1))))) 11 (sI ((wr ((wr (x1 + (wr ((wr (Int.tdiv x8 4)) * 2)))) - 1))))) V0 hp)) := by kernel_rfl
def F182 (x0a : Option Addr) (x0n : Nat) (x0c : Nat) (x1 : Int) (x2 : Int) (x3 : Value) (hp : HP) (K : Value → HP → Prop) : Prop :=
  (ite2 (decide (((IntKind.wrap .i64 (x2 - x1)) : Int) ≥ 8)) (∀ b_1 : Nat, hp b_1 = .none → (HP.st (HP.set hp b_1 (.cells 236 [.int .u64 0] 0)) b_1 0 (.int .u64 (IntKind.wrap .u64 ((IntKind.wrap .i64 (x2 - x1))))) fun h_2 => (CF Try.prog 172 [(.int .i64 (IntKind.wrap .i64 (x2 - x1)))] h_2 fun u_3 h_4 => (intV u_3 .u64 fun i_5 => (((4 : Int) ≠ 0) ∧ (F182_j1 x0a x0n x0c x1 (IntKind.wrap .i64 (x2 - x1)) (some ⟨b_1, 0, none⟩) i_5 (IntKind.wrap .i64 ((IntKind.wrap .i64 (x1 + (IntKind.wrap .i64 ((IntKind.wrap .i64 (Int.tdiv (IntKind.wrap .i64 (x2 - x1)) 4)) * 2)))) - 1)) h_4  K)))))) (K (.tuple ⟨[]⟩) hp))
noncomputable def F182_code : Code := (.seq (.region 0 (opsAt Try.f182 [0]) false) (.seq (.region 1 (opsAt Try.f182 [1, 0]) false) (.cond (.tmp 17) (.seq (.region 2 (opsAt Try.f182 [1, 1, 0, 0]) false) (.seq (.region 3 (opsAt Try.f182 [1, 1, 0, 1, 0]) false) (.seq (.region 4 (opsAt Try.f182 [1, 1, 0, 1, 1, 0]) false) (.block 0 (.loop (.seq (.seq (.region 5 (opsAt Try.f182 [1, 1, 0, 1, 1, 1, 0, 0, 0, 0]) false) (.cond (.tmp 35) .skip (.exit 0))) (.seq (.block 1 (.seq (.region 7 (opsAt Try.f182 [1, 1, 0, 1, 1, 1, 0, 0, 1, 0, 0, 0]) false) (.seq (.seq (.region 8 (opsAt Try.f182 [1, 1, 0, 1, 1, 1, 0, 0, 1, 0, 0, 1, 0, 0]) false) (.cond (.tmp 45) (.region 9 (opsAt Try.f182 [1, 1, 0, 1, 1, 1, 0, 0, 1, 0, 0, 1, 0, 1, 0]) false) .skip)) (.region 10 (opsAt Try.f182 [1, 1, 0, 1, 1, 1, 0, 0, 1, 0, 0, 1, 1]) true)))) (.region 6 (opsAt Try.f182 [1, 1, 0, 1, 1, 1, 0, 0, 1, 1]) false)))))))) .skip)))
theorem F182_body : Try.f182.body = some F182_code := by kernel_rfl
theorem F182_ok (x0a : Option Addr) (x0n : Nat) (x0c : Nat) (x1 : Int) (x2 : Int) (x3 : Value) (hp : HP) (K : Value → HP → Prop) (h : F182 x0a x0n x0c x1 x2 x3 hp K) : CF Try.prog 182 [(.slice x0a x0n x0c), (.int .i64 x1), (.int .i64 x2), x3] hp K := by
 refine .inl ⟨by kernel_rfl, AC.intro (N := 67) Try.func182 F182_body rfl (Nat.le_of_ble_eq_true rfl) ?_⟩
 unfold F182 at h
 unfold F182_code
 refine AWP.seq' ?_
 refine AWP.rgn (F182_r0 (upd E0 0 (sS x0a x0n x0c)) x1 x2 hp _) ?_ (Ru 1 (Ru 2 (Ru 0 Rn))) (Sc rfl (Sc rfl (Sc rfl Sn))) Sn
 refine AWP.seq' ?_
 refine AWP.rgn (F182_r1 (upd (upd E0 1 (sI x1)) 0 (sS x0a x0n x0c)) (wr (x2 - x1)) hp _) ?_ (Ru 8 (Ru 0 (Ru 1 Rn))) (Sc rfl (Sc rfl (Sc rfl Sn))) Sn
 refine AWP.cond (t := (decide (((wr (x2 - x1)) : Int) ≥ 8))) rfl (fun e => ?_) (fun e => ?_)
 ·replace h := ite2_t h e
  refine AWP.seq' ?_
  refine AWP.rgn (F182_r2 (upd (upd E0 1 (sI x1)) 0 (sS x0a x0n x0c)) (wr (x2 - x1)) hp _) ?_ (Ru 8 (Ru 0 (Ru 1 Rn))) (Sc rfl (Sc rfl (Sc rfl Sn))) Sn
  refine fun b_1 hb_b_1 => ?_
  replace h := h b_1 hb_b_1
  refine mw h fun h_2 h => ?_
  refine AWP.seq' ?_
  refine AWP.rgn (F182_r3 (upd (upd (upd E0 9 (sV (.pointer (some ⟨b_1, 0, none⟩)))) 1 (sI x1)) 0 (sS x0a x0n x0c)) (wr (x2 - x1)) h_2 _) ?_ (Ru 8 (Ru 0 (Ru 1 (Ru 9 Rn)))) (Sc rfl (Sc rfl (Sc rfl (Sc rfl Sn)))) Sn
  refine mC h fun u_3 h_4 h => mI h fun i_5 h => ?_
  refine AWP.seq (fun env pv hp => ∃ (x0a : Option Addr) (x0n : Nat) (x0c : Nat) (x1 : Int) (x8 : Int) (x9 : Option Addr) (x10 : Int) (x11 : Int), Sub (upd (upd (upd (upd (upd (upd E0 11 (sI x11)) 10 (sV (.int .u64 x10))) 9 (sP x9)) 8 (sI x8)) 1 (sI x1)) 0 (sS x0a x0n x0c)) env ∧ Sub V0 pv ∧ (F182_j1 x0a x0n x0c x1 x8 x9 x10 x11 hp  K)) ?_ ?_
  ·refine AWP.rgn (F182_r10 (upd (upd (upd E0 10 (sV (.int .u64 i_5))) 9 (sV (.pointer (some ⟨b_1, 0, none⟩)))) 0 (sS x0a x0n x0c)) x1 (wr (x2 - x1)) h_4 _) ?_ (Ru 1 (Ru 8 (Ru 0 (Ru 9 (Ru 10 Rn))))) (Sc rfl (Sc rfl (Sc rfl (Sc rfl (Sc rfl Sn))))) Sn
   refine ⟨h.1, ?_⟩
   replace h := h.2
   exact ⟨x0a, x0n, x0c, x1, (wr (x2 - x1)), (some ⟨b_1, 0, none⟩), i_5, (wr ((wr (x1 + (wr ((wr (Int.tdiv (wr (x2 - x1)) 4)) * 2)))) - 1)), (Sc rfl (Sc rfl (Sc rfl (Sc rfl (Sc rfl (Sc rfl Sn)))))), Sn, h⟩
  ·rintro env pv hp ⟨x0a, x0n, x0c, x1, x8, x9, x10, x11, he, hv, h⟩
   refine AWP.sub (env' := (upd (upd (upd (upd (upd (upd E0 11 (sI x11)) 10 (sV (.int .u64 x10))) 9 (sP x9)) 8 (sI x8)) 1 (sI x1)) 0 (sS x0a x0n x0c))) (pv' := V0) ?_ (Ru 0 (Ru 1 (Ru 8 (Ru 9 (Ru 10 (Ru 11 Rn)))))) he hv (HSub.refl _)
   clear he hv
   unfold F182_j1 at h
   refine AWP.block ?_
   refine AWP.loop (σ := Int) (fun I s hp => F182_l2 x0a x0n x0c x1 x8 x9 x10  K I s hp) (fun s => (upd (upd (upd (upd (upd (upd E0 11 (sI s)) 10 (sV (.int .u64 x10))) 9 (sP x9)) 8 (sI x8)) 1 (sI x1)) 0 (sS x0a x0n x0c))) (fun s => V0) x11 h (fun s => (Ru 0 (Ru 1 (Ru 8 (Ru 9 (Ru 10 (Ru 11 Rn))))))) (Sc rfl (Sc rfl (Sc rfl (Sc rfl (Sc rfl (Sc rfl Sn)))))) Sn ?_
   intro I2 s hp h
   obtain ⟨x11, hs⟩ : ∃ x, x = s := ⟨s, rfl⟩
   subst hs
   replace h : F182_l2 x0a x0n x0c x1 x8 x9 x10  K I2 x11 hp := h
   unfold F182_l2 at h
   refine AWP.seq' ?_
   refine AWP.seq' ?_
   refine AWP.rgn (F182_r4 (upd (upd (upd E0 10 (sV (.int .u64 x10))) 9 (sP x9)) 0 (sS x0a x0n x0c)) x1 x8 x11 hp _) ?_ (Ru 1 (Ru 8 (Ru 11 (Ru 0 (Ru 9 (Ru 10 Rn)))))) (Sc rfl (Sc rfl (Sc rfl (Sc rfl (Sc rfl (Sc rfl Sn)))))) Sn
   refine ⟨h.1, ?_⟩
   replace h := h.2
   refine AWP.cond (t := (decide (x11 ≤ (wr ((wr (x1 + (wr ((wr (Int.tdiv x8 4)) * 2)))) + 1))))) rfl (fun e => ?_) (fun e => ?_)
   ·replace h := ite2_t h e
    refine AWP.skip ?_
    refine AWP.seq' ?_
    refine AWP.block ?_
    refine AWP.seq' ?_
    refine AWP.rgn (F182_r5 (upd (upd (upd (upd E0 11 (sI x11)) 8 (sI x8)) 1 (sI x1)) 0 (sS x0a x0n x0c)) x9 x10 hp _) ?_ (Ru 9 (Ru 10 (Ru 0 (Ru 1 (Ru 8 (Ru 11 Rn)))))) (Sc rfl (Sc rfl (Sc rfl (Sc rfl (Sc rfl (Sc rfl Sn)))))) Sn
    refine mC h fun u_6 h_7 h => mI h fun i_8 h => ?_
    refine AWP.seq (fun env pv hp => ∃ (x11 : Int) (x12 : Int), Sub (upd (upd (upd (upd (upd (upd (upd E0 12 (sI x12)) 11 (sI x11)) 10 (sV (.int .u64 x10))) 9 (sP x9)) 8 (sI x8)) 1 (sI x1)) 0 (sS x0a x0n x0c)) env ∧ Sub V0 pv ∧ (F182_j3 x0a x0n x0c x1 x8 x9 x10 x11 x12 hp I2 K)) ?_ ?_
    ·refine AWP.seq' ?_
     refine AWP.rgn (F182_r8 (upd (upd (upd (upd (upd E0 11 (sI x11)) 10 (sV (.int .u64 x10))) 9 (sP x9)) 1 (sI x1)) 0 (sS x0a x0n x0c)) x8 (wr ((band .u64 i_8 (IntKind.wrap .u64 (x10 - 1))))) h_7 _) ?_ (Ru 8 (Ru 12 (Ru 0 (Ru 1 (Ru 9 (Ru 10 (Ru 11 Rn))))))) (Sc rfl (Sc rfl (Sc rfl (Sc rfl (Sc rfl (Sc rfl (Sc rfl Sn))))))) Sn
     refine AWP.cond (t := (decide (((wr ((band .u64 i_8 (IntKind.wrap .u64 (x10 - 1))))) : Int) ≥ x8))) rfl (fun e => ?_) (fun e => ?_)
     ·replace h := ite2_t h e
      refine AWP.rgn (F182_r9 (upd (upd (upd (upd (upd E0 11 (sI x11)) 10 (sV (.int .u64 x10))) 9 (sP x9)) 1 (sI x1)) 0 (sS x0a x0n x0c)) x8 (wr ((band .u64 i_8 (IntKind.wrap .u64 (x10 - 1))))) h_7 _) ?_ (Ru 8 (Ru 12 (Ru 0 (Ru 1 (Ru 9 (Ru 10 (Ru 11 Rn))))))) (Sc rfl (Sc rfl (Sc rfl (Sc rfl (Sc rfl (Sc rfl (Sc rfl Sn))))))) Sn
      exact ⟨x11, (wr ((wr ((band .u64 i_8 (IntKind.wrap .u64 (x10 - 1))))) - x8)), (Sc rfl (Sc rfl (Sc rfl (Sc rfl (Sc rfl (Sc rfl (Sc rfl Sn))))))), Sn, h⟩
     ·replace h := ite2_f h e
      refine AWP.skip ?_
      exact ⟨x11, (wr ((band .u64 i_8 (IntKind.wrap .u64 (x10 - 1))))), (Sc rfl (Sc rfl (Sc rfl (Sc rfl (Sc rfl (Sc rfl (Sc rfl Sn))))))), Sn, h⟩
    ·rintro env pv hp ⟨x11, x12, he, hv, h⟩
     refine AWP.sub (env' := (upd (upd (upd (upd (upd (upd (upd E0 12 (sI x12)) 11 (sI x11)) 10 (sV (.int .u64 x10))) 9 (sP x9)) 8 (sI x8)) 1 (sI x1)) 0 (sS x0a x0n x0c))) (pv' := V0) ?_ (Ru 0 (Ru 1 (Ru 8 (Ru 9 (Ru 10 (Ru 11 (Ru 12 Rn))))))) he hv (HSub.refl _)
     clear he hv
     unfold F182_j3 at h
     refine AWP.rgnD (by kernel_rfl) (by kernel_rfl) (F182_r6 (upd (upd (upd E0 10 (sV (.int .u64 x10))) 9 (sP x9)) 8 (sI x8)) x0a x0n x0c x1 x11 x12 hp _) ?_ (Ru 0 (Ru 1 (Ru 11 (Ru 12 (Ru 8 (Ru 9 (Ru 10 Rn))))))) (Sc rfl (Sc rfl (Sc rfl (Sc rfl (Sc rfl (Sc rfl (Sc rfl Sn))))))) Sn
     refine ⟨h.1, h.2.1, mN h.2.2 (fun b_9 o_10 h => mV h (fun v_11 h => ms h (fun s_12 h => ⟨h.1, h.2.1, mN h.2.2 (fun b_13 o_14 h => mV h (fun v_15 h => ms h (fun s_16 h => ⟨h.1, h.2.1, mN h.2.2 (fun b_17 o_18 h => mw h (fun h_19 h => ⟨h.1, h.2.1, mN h.2.2 fun b_20 o_21 h => mw h fun h_22 h => ?_⟩))⟩)))⟩)))⟩
     refine AWP.rgn (F182_r7 (upd (upd (upd (upd (upd E0 10 (sV (.int .u64 x10))) 9 (sP x9)) 8 (sI x8)) 1 (sI x1)) 0 (sS x0a x0n x0c)) x11 h_22 _) ?_ (Ru 11 (Ru 0 (Ru 1 (Ru 8 (Ru 9 (Ru 10 Rn)))))) (Sc rfl (Sc rfl (Sc rfl (Sc rfl (Sc rfl (Sc rfl Sn)))))) Sn
     exact ⟨(wr (x11 + 1)), (Sc rfl (Sc rfl (Sc rfl (Sc rfl (Sc rfl (Sc rfl Sn)))))), Sn, h⟩
   ·replace h := ite2_f h e
    refine AWP.exit ?_
    exact h
 ·replace h := ite2_f h e
  refine AWP.skip ?_
  exact h
end
-- 184 slices.reverseRangeCmpFunc[string]
section
variable (e : Env) (x0a : Option Addr) (x0n x0c : Nat) (x1 x2 x8 x9 : Int) (hp : HP) (K : Env → PV → HP → Prop)
abbrev R184 (p : List Nat) (n : Nat) := RW Try.prog 34 [] (opsAt Try.f184 p) (List.range n)
theorem F184_r0 : R184 [0] 2 (upd e 1 (sI x1)) V0 hp K =
    (K (upd (upd (upd e 1 (sI x1)) 10 (sI x1)) 8 (sI x1)) V0 hp) := by kernel_rfl
theorem F184_r1 : R184 [1, 1, 0, 0, 0, 0] 3 (upd (upd e 9 (sI x9)) 8 (sI x8)) V0 hp K =
    (K (upd (upd (upd (upd (upd e 9 (sI x9)) 8 (sI x8)) 13 (sI x8)) 14 (sI x9)) 15 (sB (decide (x8 < x9)))) V0 hp) := by kernel_rfl
theorem F184_r2 : R184 [1, 1, 0, 0, 1, 0, 0] 16 (upd (upd (upd e 9 (sI x9)) 8 (sI x8)) 0 (sS x0a x0n x0c)) V0 hp K =
    ((0 ≤ x9) ∧ (x9 < x0n) ∧ (ptrN x0a fun b1 o2 => (ldV (HP.cell hp b1 (o2 + Int.toNat x9 * 1)) fun v3 => (strV v3 fun s4 => ((0 ≤ x8) ∧ (x8 < x0n) ∧ (ptrN x0a fun b5 o6 => (ldV (HP.cell hp b5 (o6 + Int.toNat x8 * 1)) fun v7 => (strV v7 fun s8 => ((0 ≤ x8) ∧ (x8 < x0n) ∧ (ptrN x0a fun b9 o10 => (HP.st hp b9 (o10 + Int.toNat x8 * 1) (.string s4) fun h11 => ((0 ≤ x9) ∧ (x9 < x0n) ∧ (ptrN x0a fun b12 o13 => (HP.st h11 b12 (o13 + Int.toNat x9 * 1) (.string s8) fun h14 => (K (upd (upd (upd (upd (upd (upd (upd (upd (upd (upd (upd (upd (upd (upd (upd (upd (upd e 9 (sI x9)) 8 (sI x8)) 0 (sS x0a x0n x0c)) 16 (sS x0a x0n x0c)) 17 (sI x8)) 18 (sS x0a x0n x0c)) 19 (sI x9)) 20 (sS x0a x0n x0c)) 21 (sI x9)) 22 (sQ b1 (o2 + Int.toNat x9 * 1))) 23 (sV (.string s4))) 24 (sS x0a x0n x0c)) 25 (sI x8)) 26 (sQ b5 (o6 + Int.toNat x8 * 1))) 27 (sV (.string s8))) 28 (sQ b9 (o10 + Int.toNat x8 * 1))) 29 (sQ b12 (o13 + Int.toNat x9 * 1))) V0 h14))))))))))))))) := by kernel_rfl
theorem F184_r3 : R184 [1, 1, 0, 0, 1, 0, 1, 0] 3 (upd e 8 (sI x8)) V0 hp K =
    (K (upd (upd (upd (upd e 8 (sI x8)) 30 (sI x8)) 31 (sI ((wr (x8 + 1))))) 8 (sI ((wr (x8 + 1))))) V0 hp) := by kernel_rfl
theorem F184_r4 : R184 [1, 1, 0, 0, 1, 0, 1, 1] 3 (upd e 9 (sI x9)) V0 hp K =
    (K (upd (upd (upd (upd e 9 (sI x9)) 32 (sI x9)) 33 (sI ((wr (x9 - 1))))) 9 (sI ((wr (x9 - 1))))) V0 hp) := by kernel_rfl
def F184_l2 (x0a : Option Addr) (x0n : Nat) (x0c : Nat) (K : Value → HP → Prop) (I2 : (Int × Int) → HP → Prop) (x8 : Int) (x9 : Int) (hp : HP) : Prop :=
  (ite2 (decide (x8 < x9)) ((0 ≤ x9) ∧ (x9 < x0n) ∧ (ptrN x0a fun b_1 o_2 => (ldV (HP.cell hp b_1 (o_2 + Int.toNat x9 * 1)) fun v_3 => (strV v_3 fun s_4 => ((0 ≤ x8) ∧ (x8 < x0n) ∧ (ptrN x0a fun b_5 o_6 => (ldV (HP.cell hp b_5 (o_6 + Int.toNat x8 * 1)) fun v_7 => (strV v_7 fun s_8 => ((0 ≤ x8) ∧ (x8 < x0n) ∧ (ptrN x0a fun b_9 o_10 => (HP.st hp b_9 (o_10 + Int.toNat x8 * 1) (.string s_4) fun h_11 => ((0 ≤ x9) ∧ (x9 < x0n) ∧ (ptrN x0a fun b_12 o_13 => (HP.st h_11 b_12 (o_13 + Int.toNat x9 * 1) (.string s_8) fun h_14 => (I2 ((IntKind.wrap .i64 (x8 + 1)), (IntKind.wrap .i64 (x9 - 1))) h_14))))))))))))))) (K (.tuple ⟨[]⟩) hp))
def F184_j1 (x0a : Option Addr) (x0n : Nat) (x0c : Nat) (x8 : Int) (x9 : Int) (hp : HP) (K : Value → HP → Prop) : Prop :=
  (LoopP (σ := Int × Int) (fun I s hp => F184_l2 x0a x0n x0c  K I s.1 s.2 hp) (x8, x9) hp)
theorem F184_r5 : R184 [1, 0] 3 (upd e 2 (sI x2)) V0 hp K =
    (K (upd (upd (upd (upd e 2 (sI x2)) 11 (sI x2)) 12 (sI ((wr (x2 - 1))))) 9 (sI ((wr (x2 - 1))))) V0 hp) := by kernel_rfl
def F184 (x0a : Option Addr) (x0n : Nat) (x0c : Nat) (x1 : Int) (x2 : Int) (x3 : Value) (hp : HP) (K : Value → HP → Prop) : Prop :=
  (F184_j1 x0a x0n x0c x1 (IntKind.wrap .i64 (x2 - 1)) hp  K)
noncomputable def F184_code : Code := (.seq (.region 0 (opsAt Try.f184 [0]) false) (.seq (.region 1 (opsAt Try.f184 [1, 0]) false) (.block 0 (.loop (.seq (.seq (.region 2 (opsAt Try.f184 [1, 1, 0, 0, 0, 0]) false) (.cond (.tmp 15) .skip (.exit 0))) (.block 1 (.seq (.region 3 (opsAt Try.f184 [1, 1, 0, 0, 1, 0, 0]) true) (.seq (.region 4 (opsAt Try.f184 [1, 1, 0, 0, 1, 0, 1, 0]) false) (.region 5 (opsAt Try.f184 [1, 1, 0, 0, 1, 0, 1, 1]) false)))))))))
theorem F184_body : Try.f184.body = some F184_code := by kernel_rfl
theorem F184_ok (x0a : Option Addr) (x0n : Nat) (x0c : Nat) (x1 : Int) (x2 : Int) (x3 : Value) (hp : HP) (K : Value → HP → Prop) (h : F184 x0a x0n x0c x1 x2 x3 hp K) : CF Try.prog 184 [(.slice x0a x0n x0c), (.int .i64 x1), (.int .i64 x2), x3] hp K := by
 refine .inl ⟨by kernel_rfl, AC.intro (N := 34) Try.func184 F184_body rfl (Nat.le_of_ble_eq_true rfl) ?_⟩
 unfold F184 at h
 unfold F184_code
 refine AWP.seq' ?_
 refine AWP.rgn (F184_r0 (upd (upd E0 2 (sI x2)) 0 (sS x0a x0n x0c)) x1 hp _) ?_ (Ru 1 (Ru 0 (Ru 2 Rn))) (Sc rfl (Sc rfl (Sc rfl Sn))) Sn
 refine AWP.seq (fun env pv hp => ∃ (x0a : Option Addr) (x0n : Nat) (x0c : Nat) (x8 : Int) (x9 : Int), Sub (upd (upd (upd E0 9 (sI x9)) 8 (sI x8)) 0 (sS x0a x0n x0c)) env ∧ Sub V0 pv ∧ (F184_j1 x0a x0n x0c x8 x9 hp  K)) ?_ ?_
 ·refine AWP.rgn (F184_r5 (upd (upd E0 8 (sI x1)) 0 (sS x0a x0n x0c)) x2 hp _) ?_ (Ru 2 (Ru 0 (Ru 8 Rn))) (Sc rfl (Sc rfl (Sc rfl Sn))) Sn
  exact ⟨x0a, x0n, x0c, x1, (wr (x2 - 1)), (Sc rfl (Sc rfl (Sc rfl Sn))), Sn, h⟩
 ·rintro env pv hp ⟨x0a, x0n, x0c, x8, x9, he, hv, h⟩
  refine AWP.sub (env' := (upd (upd (upd E0 9 (sI x9)) 8 (sI x8)) 0 (sS x0a x0n x0c))) (pv' := V0) ?_ (Ru 0 (Ru 8 (Ru 9 Rn))) he hv (HSub.refl _)
  clear he hv
  unfold F184_j1 at h
  refine AWP.block ?_
  refine AWP.loop (σ := Int × Int) (fun I s hp => F184_l2 x0a x0n x0c  K I s.1 s.2 hp) (fun s => (upd (upd (upd E0 9 (sI (s.2))) 8 (sI (s.1))) 0 (sS x0a x0n x0c))) (fun s => V0) (x8, x9) h (fun s => (Ru 0 (Ru 8 (Ru 9 Rn)))) (Sc rfl (Sc rfl (Sc rfl Sn))) Sn ?_
  intro I2 s hp h
  obtain ⟨x8, x9⟩ := s
  replace h : F184_l2 x0a x0n x0c  K I2 x8 x9 hp := h
  unfold F184_l2 at h
  refine AWP.seq' ?_
  refine AWP.seq' ?_
  refine AWP.rgn (F184_r1 (upd E0 0 (sS x0a x0n x0c)) x8 x9 hp _) ?_ (Ru 8 (Ru 9 (Ru 0 Rn))) (Sc rfl (Sc rfl (Sc rfl Sn))) Sn
  refine AWP.cond (t := (decide (x8 < x9))) rfl (fun e => ?_) (fun e => ?_)
  ·replace h := ite2_t h e
   refine AWP.skip ?_
   refine AWP.block ?_
   refine AWP.seq' ?_
   refine AWP.rgnD (by kernel_rfl) (by kernel_rfl) (F184_r2 E0 x0a x0n x0c x8 x9 hp _) ?_ (Ru 0 (Ru 8 (Ru 9 Rn))) (Sc rfl (Sc rfl (Sc rfl Sn))) Sn
   refine ⟨h.1, h.2.1, mN h.2.2 (fun b_1 o_2 h => mV h (fun v_3 h => ms h (fun s_4 h => ⟨h.1, h.2.1, mN h.2.2 (fun b_5 o_6 h => mV h (fun v_7 h => ms h (fun s_8 h => ⟨h.1, h.2.1, mN h.2.2 (fun b_9 o_10 h => mw h (fun h_11 h => ⟨h.1, h.2.1, mN h.2.2 fun b_12 o_13 h => mw h fun h_14 h => ?_⟩))⟩)))⟩)))⟩
   refine AWP.seq' ?_
   refine AWP.rgn (F184_r3 (upd (upd E0 9 (sI x9)) 0 (sS x0a x0n x0c)) x8 h_14 _) ?_ (Ru 8 (Ru 0 (Ru 9 Rn))) (Sc rfl (Sc rfl (Sc rfl Sn))) Sn
   refine AWP.rgn (F184_r4 (upd (upd E0 8 (sI ((wr (x8 + 1))))) 0 (sS x0a x0n x0c)) x9 h_14 _) ?_ (Ru 9 (Ru 0 (Ru 8 Rn))) (Sc rfl (Sc rfl (Sc rfl Sn))) Sn
   exact ⟨((wr (x8 + 1)), (wr (x9 - 1))), (Sc rfl (Sc rfl (Sc rfl Sn))), Sn, h⟩
  ·replace h := ite2_f h e
   refine AWP.exit ?_
   exact h
end
-- 185 slices.partialInsertionSortCmpFunc[string]
section
variable (e : Env) (x0a : Option Addr) (x0n x0c : Nat) (x1 x2 : Int) (x3 : Value) (x9 x10 x11 x12 : Int) (hp : HP) (K : Env → PV → HP → Prop)
abbrev R185 (p : List Nat) (n : Nat) := RW Try.prog 141 [] (opsAt Try.f185 p) (List.range n)
theorem F185_r0 : R185 [0] 1 e V0 hp K =
    (K (upd e 8 (sB false)) V0 hp) := by kernel_rfl
theorem F185_r1 : R185 [1, 0] 3 (upd e 1 (sI x1)) V0 hp K =
    (K (upd (upd (upd (upd e 1 (sI x1)) 13 (sI x1)) 14 (sI ((wr (x1 + 1))))) 9 (sI ((wr (x1 + 1))))) V0 hp) := by kernel_rfl
theorem F185_r2 : R185 [1, 1, 0, 1, 0, 0, 1, 1] 3 (upd e 10 (sI x10)) V0 hp K =
    (K (upd (upd (upd (upd e 10 (sI x10)) 17 (sI x10)) 18 (sI ((wr (x10 + 1))))) 10 (sI ((wr (x10 + 1))))) V0 hp) := by kernel_rfl
def F185_j4 (x0a : Option Addr) (x0n : Nat) (x0c : Nat) (x1 : Int) (x2 : Int) (x3 : Value) (x9 : Int) (x10 : Int) (hp : HP) (I2 : (Int × Int) → HP → Prop) (K : Value → HP → Prop) : Prop :=
  (I2 (x9, (IntKind.wrap .i64 (x10 + 1))) hp)
theorem F185_r3 : R185 [1, 1, 0, 1, 0, 0, 1, 0, 0, 1, 0, 0] 3 (upd (upd e 9 (sI x9)) 2 (sI x2)) V0 hp K =
    (K (upd (upd (upd (upd (upd e 9 (sI x9)) 2 (sI x2)) 39 (sI x9)) 40 (sI x2)) 41 (sB ((x9 == x2)))) V0 hp) := by kernel_rfl
theorem F185_r4 : R185 [1, 1, 0, 1, 0, 0, 1, 0, 0, 1, 0, 1, 0, 0] 1 e V0 hp K =
    (K (upd e 8 (sB true)) V0 hp) := by kernel_rfl
theorem F185_r5 : R185 [1, 1, 0, 1, 0, 0, 1, 0, 0, 1, 1, 0, 0] 4 (upd (upd e 2 (sI x2)) 1 (sI x1)) V0 hp K =
    (K (upd (upd (upd (upd (upd (upd e 2 (sI x2)) 1 (sI x1)) 42 (sI x2)) 43 (sI x1)) 44 (sI ((wr (x2 - x1))))) 45 (sB ((decide (((wr (x2 - x1)) : Int) < 50))))) V0 hp) := by kernel_rfl
theorem F185_r6 : R185 [1, 1, 0, 1, 0, 0, 1, 0, 0, 1, 1, 0, 1, 0, 0] 1 e V0 hp K =
    (K (upd e 8 (sB false)) V0 hp) := by kernel_rfl
theorem F185_r7 : R185 [1, 1, 0, 1, 0, 0, 1, 0, 0, 1, 1, 1, 0] 18 (upd (upd e 9 (sI x9)) 0 (sS x0a x0n x0c)) V0 hp K =
    ((0 ≤ ((wr (x9 - 1)) : Int)) ∧ (((wr (x9 - 1)) : Int) < x0n) ∧ (ptrN x0a fun b1 o2 => (ldV (HP.cell hp b1 (o2 + Int.toNat (wr (x9 - 1)) * 1)) fun v3 => (strV v3 fun s4 => ((0 ≤ x9) ∧ (x9 < x0n) ∧ (ptrN x0a fun b5 o6 => (ldV (HP.cell hp b5 (o6 + Int.toNat x9 * 1)) fun v7 => (strV v7 fun s8 => ((0 ≤ x9) ∧ (x9 < x0n) ∧ (ptrN x0a fun b9 o10 => (HP.st hp b9 (o10 + Int.toNat x9 * 1) (.string s4) fun h11 => ((0 ≤ ((wr (x9 - 1)) : Int)) ∧ (((wr (x9 - 1)) : Int) < x0n) ∧ (ptrN x0a fun b12 o13 => (HP.st h11 b12 (o13 + Int.toNat (wr (x9 - 1)) * 1) (.string s8) fun h14 => (K (upd (upd (upd (upd (upd (upd (upd (upd (upd (upd (upd (upd (upd (upd (upd (upd (upd (upd e 9 (sI x9)) 0 (sS x0a x0n x0c)) 46 (sS x0a x0n x0c)) 47 (sI x9)) 48 (sS x0a x0n x0c)) 49 (sI x9)) 50 (sI ((wr (x9 - 1))))) 51 (sS x0a x0n x0c)) 52 (sI x9)) 53 (sI ((wr (x9 - 1))))) 54 (sV (ptr b1 (o2 + Int.toNat (wr (x9 - 1)) * 1)))) 55 (sV (.string s4))) 56 (sS x0a x0n x0c)) 57 (sI x9)) 58 (sQ b5 (o6 + Int.toNat x9 * 1))) 59 (sV (.string s8))) 60 (sQ b9 (o10 + Int.toNat x9 * 1))) 61 (sV (ptr b12 (o13 + Int.toNat (wr (x9 - 1)) * 1)))) V0 h14))))))))))))))) := by kernel_rfl
theorem F185_r8 : R185 [1, 1, 0, 1, 0, 0, 1, 0, 0, 1, 1, 1, 1, 1, 0] 4 (upd (upd e 9 (sI x9)) 2 (sI x2)) V0 hp K =
    (K (upd (upd (upd (upd (upd (upd e 9 (sI x9)) 2 (sI x2)) 101 (sI x2)) 102 (sI x9)) 103 (sI ((wr (x2 - x9))))) 104 (sB ((decide (((wr (x2 - x9)) : Int) ≥ 2))))) V0 hp) := by kernel_rfl
theorem F185_r9 : R185 [1, 1, 0, 1, 0, 0, 1, 0, 0, 1, 1, 1, 1, 1, 1, 0, 1, 0, 0, 0, 0] 3 (upd (upd e 12 (sI x12)) 2 (sI x2)) V0 hp K =
    (K (upd (upd (upd (upd (upd e 12 (sI x12)) 2 (sI x2)) 107 (sI x12)) 108 (sI x2)) 109 (sB (decide (x12 < x2)))) V0 hp) := by kernel_rfl
theorem F185_r10 : R185 [1, 1, 0, 1, 0, 0, 1, 0, 0, 1, 1, 1, 1, 1, 1, 0, 1, 0, 0, 1, 0, 0, 0, 0] 13 (upd (upd (upd e 12 (sI x12)) 3 (sV x3)) 0 (sS x0a x0n x0c)) V0 hp K =
    ((0 ≤ x12) ∧ (x12 < x0n) ∧ (ptrN x0a fun b1 o2 => (ldV (HP.cell hp b1 (o2 + Int.toNat x12 * 1)) fun v3 => (strV v3 fun s4 => ((0 ≤ ((wr (x12 - 1)) : Int)) ∧ (((wr (x12 - 1)) : Int) < x0n) ∧ (ptrN x0a fun b5 o6 => (ldV (HP.cell hp b5 (o6 + Int.toNat (wr (x12 - 1)) * 1)) fun v7 => (strV v7 fun s8 => (fnV x3 fun f9 ga10 gb11 => (CF Try.prog f9 (ga10 ++ [(Value.string s4), (.string s8)] ++ gb11) hp fun u12 h13 => (intV u12 .i64 fun i14 => (K (upd (upd (upd (upd (upd (upd (upd (upd (upd (upd (upd (upd (upd (upd (upd (upd e 12 (sI x12)) 3 (sV x3)) 0 (sS x0a x0n x0c)) 112 (sV x3)) 113 (sS x0a x0n x0c)) 114 (sI x12)) 115 (sQ b1 (o2 + Int.toNat x12 * 1))) 116 (sV (.string s4))) 117 (sS x0a x0n x0c)) 118 (sI x12)) 119 (sI ((wr (x12 - 1))))) 120 (sV (ptr b5 (o6 + Int.toNat (wr (x12 - 1)) * 1)))) 121 (sV (.string s8))) 122 (sI i14)) 123 (sB (decide (i14 < 0)))) 124 (sB ((!(decide (i14 < 0)))))) V0 h13)))))))))))) := by kernel_rfl
theorem F185_r11 : R185 [1, 1, 0, 1, 0, 0, 1, 0, 0, 1, 1, 1, 1, 1, 1, 0, 1, 0, 0, 1, 0, 0, 1] 18 (upd (upd e 12 (sI x12)) 0 (sS x0a x0n x0c)) V0 hp K =
    ((0 ≤ ((wr (x12 - 1)) : Int)) ∧ (((wr (x12 - 1)) : Int) < x0n) ∧ (ptrN x0a fun b1 o2 => (ldV (HP.cell hp b1 (o2 + Int.toNat (wr (x12 - 1)) * 1)) fun v3 => (strV v3 fun s4 => ((0 ≤ x12) ∧ (x12 < x0n) ∧ (ptrN x0a fun b5 o6 => (ldV (HP.cell hp b5 (o6 + Int.toNat x12 * 1)) fun v7 => (strV v7 fun s8 => ((0 ≤ x12) ∧ (x12 < x0n) ∧ (ptrN x0a fun b9 o10 => (HP.st hp b9 (o10 + Int.toNat x12 * 1) (.string s4) fun h11 => ((0 ≤ ((wr (x12 - 1)) : Int)) ∧ (((wr (x12 - 1)) : Int) < x0n) ∧ (ptrN x0a fun b12 o13 => (HP.st h11 b12 (o13 + Int.toNat (wr (x12 - 1)) * 1) (.string s8) fun h14 => (K (upd (upd (upd (upd (upd (upd (upd (upd (upd (upd (upd (upd (upd (upd (upd (upd (upd (upd e 12 (sI x12)) 0 (sS x0a x0n x0c)) 125 (sS x0a x0n x0c)) 126 (sI x12)) 127 (sS x0a x0n x0c)) 128 (sI x12)) 129 (sI ((wr (x12 - 1))))) 130 (sS x0a x0n x0c)) 131 (sI x12)) 132 (sI ((wr (x12 - 1))))) 133 (sV (ptr b1 (o2 + Int.toNat (wr (x12 - 1)) * 1)))) 134 (sV (.string s4))) 135 (sS x0a x0n x0c)) 136 (sI x12)) 137 (sQ b5 (o6 + Int.toNat x12 * 1))) 138 (sV (.string s8))) 139 (sQ b9 (o10 + Int.toNat x12 * 1))) 140 (sV (ptr b12 (o13 + Int.toNat (wr (x12 - 1)) * 1)))) V0 h14))))))))))))))) := by kernel_rfl
theorem F185_r12 : R185 [1, 1, 0, 1, 0, 0, 1, 0, 0, 1, 1, 1, 1, 1, 1, 0, 1, 0, 0, 1, 1] 3 (upd e 12 (sI x12)) V0 hp K =
    (K (upd (upd (upd (upd e 12 (sI x12)) 110 (sI x12)) 111 (sI ((wr (x12 + 1))))) 12 (sI ((wr (x12 + 1))))) V0 hp) := by kernel_rfl
def F185_l8 (x0a : Option Addr) (x0n : Nat) (x0c : Nat) (x1 : Int) (x2 : Int) (x3 : Value) (x9 : Int) (x10 : Int) (I2 : (Int × Int) → HP → Prop) (K : Value → HP → Prop) (I8 : (Int) → HP → Prop) (x12 : Int) (hp : HP) : Prop :=
  (ite2 (decide (x12 < x2)) ((0 ≤ x12) ∧ (x12 < x0n) ∧ (ptrN x0a fun b_15 o_16 => (ldV (HP.cell hp b_15 (o_16 + Int.toNat x12 * 1)) fun v_17 => (strV v_17 fun s_18 => ((0 ≤ ((IntKind.wrap .i64 (x12 - 1)) : Int)) ∧ (((IntKind.wrap .i64 (x12 - 1)) : Int) < x0n) ∧ (ptrN x0a fun b_19 o_20 => (ldV (HP.cell hp b_19 (o_20 + Int.toNat (IntKind.wrap .i64 (x12 - 1)) * 1)) fun v_21 => (strV v_21 fun s_22 => (fnV x3 fun f_23 ga_24 gb_25 => (CF Try.prog f_23 (ga_24 ++ [(Value.string s_18), (.string s_22)] ++ gb_25) hp fun u_26 h_27 => (intV u_26 .i64 fun i_28 => (ite2 (!(decide (i_28 < 0))) (F185_j4 x0a x0n x0c x1 x2 x3 x9 x10 h_27 I2 K) ((0 ≤ ((IntKind.wrap .i64 (x12 - 1)) : Int)) ∧ (((IntKind.wrap .i64 (x12 - 1)) : Int) < x0n) ∧ (ptrN x0a fun b_29 o_30 => (ldV (HP.cell h_27 b_29 (o_30 + Int.toNat (IntKind.wrap .i64 (x12 - 1)) * 1)) fun v_31 => (strV v_31 fun s_32 => ((0 ≤ x12) ∧ (x12 < x0n) ∧ (ptrN x0a fun b_33 o_34 => (ldV (HP.cell h_27 b_33 (o_34 + Int.toNat x12 * 1)) fun v_35 => (strV v_35 fun s_36 => ((0 ≤ x12) ∧ (x12 < x0n) ∧ (ptrN x0a fun b_37 o_38 => (HP.st h_27 b_37 (o_38 + Int.toNat x12 * 1) (.string s_32) fun h_39 => ((0 ≤ ((IntKind.wrap .i64 (x12 - 1)) : Int)) ∧ (((IntKind.wrap .i64 (x12 - 1)) : Int) < x0n) ∧ (ptrN x0a fun b_40 o_41 => (HP.st h_39 b_40 (o_41 + Int.toNat (IntKind.wrap .i64 (x12 - 1)) * 1) (.string s_36) fun h_42 => (I8 (IntKind.wrap .i64 (x12 + 1)) h_42))))))))))))))))))))))))))) (F185_j4 x0a x0n x0c x1 x2 x3 x9 x10 hp I2 K))
def F185_j7 (x0a : Option Addr) (x0n : Nat) (x0c : Nat) (x1 : Int) (x2 : Int) (x3 : Value) (x9 : Int) (x10 : Int) (x12 : Int) (hp : HP) (I2 : (Int × Int) → HP → Prop) (K : Value → HP → Prop) : Prop :=
  (LoopP (σ := Int) (fun I s hp => F185_l8 x0a x0n x0c x1 x2 x3 x9 x10 I2 K I s hp) x12 hp)
theorem F185_r13 : R185 [1, 1, 0, 1, 0, 0, 1, 0, 0, 1, 1, 1, 1, 1, 1, 0, 0] 3 (upd e 9 (sI x9)) V0 hp K =
    (K (upd (upd (upd (upd e 9 (sI x9)) 105 (sI x9)) 106 (sI ((wr (x9 + 1))))) 12 (sI ((wr (x9 + 1))))) V0 hp) := by kernel_rfl
def F185_j6 (x0a : Option Addr) (x0n : Nat) (x0c : Nat) (x1 : Int) (x2 : Int) (x3 : Value) (x9 : Int) (x10 : Int) (hp : HP) (I2 : (Int × Int) → HP → Prop) (K : Value → HP → Prop) : Prop :=
  (ite2 (decide (((IntKind.wrap .i64 (x2 - x9)) : Int) ≥ 2)) (F185_j7 x0a x0n x0c x1 x2 x3 x9 x10 (IntKind.wrap .i64 (x9 + 1)) hp I2 K) (F185_j4 x0a x0n x0c x1 x2 x3 x9 x10 hp I2 K))
theorem F185_r14 : R185 [1, 1, 0, 1, 0, 0, 1, 0, 0, 1, 1, 1, 1, 0, 0] 4 (upd (upd e 9 (sI x9)) 1 (sI x1)) V0 hp K =
    (K (upd (upd (upd (upd (upd (upd e 9 (sI x9)) 1 (sI x1)) 62 (sI x9)) 63 (sI x1)) 64 (sI ((wr (x9 - x1))))) 65 (sB ((decide (((wr (x9 - x1)) : Int) ≥ 2))))) V0 hp) := by kernel_rfl
theorem F185_r15 : R185 [1, 1, 0, 1, 0, 0, 1, 0, 0, 1, 1, 1, 1, 0, 1, 0, 1, 0, 0, 0, 0] 2 (upd e 11 (sI x11)) V0 hp K =
    (K (upd (upd (upd e 11 (sI x11)) 68 (sI x11)) 69 (sB (decide (x11 ≥ 1)))) V0 hp) := by kernel_rfl
theorem F185_r16 : R185 [1, 1, 0, 1, 0, 0, 1, 0, 0, 1, 1, 1, 1, 0, 1, 0, 1, 0, 0, 1, 0, 0, 0, 0] 13 (upd (upd (upd e 11 (sI x11)) 3 (sV x3)) 0 (sS x0a x0n x0c)) V0 hp K =
    ((0 ≤ x11) ∧ (x11 < x0n) ∧ (ptrN x0a fun b1 o2 => (ldV (HP.cell hp b1 (o2 + Int.toNat x11 * 1)) fun v3 => (strV v3 fun s4 => ((0 ≤ ((wr (x11 - 1)) : Int)) ∧ (((wr (x11 - 1)) : Int) < x0n) ∧ (ptrN x0a fun b5 o6 => (ldV (HP.cell hp b5 (o6 + Int.toNat (wr (x11 - 1)) * 1)) fun v7 => (strV v7 fun s8 => (fnV x3 fun f9 ga10 gb11 => (CF Try.prog f9 (ga10 ++ [(Value.string s4), (.string s8)] ++ gb11) hp fun u12 h13 => (intV u12 .i64 fun i14 => (K (upd (upd (upd (upd (upd (upd (upd (upd (upd (upd (upd (upd (upd (upd (upd (upd e 11 (sI x11)) 3 (sV x3)) 0 (sS x0a x0n x0c)) 72 (sV x3)) 73 (sS x0a x0n x0c)) 74 (sI x11)) 75 (sQ b1 (o2 + Int.toNat x11 * 1))) 76 (sV (.string s4))) 77 (sS x0a x0n x0c)) 78 (sI x11)) 79 (sI ((wr (x11 - 1))))) 80 (sV (ptr b5 (o6 + Int.toNat (wr (x11 - 1)) * 1)))) 81 (sV (.string s8))) 82 (sI i14)) 83 (sB (decide (i14 < 0)))) 84 (sB ((!(decide (i14 < 0)))))) V0 h13)))))))))))) := by kernel_rfl
theorem F185_r17 : R185 [1, 1, 0, 1, 0, 0, 1, 0, 0, 1, 1, 1, 1, 0, 1, 0, 1, 0, 0, 1, 0, 0, 1] 18 (upd (upd e 11 (sI x11)) 0 (sS x0a x0n x0c)) V0 hp K =
    ((0 ≤ ((wr (x11 - 1)) : Int)) ∧ (((wr (x11 - 1)) : Int) < x0n) ∧ (ptrN x0a fun b1 o2 => (ldV (HP.cell hp b1 (o2 + Int.toNat (wr (x11 - 1)) * 1)) fun v3 => (strV v3 fun s4 => ((0 ≤ x11) ∧ (x11 < x0n) ∧ (ptrN x0a fun b5 o6 => (ldV (HP.cell hp b5 (o6 + Int.toNat x11 * 1)) fun v7 => (strV v7 fun s8 => ((0 ≤ x11) ∧ (x11 < x0n) ∧ (ptrN x0a fun b9 o10 => (HP.st hp b9 (o10 + Int.toNat x11 * 1) (.string s4) fun h11 => ((0 ≤ ((wr (x11 - 1)) : Int)) ∧ (((wr (x11 - 1)) : Int) < x0n) ∧ (ptrN x0a fun b12 o13 => (HP.st h11 b12 (o13 + Int.toNat (wr (x11 - 1)) * 1) (.string s8) fun h14 => (K (upd (upd (upd (upd (upd (upd (upd (upd (upd (upd (upd (upd (upd (upd (upd (upd (upd (upd e 11 (sI x11)) 0 (sS x0a x0n x0c)) 85 (sS x0a x0n x0c)) 86 (sI x11)) 87 (sS x0a x0n x0c)) 88 (sI x11)) 89 (sI ((wr (x11 - 1))))) 90 (sS x0a x0n x0c)) 91 (sI x11)) 92 (sI ((wr (x11 - 1))))) 93 (sV (ptr b1 (o2 + Int.toNat (wr (x11 - 1)) * 1)))) 94 (sV (.string s4))) 95 (sS x0a x0n x0c)) 96 (sI x11)) 97 (sQ b5 (o6 + Int.toNat x11 * 1))) 98 (sV (.string s8))) 99 (sQ b9 (o10 + Int.toNat x11 * 1))) 100 (sV (ptr b12 (o13 + Int.toNat (wr (x11 - 1)) * 1)))) V0 h14))))))))))))))) := by kernel_rfl
theorem F185_r18 : R185 [1, 1, 0, 1, 0, 0, 1, 0, 0, 1, 1, 1, 1, 0, 1, 0, 1, 0, 0, 1, 1] 3 (upd e 11 (sI x11)) V0 hp K =
    (K (upd (upd (upd (upd e 11 (sI x11)) 70 (sI x11)) 71 (sI ((wr (x11 - 1))))) 11 (sI ((wr (x11 - 1))))) V0 hp) := by kernel_rfl
def F185_l10 (x0a : Option Addr) (x0n : Nat) (x0c : Nat) (x1 : Int) (x2 : Int) (x3 : Value) (x9 : Int) (x10 : Int) (I2 : (Int × Int) → HP → Prop) (K : Value → HP → Prop) (I10 : (Int) → HP → Prop) (x11 : Int) (hp : HP) : Prop :=
  (ite2 (decide (x11 ≥ 1)) ((0 ≤ x11) ∧ (x11 < x0n) ∧ (ptrN x0a fun b_43 o_44 => (ldV (HP.cell hp b_43 (o_44 + Int.toNat x11 * 1)) fun v_45 => (strV v_45 fun s_46 => ((0 ≤ ((IntKind.wrap .i64 (x11 - 1)) : Int)) ∧ (((IntKind.wrap .i64 (x11 - 1)) : Int) < x0n) ∧ (ptrN x0a fun b_47 o_48 => (ldV (HP.cell hp b_47 (o_48 + Int.toNat (IntKind.wrap .i64 (x11 - 1)) * 1)) fun v_49 => (strV v_49 fun s_50 => (fnV x3 fun f_51 ga_52 gb_53 => (CF Try.prog f_51 (ga_52 ++ [(Value.string s_46), (.string s_50)] ++ gb_53) hp fun u_54 h_55 => (intV u_54 .i64 fun i_56 => (ite2 (!(decide (i_56 < 0))) (F185_j6 x0a x0n x0c x1 x2 x3 x9 x10 h_55 I2 K) ((0 ≤ ((IntKind.wrap .i64 (x11 - 1)) : Int)) ∧ (((IntKind.wrap .i64 (x11 - 1)) : Int) < x0n) ∧ (ptrN x0a fun b_57 o_58 => (ldV (HP.cell h_55 b_57 (o_58 + Int.toNat (IntKind.wrap .i64 (x11 - 1)) * 1)) fun v_59 => (strV v_59 fun s_60 => ((0 ≤ x11) ∧ (x11 < x0n) ∧ (ptrN x0a fun b_61 o_62 => (ldV (HP.cell h_55 b_61 (o_62 + Int.toNat x11 * 1)) fun v_63 => (strV v_63 fun s_64 => ((0 ≤ x11) ∧ (x11 < x0n) ∧ (ptrN x0a fun b_65 o_66 => (HP.st h_55 b_65 (o_66 + Int.toNat x11 * 1) (.string s_60) fun h_67 => ((0 ≤ ((IntKind.wrap .i64 (x11 - 1)) : Int)) ∧ (((IntKind.wrap .i64 (x11 - 1)) : Int) < x0n) ∧ (ptrN x0a fun b_68 o_69 => (HP.st h_67 b_68 (o_69 + Int.toNat (IntKind.wrap .i64 (x11 - 1)) * 1) (.string s_64) fun h_70 => (I10 (IntKind.wrap .i64 (x11 - 1)) h_70))))))))))))))))))))))))))) (F185_j6 x0a x0n x0c x1 x2 x3 x9 x10 hp I2 K))
def F185_j9 (x0a : Option Addr) (x0n : Nat) (x0c : Nat) (x1 : Int) (x2 : Int) (x3 : Value) (x9 : Int) (x10 : Int) (x11 : Int) (hp : HP) (I2 : (Int × Int) → HP → Prop) (K : Value → HP → Prop) : Prop :=
  (LoopP (σ := Int) (fun I s hp => F185_l10 x0a x0n x0c x1 x2 x3 x9 x10 I2 K I s hp) x11 hp)
theorem F185_r19 : R185 [1, 1, 0, 1, 0, 0, 1, 0, 0, 1, 1, 1, 1, 0, 1, 0, 0] 3 (upd e 9 (sI x9)) V0 hp K =
    (K (upd (upd (upd (upd e 9 (sI x9)) 66 (sI x9)) 67 (sI ((wr (x9 - 1))))) 11 (sI ((wr (x9 - 1))))) V0 hp) := by kernel_rfl
def F185_j5 (x0a : Option Addr) (x0n : Nat) (x0c : Nat) (x1 : Int) (x2 : Int) (x3 : Value) (x9 : Int) (x10 : Int) (hp : HP) (I2 : (Int × Int) → HP → Prop) (K : Value → HP → Prop) : Prop :=
  (ite2 (x9 == x2) (K (.bool true) hp) (ite2 (decide (((IntKind.wrap .i64 (x2 - x1)) : Int) < 50)) (K (.bool false) hp) ((0 ≤ ((IntKind.wrap .i64 (x9 - 1)) : Int)) ∧ (((IntKind.wrap .i64 (x9 - 1)) : Int) < x0n) ∧ (ptrN x0a fun b_1 o_2 => (ldV (HP.cell hp b_1 (o_2 + Int.toNat (IntKind.wrap .i64 (x9 - 1)) * 1)) fun v_3 => (strV v_3 fun s_4 => ((0 ≤ x9) ∧ (x9 < x0n) ∧ (ptrN x0a fun b_5 o_6 => (ldV (HP.cell hp b_5 (o_6 + Int.toNat x9 * 1)) fun v_7 => (strV v_7 fun s_8 => ((0 ≤ x9) ∧ (x9 < x0n) ∧ (ptrN x0a fun b_9 o_10 => (HP.st hp b_9 (o_10 + Int.toNat x9 * 1) (.string s_4) fun h_11 => ((0 ≤ ((IntKind.wrap .i64 (x9 - 1)) : Int)) ∧ (((IntKind.wrap .i64 (x9 - 1)) : Int) < x0n) ∧ (ptrN x0a fun b_12 o_13 => (HP.st h_11 b_12 (o_13 + Int.toNat (IntKind.wrap .i64 (x9 - 1)) * 1) (.string s_8) fun h_14 => (ite2 (decide (((IntKind.wrap .i64 (x9 - x1)) : Int) ≥ 2)) (F185_j9 x0a x0n x0c x1 x2 x3 x9 x10 (IntKind.wrap .i64 (x9 - 1)) h_14 I2 K) (F185_j6 x0a x0n x0c x1 x2 x3 x9 x10 h_14 I2 K))))))))))))))))))
theorem F185_r20 : R185 [1, 1, 0, 1, 0, 0, 1, 0, 0, 0, 0, 0, 1, 0] 3 (upd e 9 (sI x9)) V0 hp K =
    (K (upd (upd (upd (upd e 9 (sI x9)) 37 (sI x9)) 38 (sI ((wr (x9 + 1))))) 9 (sI ((wr (x9 + 1))))) V0 hp) := by kernel_rfl
def F185_j12 (x0a : Option Addr) (x0n : Nat) (x0c : Nat) (x1 : Int) (x2 : Int) (x3 : Value) (x9 : Int) (x10 : Int) (x36 : Bool) (hp : HP) (I2 : (Int × Int) → HP → Prop) (I11 : (Int) → HP → Prop) (K : Value → HP → Prop) : Prop :=
  (ite2 x36 (I11 (IntKind.wrap .i64 (x9 + 1)) hp) (F185_j5 x0a x0n x0c x1 x2 x3 x9 x10 hp I2 K))
theorem F185_r21 : R185 [1, 1, 0, 1, 0, 0, 1, 0, 0, 0, 0, 0, 0, 0] 18 (upd (upd (upd (upd e 9 (sI x9)) 3 (sV x3)) 2 (sI x2)) 0 (sS x0a x0n x0c)) V0 hp K =
    (ite2 (decide (x9 < x2)) ((0 ≤ x9) ∧ (x9 < x0n) ∧ (ptrN x0a fun b1 o2 => (ldV (HP.cell hp b1 (o2 + Int.toNat x9 * 1)) fun v3 => (strV v3 fun s4 => ((0 ≤ ((wr (x9 - 1)) : Int)) ∧ (((wr (x9 - 1)) : Int) < x0n) ∧ (ptrN x0a fun b5 o6 => (ldV (HP.cell hp b5 (o6 + Int.toNat (wr (x9 - 1)) * 1)) fun v7 => (strV v7 fun s8 => (fnV x3 fun f9 ga10 gb11 => (CF Try.prog f9 (ga10 ++ [(Value.string s4), (.string s8)] ++ gb11) hp fun u12 h13 => (intV u12 .i64 fun i14 => (K (upd (upd (upd (upd (upd (upd (upd (upd (upd (upd (upd (upd (upd (upd (upd (upd (upd (upd (upd (upd (upd (upd e 9 (sI x9)) 3 (sV x3)) 2 (sI x2)) 0 (sS x0a x0n x0c)) 19 (sI x9)) 20 (sI x2)) 21 (sB (decide (x9 < x2)))) 22 (sB true)) 23 (sV x3)) 24 (sS x0a x0n x0c)) 25 (sI x9)) 26 (sQ b1 (o2 + Int.toNat x9 * 1))) 27 (sV (.string s4))) 28 (sS x0a x0n x0c)) 29 (sI x9)) 30 (sI ((wr (x9 - 1))))) 31 (sV (ptr b5 (o6 + Int.toNat (wr (x9 - 1)) * 1)))) 32 (sV (.string s8))) 33 (sI i14)) 34 (sB (decide (i14 < 0)))) 35 (sB ((!(decide (i14 < 0)))))) 36 (sB ((!(decide (i14 < 0)))))) V0 h13)))))))))))) (K (upd (upd (upd (upd (upd (upd (upd (upd (upd (upd (upd (upd (upd (upd (upd (upd (upd (upd (upd (upd (upd (upd e 9 (sI x9)) 3 (sV x3)) 2 (sI x2)) 0 (sS x0a x0n x0c)) 19 (sI x9)) 20 (sI x2)) 21 (sB (decide (x9 < x2)))) 22 (sB false)) 23 sU) 24 sU) 25 sU) 26 sU) 27 sU) 28 sU) 29 sU) 30 sU) 31 sU) 32 sU) 33 sU) 34 sU) 35 sU) 36 (sB false)) V0 hp)) := by kernel_rfl
def F185_l11 (x0a : Option Addr) (x0n : Nat) (x0c : Nat) (x1 : Int) (x2 : Int) (x3 : Value) (x10 : Int) (I2 : (Int × Int) → HP → Prop) (K : Value → HP → Prop) (I11 : (Int) → HP → Prop) (x9 : Int) (hp : HP) : Prop :=
  (ite2 (decide (x9 < x2)) ((0 ≤ x9) ∧ (x9 < x0n) ∧ (ptrN x0a fun b_71 o_72 => (ldV (HP.cell hp b_71 (o_72 + Int.toNat x9 * 1)) fun v_73 => (strV v_73 fun s_74 => ((0 ≤ ((IntKind.wrap .i64 (x9 - 1)) : Int)) ∧ (((IntKind.wrap .i64 (x9 - 1)) : Int) < x0n) ∧ (ptrN x0a fun b_75 o_76 => (ldV (HP.cell hp b_75 (o_76 + Int.toNat (IntKind.wrap .i64 (x9 - 1)) * 1)) fun v_77 => (strV v_77 fun s_78 => (fnV x3 fun f_79 ga_80 gb_81 => (CF Try.prog f_79 (ga_80 ++ [(Value.string s_74), (.string s_78)] ++ gb_81) hp fun u_82 h_83 => (intV u_82 .i64 fun i_84 => (F185_j12 x0a x0n x0c x1 x2 x3 x9 x10 (!(decide (i_84 < 0))) h_83 I2 I11 K)))))))))))) (F185_j12 x0a x0n x0c x1 x2 x3 x9 x10 false hp I2 I11 K))
def F185_j3 (x0a : Option Addr) (x0n : Nat) (x0c : Nat) (x1 : Int) (x2 : Int) (x3 : Value) (x9 : Int) (x10 : Int) (hp : HP) (I2 : (Int × Int) → HP → Prop) (K : Value → HP → Prop) : Prop :=
  (LoopP (σ := Int) (fun I s hp => F185_l11 x0a x0n x0c x1 x2 x3 x10 I2 K I s hp) x9 hp)
theorem F185_r22 : R185 [1, 1, 0, 1, 0, 0, 0, 0] 2 (upd e 10 (sI x10)) V0 hp K =
    (K (upd (upd (upd e 10 (sI x10)) 15 (sI x10)) 16 (sB (decide (x10 < 5)))) V0 hp) := by kernel_rfl
theorem F185_r23 : R185 [1, 1, 1, 0] 1 e V0 hp K =
    (K (upd e 8 (sB false)) V0 hp) := by kernel_rfl
def F185_l2 (x0a : Option Addr) (x0n : Nat) (x0c : Nat) (x1 : Int) (x2 : Int) (x3 : Value) (K : Value → HP → Prop) (I2 : (Int × Int) → HP → Prop) (x9 : Int) (x10 : Int) (hp : HP) : Prop :=
  (ite2 (decide (x10 < 5)) (F185_j3 x0a x0n x0c x1 x2 x3 x9 x10 hp I2 K) (K (.bool false) hp))
def F185_j1 (x0a : Option Addr) (x0n : Nat) (x0c : Nat) (x1 : Int) (x2 : Int) (x3 : Value) (x9 : Int) (x10 : Int) (hp : HP) (K : Value → HP → Prop) : Prop :=
  (LoopP (σ := Int × Int) (fun I s hp => F185_l2 x0a x0n x0c x1 x2 x3  K I s.1 s.2 hp) (x9, x10) hp)
theorem F185_r24 : R185 [1, 1, 0, 0] 1 e V0 hp K =
    (K (upd e 10 (sI 0)) V0 hp) := by kernel_rfl
def F185 (x0a : Option Addr) (x0n : Nat) (x0c : Nat) (x1 : Int) (x2 : Int) (x3 : Value) (hp : HP) (K : Value → HP → Prop) : Prop :=
  (F185_j1 x0a x0n x0c x1 x2 x3 (IntKind.wrap .i64 (x1 + 1)) 0 hp  K)
noncomputable def F185_code : Code := (.seq (.region 0 (opsAt Try.f185 [0]) false) (.seq (.region 1 (opsAt Try.f185 [1, 0]) false) (.seq (.seq (.region 2 (opsAt Try.f185 [1, 1, 0, 0]) false) (.block 0 (.loop (.seq (.seq (.region 3 (opsAt Try.f185 [1, 1, 0, 1, 0, 0, 0, 0]) false) (.cond (.tmp 16) .skip (.exit 0))) (.seq (.block 1 (.seq (.block 2 (.loop (.seq (.seq (.region 5 (opsAt Try.f185 [1, 1, 0, 1, 0, 0, 1, 0, 0, 0, 0, 0, 0, 0]) true) (.cond (.tmp 36) .skip (.exit 2))) (.block 3 (.region 6 (opsAt Try.f185 [1, 1, 0, 1, 0, 0, 1, 0, 0, 0, 0, 0, 1, 0]) false))))) (.seq (.seq (.region 7 (opsAt Try.f185 [1, 1, 0, 1, 0, 0, 1, 0, 0, 1, 0, 0]) false) (.cond (.tmp 41) (.seq (.region 8 (opsAt Try.f185 [1, 1, 0, 1, 0, 0, 1, 0, 0, 1, 0, 1, 0, 0]) false) .ret) .skip)) (.seq (.seq (.region 9 (opsAt Try.f185 [1, 1, 0, 1, 0, 0, 1, 0, 0, 1, 1, 0, 0]) false) (.cond (.tmp 45) (.seq (.region 10 (opsAt Try.f185 [1, 1, 0, 1, 0, 0, 1, 0, 0, 1, 1, 0, 1, 0, 0]) false) .ret) .skip)) (.seq (.region 11 (opsAt Try.f185 [1, 1, 0, 1, 0, 0, 1, 0, 0, 1, 1, 1, 0]) true) (.seq (.seq (.region 12 (opsAt Try.f185 [1, 1, 0, 1, 0, 0, 1, 0, 0, 1, 1, 1, 1, 0, 0]) false) (.cond (.tmp 65) (.seq (.region 13 (opsAt Try.f185 [1, 1, 0, 1, 0, 0, 1, 0, 0, 1, 1, 1, 1, 0, 1, 0, 0]) false) (.block 4 (.loop (.seq (.seq (.region 14 (opsAt Try.f185 [1, 1, 0, 1, 0, 0, 1, 0, 0, 1, 1, 1, 1, 0, 1, 0, 1, 0, 0, 0, 0]) false) (.cond (.tmp 69) .skip (.exit 4))) (.seq (.block 5 (.seq (.seq (.region 16 (opsAt Try.f185 [1, 1, 0, 1, 0, 0, 1, 0, 0, 1, 1, 1, 1, 0, 1, 0, 1, 0, 0, 1, 0, 0, 0, 0]) true) (.cond (.tmp 84) (.exit 4) .skip)) (.region 17 (opsAt Try.f185 [1, 1, 0, 1, 0, 0, 1, 0, 0, 1, 1, 1, 1, 0, 1, 0, 1, 0, 0, 1, 0, 0, 1]) true))) (.region 15 (opsAt Try.f185 [1, 1, 0, 1, 0, 0, 1, 0, 0, 1, 1, 1, 1, 0, 1, 0, 1, 0, 0, 1, 1]) false)))))) .skip)) (.seq (.region 18 (opsAt Try.f185 [1, 1, 0, 1, 0, 0, 1, 0, 0, 1, 1, 1, 1, 1, 0]) false) (.cond (.tmp 104) (.seq (.region 19 (opsAt Try.f185 [1, 1, 0, 1, 0, 0, 1, 0, 0, 1, 1, 1, 1, 1, 1, 0, 0]) false) (.block 6 (.loop (.seq (.seq (.region 20 (opsAt Try.f185 [1, 1, 0, 1, 0, 0, 1, 0, 0, 1, 1, 1, 1, 1, 1, 0, 1, 0, 0, 0, 0]) false) (.cond (.tmp 109) .skip (.exit 6))) (.seq (.block 7 (.seq (.seq (.region 22 (opsAt Try.f185 [1, 1, 0, 1, 0, 0, 1, 0, 0, 1, 1, 1, 1, 1, 1, 0, 1, 0, 0, 1, 0, 0, 0, 0]) true) (.cond (.tmp 124) (.exit 6) .skip)) (.region 23 (opsAt Try.f185 [1, 1, 0, 1, 0, 0, 1, 0, 0, 1, 1, 1, 1, 1, 1, 0, 1, 0, 0, 1, 0, 0, 1]) true))) (.region 21 (opsAt Try.f185 [1, 1, 0, 1, 0, 0, 1, 0, 0, 1, 1, 1, 1, 1, 1, 0, 1, 0, 0, 1, 1]) false)))))) .skip)))))))) (.region 4 (opsAt Try.f185 [1, 1, 0, 1, 0, 0, 1, 1]) false)))))) (.seq (.region 24 (opsAt Try.f185 [1, 1, 1, 0]) false) .ret))))
theorem F185_body : Try.f185.body = some F185_code := by kernel_rfl
theorem F185_ok (x0a : Option Addr) (x0n : Nat) (x0c : Nat) (x1 : Int) (x2 : Int) (x3 : Value) (hp : HP) (K : Value → HP → Prop) (h : F185 x0a x0n x0c x1 x2 x3 hp K) : CF Try.prog 185 [(.slice x0a x0n x0c), (.int .i64 x1), (.int .i64 x2), x3] hp K := by
 refine .inl ⟨by kernel_rfl, AC.intro (N := 141) Try.func185 F185_body rfl (Nat.le_of_ble_eq_true rfl) ?_⟩
 unfold F185 at h
 unfold F185_code
 refine AWP.seq' ?_
 refine AWP.rgn (F185_r0 (upd (upd (upd (upd E0 3 (sV x3)) 2 (sI x2)) 1 (sI x1)) 0 (sS x0a x0n x0c))  hp _) ?_ (Ru 0 (Ru 1 (Ru 2 (Ru 3 Rn)))) (Sc rfl (Sc rfl (Sc rfl (Sc rfl Sn)))) Sn
 refine AWP.seq' ?_
 refine AWP.rgn (F185_r1 (upd (upd (upd E0 3 (sV x3)) 2 (sI x2)) 0 (sS x0a x0n x0c)) x1 hp _) ?_ (Ru 1 (Ru 0 (Ru 2 (Ru 3 Rn)))) (Sc rfl (Sc rfl (Sc rfl (Sc rfl Sn)))) Sn
 refine AWP.seq' ?_
 refine AWP.seq (fun env pv hp => ∃ (x0a : Option Addr) (x0n : Nat) (x0c : Nat) (x1 : Int) (x2 : Int) (x3 : Value) (x9 : Int) (x10 : Int), Sub (upd (upd (upd (upd (upd (upd E0 10 (sI x10)) 9 (sI x9)) 3 (sV x3)) 2 (sI x2)) 1 (sI x1)) 0 (sS x0a x0n x0c)) env ∧ Sub V0 pv ∧ (F185_j1 x0a x0n x0c x1 x2 x3 x9 x10 hp  K)) ?_ ?_
 ·refine AWP.rgn (F185_r24 (upd (upd (upd (upd (upd E0 9 (sI ((wr (x1 + 1))))) 3 (sV x3)) 2 (sI x2)) 1 (sI x1)) 0 (sS x0a x0n x0c))  hp _) ?_ (Ru 0 (Ru 1 (Ru 2 (Ru 3 (Ru 9 Rn))))) (Sc rfl (Sc rfl (Sc rfl (Sc rfl (Sc rfl Sn))))) Sn
  exact ⟨x0a, x0n, x0c, x1, x2, x3, (wr (x1 + 1)), 0, (Sc rfl (Sc rfl (Sc rfl (Sc rfl (Sc rfl (Sc rfl Sn)))))), Sn, h⟩
 ·rintro env pv hp ⟨x0a, x0n, x0c, x1, x2, x3, x9, x10, he, hv, h⟩
  refine AWP.sub (env' := (upd (upd (upd (upd (upd (upd E0 10 (sI x10)) 9 (sI x9)) 3 (sV x3)) 2 (sI x2)) 1 (sI x1)) 0 (sS x0a x0n x0c))) (pv' := V0) ?_ (Ru 0 (Ru 1 (Ru 2 (Ru 3 (Ru 9 (Ru 10 Rn)))))) he hv (HSub.refl _)
  clear he hv
  unfold F185_j1 at h
  refine AWP.block ?_
  refine AWP.loop (σ := Int × Int) (fun I s hp => F185_l2 x0a x0n x0c x1 x2 x3  K I s.1 s.2 hp) (fun s => (upd (upd (upd (upd (upd (upd E0 10 (sI (s.2))) 9 (sI (s.1))) 3 (sV x3)) 2 (sI x2)) 1 (sI x1)) 0 (sS x0a x0n x0c))) (fun s => V0) (x9, x10) h (fun s => (Ru 0 (Ru 1 (Ru 2 (Ru 3 (Ru 9 (Ru 10 Rn))))))) (Sc rfl (Sc rfl (Sc rfl (Sc rfl (Sc rfl (Sc rfl Sn)))))) Sn ?_
  intro I2 s hp h
  obtain ⟨x9, x10⟩ := s
  replace h : F185_l2 x0a x0n x0c x1 x2 x3  K I2 x9 x10 hp := h
  unfold F185_l2 at h
  refine AWP.seq (fun env pv hp => ∃ (x9 : Int) (x10 : Int), Sub (upd (upd (upd (upd (upd (upd E0 10 (sI x10)) 9 (sI x9)) 3 (sV x3)) 2 (sI x2)) 1 (sI x1)) 0 (sS x0a x0n x0c)) env ∧ Sub V0 pv ∧ (F185_j3 x0a x0n x0c x1 x2 x3 x9 x10 hp I2 K)) ?_ ?_
  ·refine AWP.seq' ?_
   refine AWP.rgn (F185_r22 (upd (upd (upd (upd (upd E0 9 (sI x9)) 3 (sV x3)) 2 (sI x2)) 1 (sI x1)) 0 (sS x0a x0n x0c)) x10 hp _) ?_ (Ru 10 (Ru 0 (Ru 1 (Ru 2 (Ru 3 (Ru 9 Rn)))))) (Sc rfl (Sc rfl (Sc rfl (Sc rfl (Sc rfl (Sc rfl Sn)))))) Sn
   refine AWP.cond (t := (decide (x10 < 5))) rfl (fun e => ?_) (fun e => ?_)
   ·replace h := ite2_t h e
    refine AWP.skip ?_
    exact ⟨x9, x10, (Sc rfl (Sc rfl (Sc rfl (Sc rfl (Sc rfl (Sc rfl Sn)))))), Sn, h⟩
   ·replace h := ite2_f h e
    refine AWP.exit ?_
    refine AWP.seq' ?_
    refine AWP.rgn (F185_r23 E0  hp _) ?_ Rn Sn Sn
    refine AWP.ret ?_
    exact h
  ·rintro env pv hp ⟨x9, x10, he, hv, h⟩
   refine AWP.sub (env' := (upd (upd (upd (upd (upd (upd E0 10 (sI x10)) 9 (sI x9)) 3 (sV x3)) 2 (sI x2)) 1 (sI x1)) 0 (sS x0a x0n x0c))) (pv' := V0) ?_ (Ru 0 (Ru 1 (Ru 2 (Ru 3 (Ru 9 (Ru 10 Rn)))))) he hv (HSub.refl _)
   clear he hv
   unfold F185_j3 at h
   refine AWP.seq (fun env pv hp => ∃ (x9 : Int) (x10 : Int), Sub (upd (upd (upd (upd (upd (upd E0 10 (sI x10)) 9 (sI x9)) 3 (sV x3)) 2 (sI x2)) 1 (sI x1)) 0 (sS x0a x0n x0c)) env ∧ Sub V0 pv ∧ (F185_j4 x0a x0n x0c x1 x2 x3 x9 x10 hp I2 K)) ?_ ?_
   ·refine AWP.block ?_
    refine AWP.seq (fun env pv hp => ∃ (x9 : Int) (x10 : Int), Sub (upd (upd (upd (upd (upd (upd E0 10 (sI x10)) 9 (sI x9)) 3 (sV x3)) 2 (sI x2)) 1 (sI x1)) 0 (sS x0a x0n x0c)) env ∧ Sub V0 pv ∧ (F185_j5 x0a x0n x0c x1 x2 x3 x9 x10 hp I2 K)) ?_ ?_
    ·refine AWP.block ?_
     refine AWP.loop (σ := Int) (fun I s hp => F185_l11 x0a x0n x0c x1 x2 x3 x10 I2 K I s hp) (fun s => (upd (upd (upd (upd (upd (upd E0 10 (sI x10)) 9 (sI s)) 3 (sV x3)) 2 (sI x2)) 1 (sI x1)) 0 (sS x0a x0n x0c))) (fun s => V0) x9 h (fun s => (Ru 0 (Ru 1 (Ru 2 (Ru 3 (Ru 9 (Ru 10 Rn))))))) (Sc rfl (Sc rfl (Sc rfl (Sc rfl (Sc rfl (Sc rfl Sn)))))) Sn ?_
     intro I11 s hp h
     obtain ⟨x9, hs⟩ : ∃ x, x = s := ⟨s, rfl⟩
     subst hs
     replace h : F185_l11 x0a x0n x0c x1 x2 x3 x10 I2 K I11 x9 hp := h
     unfold F185_l11 at h
     refine AWP.seq' ?_
     refine AWP.seq (fun env pv hp => ∃ (x9 : Int) (x36 : Bool), Sub (upd (upd (upd (upd (upd (upd (upd E0 36 (sB x36)) 10 (sI x10)) 9 (sI x9)) 3 (sV x3)) 2 (sI x2)) 1 (sI x1)) 0 (sS x0a x0n x0c)) env ∧ Sub V0 pv ∧ (F185_j12 x0a x0n x0c x1 x2 x3 x9 x10 x36 hp I2 I11 K)) ?_ ?_
     ·refine AWP.rgnD (by kernel_rfl) (by kernel_rfl) (F185_r21 (upd (upd E0 10 (sI x10)) 1 (sI x1)) x0a x0n x0c x2 x3 x9 hp _) ?_ (Ru 0 (Ru 2 (Ru 3 (Ru 9 (Ru 1 (Ru 10 Rn)))))) (Sc rfl (Sc rfl (Sc rfl (Sc rfl (Sc rfl (Sc rfl Sn)))))) Sn
      refine mt h (fun h => ?_) (fun h => ?_)
      ·refine ⟨h.1, h.2.1, mN h.2.2 (fun b_71 o_72 h => mV h (fun v_73 h => ms h (fun s_74 h => ⟨h.1, h.2.1, mN h.2.2 fun b_75 o_76 h => mV h fun v_77 h => ms h fun s_78 h => mF h fun f_79 ga_80 gb_81 h => mC h fun u_82 h_83 h => mI h fun i_84 h => ?_⟩)))⟩
       exact ⟨x9, (!(decide (i_84 < 0))), (Sc rfl (Sc rfl (Sc rfl (Sc rfl (Sc rfl (Sc rfl (Sc rfl Sn))))))), Sn, h⟩
      ·exact ⟨x9, false, (Sc rfl (Sc rfl (Sc rfl (Sc rfl (Sc rfl (Sc rfl (Sc rfl Sn))))))), Sn, h⟩
     ·rintro env pv hp ⟨x9, x36, he, hv, h⟩
      refine AWP.sub (env' := (upd (upd (upd (upd (upd (upd (upd E0 36 (sB x36)) 10 (sI x10)) 9 (sI x9)) 3 (sV x3)) 2 (sI x2)) 1 (sI x1)) 0 (sS x0a x0n x0c))) (pv' := V0) ?_ (Ru 0 (Ru 1 (Ru 2 (Ru 3 (Ru 9 (Ru 10 (Ru 36 Rn))))))) he hv (HSub.refl _)
      clear he hv
      unfold F185_j12 at h
      refine AWP.cond (t := x36) rfl (fun e => ?_) (fun e => ?_)
      ·replace h := ite2_t h e
       refine AWP.skip ?_
       refine AWP.block ?_
       refine AWP.rgn (F185_r20 (upd (upd (upd (upd (upd E0 10 (sI x10)) 3 (sV x3)) 2 (sI x2)) 1 (sI x1)) 0 (sS x0a x0n x0c)) x9 hp _) ?_ (Ru 9 (Ru 0 (Ru 1 (Ru 2 (Ru 3 (Ru 10 Rn)))))) (Sc rfl (Sc rfl (Sc rfl (Sc rfl (Sc rfl (Sc rfl Sn)))))) Sn
       exact ⟨(wr (x9 + 1)), (Sc rfl (Sc rfl (Sc rfl (Sc rfl (Sc rfl (Sc rfl Sn)))))), Sn, h⟩
      ·replace h := ite2_f h e
       refine AWP.exit ?_
       exact ⟨x9, x10, (Sc rfl (Sc rfl (Sc rfl (Sc rfl (Sc rfl (Sc rfl Sn)))))), Sn, h⟩
    ·rintro env pv hp ⟨x9, x10, he, hv, h⟩
     refine AWP.sub (env' := (upd (upd (upd (upd (upd (upd E0 10 (sI x10)) 9 (sI x9)) 3 (sV x3)) 2 (sI x2)) 1 (sI x1)) 0 (sS x0a x0n x0c))) (pv' := V0) ?_ (Ru 0 (Ru 1 (Ru 2 (Ru 3 (Ru 9 (Ru 10 Rn)))))) he hv (HSub.refl _)
     clear he hv
     unfold F185_j5 at h
     refine AWP.seq' ?_
     refine AWP.seq' ?_
     refine AWP.rgn (F185_r3 (upd (upd (upd (upd E0 10 (sI x10)) 3 (sV x3)) 1 (sI x1)) 0 (sS x0a x0n x0c)) x2 x9 hp _) ?_ (Ru 2 (Ru 9 (Ru 0 (Ru 1 (Ru 3 (Ru 10 Rn)))))) (Sc rfl (Sc rfl (Sc rfl (Sc rfl (Sc rfl (Sc rfl Sn)))))) Sn
     refine AWP.cond (t := (x9 == x2)) rfl (fun e => ?_) (fun e => ?_)
     ·replace h := ite2_t h e
      refine AWP.seq' ?_
      refine AWP.rgn (F185_r4 E0  hp _) ?_ Rn Sn Sn
      refine AWP.ret ?_
      exact h
     ·replace h := ite2_f h e
      refine AWP.skip ?_
      refine AWP.seq' ?_
      refine AWP.seq' ?_
      refine AWP.rgn (F185_r5 (upd (upd (upd (upd E0 10 (sI x10)) 9 (sI x9)) 3 (sV x3)) 0 (sS x0a x0n x0c)) x1 x2 hp _) ?_ (Ru 1 (Ru 2 (Ru 0 (Ru 3 (Ru 9 (Ru 10 Rn)))))) (Sc rfl (Sc rfl (Sc rfl (Sc rfl (Sc rfl (Sc rfl Sn)))))) Sn
      refine AWP.cond (t := (decide (((wr (x2 - x1)) : Int) < 50))) rfl (fun e => ?_) (fun e => ?_)
      ·replace h := ite2_t h e
       refine AWP.seq' ?_
       refine AWP.rgn (F185_r6 E0  hp _) ?_ Rn Sn Sn
       refine AWP.ret ?_
       exact h
      ·replace h := ite2_f h e
       refine AWP.skip ?_
       refine AWP.seq' ?_
       refine AWP.rgnD (by kernel_rfl) (by kernel_rfl) (F185_r7 (upd (upd (upd (upd E0 10 (sI x10)) 3 (sV x3)) 2 (sI x2)) 1 (sI x1)) x0a x0n x0c x9 hp _) ?_ (Ru 0 (Ru 9 (Ru 1 (Ru 2 (Ru 3 (Ru 10 Rn)))))) (Sc rfl (Sc rfl (Sc rfl (Sc rfl (Sc rfl (Sc rfl Sn)))))) Sn
       refine ⟨h.1, h.2.1, mN h.2.2 (fun b_1 o_2 h => mV h (fun v_3 h => ms h (fun s_4 h => ⟨h.1, h.2.1, mN h.2.2 (fun b_5 o_6 h => mV h (fun v_7 h => ms h (fun s_8 h => ⟨h.1, h.2.1, mN h.2.2 (fun b_9 o_10 h => mw h (fun h_11 h => ⟨h.1, h.2.1, mN h.2.2 fun b_12 o_13 h => mw h fun h_14 h => ?_⟩))⟩)))⟩)))⟩
       refine AWP.seq (fun env pv hp => ∃ (x9 : Int) (x10 : Int), Sub (upd (upd (upd (upd (upd (upd E0 10 (sI x10)) 9 (sI x9)) 3 (sV x3)) 2 (sI x2)) 1 (sI x1)) 0 (sS x0a x0n x0c)) env ∧ Sub V0 pv ∧ (F185_j6 x0a x0n x0c x1 x2 x3 x9 x10 hp I2 K)) ?_ ?_
       ·refine AWP.seq' ?_
        refine AWP.rgn (F185_r14 (upd (upd (upd (upd E0 10 (sI x10)) 3 (sV x3)) 2 (sI x2)) 0 (sS x0a x0n x0c)) x1 x9 h_14 _) ?_ (Ru 1 (Ru 9 (Ru 0 (Ru 2 (Ru 3 (Ru 10 Rn)))))) (Sc rfl (Sc rfl (Sc rfl (Sc rfl (Sc rfl (Sc rfl Sn)))))) Sn
        refine AWP.cond (t := (decide (((wr (x9 - x1)) : Int) ≥ 2))) rfl (fun e => ?_) (fun e => ?_)
        ·replace h := ite2_t h e
         refine AWP.seq (fun env pv hp => ∃ (x9 : Int) (x10 : Int) (x11 : Int), Sub (upd (upd (upd (upd (upd (upd (upd E0 11 (sI x11)) 10 (sI x10)) 9 (sI x9)) 3 (sV x3)) 2 (sI x2)) 1 (sI x1)) 0 (sS x0a x0n x0c)) env ∧ Sub V0 pv ∧ (F185_j9 x0a x0n x0c x1 x2 x3 x9 x10 x11 hp I2 K)) ?_ ?_
         ·refine AWP.rgn (F185_r19 (upd (upd (upd (upd (upd E0 10 (sI x10)) 3 (sV x3)) 2 (sI x2)) 1 (sI x1)) 0 (sS x0a x0n x0c)) x9 h_14 _) ?_ (Ru 9 (Ru 0 (Ru 1 (Ru 2 (Ru 3 (Ru 10 Rn)))))) (Sc rfl (Sc rfl (Sc rfl (Sc rfl (Sc rfl (Sc rfl Sn)))))) Sn
          exact ⟨x9, x10, (wr (x9 - 1)), (Sc rfl (Sc rfl (Sc rfl (Sc rfl (Sc rfl (Sc rfl (Sc rfl Sn))))))), Sn, h⟩
         ·rintro env pv hp ⟨x9, x10, x11, he, hv, h⟩
          refine AWP.sub (env' := (upd (upd (upd (upd (upd (upd (upd E0 11 (sI x11)) 10 (sI x10)) 9 (sI x9)) 3 (sV x3)) 2 (sI x2)) 1 (sI x1)) 0 (sS x0a x0n x0c))) (pv' := V0) ?_ (Ru 0 (Ru 1 (Ru 2 (Ru 3 (Ru 9 (Ru 10 (Ru 11 Rn))))))) he hv (HSub.refl _)
          clear he hv
          unfold F185_j9 at h
          refine AWP.block ?_
          refine AWP.loop (σ := Int) (fun I s hp => F185_l10 x0a x0n x0c x1 x2 x3 x9 x10 I2 K I s hp) (fun s => (upd (upd (upd (upd (upd (upd (upd E0 11 (sI s)) 10 (sI x10)) 9 (sI x9)) 3 (sV x3)) 2 (sI x2)) 1 (sI x1)) 0 (sS x0a x0n x0c))) (fun s => V0) x11 h (fun s => (Ru 0 (Ru 1 (Ru 2 (Ru 3 (Ru 9 (Ru 10 (Ru 11 Rn)))))))) (Sc rfl (Sc rfl (Sc rfl (Sc rfl (Sc rfl (Sc rfl (Sc rfl Sn))))))) Sn ?_
          intro I10 s hp h
          obtain ⟨x11, hs⟩ : ∃ x, x = s := ⟨s, rfl⟩
          subst hs
          replace h : F185_l10 x0a x0n x0c x1 x2 x3 x9 x10 I2 K I10 x11 hp := h
          unfold F185_l10 at h
          refine AWP.seq' ?_
          refine AWP.seq' ?_
          refine AWP.rgn (F185_r15 (upd (upd (upd (upd (upd (upd E0 10 (sI x10)) 9 (sI x9)) 3 (sV x3)) 2 (sI x2)) 1 (sI x1)) 0 (sS x0a x0n x0c)) x11 hp _) ?_ (Ru 11 (Ru 0 (Ru 1 (Ru 2 (Ru 3 (Ru 9 (Ru 10 Rn))))))) (Sc rfl (Sc rfl (Sc rfl (Sc rfl (Sc rfl (Sc rfl (Sc rfl Sn))))))) Sn
          refine AWP.cond (t := (decide (x11 ≥ 1))) rfl (fun e => ?_) (fun e => ?_)
          ·replace h := ite2_t h e
           refine AWP.skip ?_
           refine AWP.seq' ?_
           refine AWP.block ?_
           refine AWP.seq' ?_
           refine AWP.seq' ?_
           refine AWP.rgnD (by kernel_rfl) (by kernel_rfl) (F185_r16 (upd (upd (upd (upd E0 10 (sI x10)) 9 (sI x9)) 2 (sI x2)) 1 (sI x1)) x0a x0n x0c x3 x11 hp _) ?_ (Ru 0 (Ru 3 (Ru 11 (Ru 1 (Ru 2 (Ru 9 (Ru 10 Rn))))))) (Sc rfl (Sc rfl (Sc rfl (Sc rfl (Sc rfl (Sc rfl (Sc rfl Sn))))))) Sn
           refine ⟨h.1, h.2.1, mN h.2.2 (fun b_43 o_44 h => mV h (fun v_45 h => ms h (fun s_46 h => ⟨h.1, h.2.1, mN h.2.2 fun b_47 o_48 h => mV h fun v_49 h => ms h fun s_50 h => mF h fun f_51 ga_52 gb_53 h => mC h fun u_54 h_55 h => mI h fun i_56 h => ?_⟩)))⟩
           refine AWP.cond (t := (!(decide (i_56 < 0)))) rfl (fun e => ?_) (fun e => ?_)
           ·replace h := ite2_t h e
            refine AWP.exit ?_
            exact ⟨x9, x10, (Sc rfl (Sc rfl (Sc rfl (Sc rfl (Sc rfl (Sc rfl Sn)))))), Sn, h⟩
           ·replace h := ite2_f h e
            refine AWP.skip ?_
            refine AWP.rgnD (by kernel_rfl) (by kernel_rfl) (F185_r17 (upd (upd (upd (upd (upd E0 10 (sI x10)) 9 (sI x9)) 3 (sV x3)) 2 (sI x2)) 1 (sI x1)) x0a x0n x0c x11 h_55 _) ?_ (Ru 0 (Ru 11 (Ru 1 (Ru 2 (Ru 3 (Ru 9 (Ru 10 Rn))))))) (Sc rfl (Sc rfl (Sc rfl (Sc rfl (Sc rfl (Sc rfl (Sc rfl Sn))))))) Sn
            refine ⟨h.1, h.2.1, mN h.2.2 (fun b_57 o_58 h => mV h (fun v_59 h => ms h (fun s_60 h => ⟨h.1, h.2.1, mN h.2.2 (fun b_61 o_62 h => mV h (fun v_63 h => ms h (fun s_64 h => ⟨h.1, h.2.1, mN h.2.2 (fun b_65 o_66 h => mw h (fun h_67 h => ⟨h.1, h.2.1, mN h.2.2 fun b_68 o_69 h => mw h fun h_70 h => ?_⟩))⟩)))⟩)))⟩
            refine AWP.rgn (F185_r18 (upd (upd (upd (upd (upd (upd E0 10 (sI x10)) 9 (sI x9)) 3 (sV x3)) 2 (sI x2)) 1 (sI x1)) 0 (sS x0a x0n x0c)) x11 h_70 _) ?_ (Ru 11 (Ru 0 (Ru 1 (Ru 2 (Ru 3 (Ru 9 (Ru 10 Rn))))))) (Sc rfl (Sc rfl (Sc rfl (Sc rfl (Sc rfl (Sc rfl (Sc rfl Sn))))))) Sn
            exact ⟨(wr (x11 - 1)), (Sc rfl (Sc rfl (Sc rfl (Sc rfl (Sc rfl (Sc rfl (Sc rfl Sn))))))), Sn, h⟩
          ·replace h := ite2_f h e
           refine AWP.exit ?_
           exact ⟨x9, x10, (Sc rfl (Sc rfl (Sc rfl (Sc rfl (Sc rfl (Sc rfl Sn)))))), Sn, h⟩
        ·replace h := ite2_f h e
         refine AWP.skip ?_
         exact ⟨x9, x10, (Sc rfl (Sc rfl (Sc rfl (Sc rfl (Sc rfl (Sc rfl Sn)))))), Sn, h⟩
       ·rintro env pv hp ⟨x9, x10, he, hv, h⟩
        refine AWP.sub (env' := (upd (upd (upd (upd (upd (upd E0 10 (sI x10)) 9 (sI x9)) 3 (sV x3)) 2 (sI x2)) 1 (sI x1)) 0 (sS x0a x0n x0c))) (pv' := V0) ?_ (Ru 0 (Ru 1 (Ru 2 (Ru 3 (Ru 9 (Ru 10 Rn)))))) he hv (HSub.refl _)
        clear he hv
        unfold F185_j6 at h
        refine AWP.seq' ?_
        refine AWP.rgn (F185_r8 (upd (upd (upd (upd E0 10 (sI x10)) 3 (sV x3)) 1 (sI x1)) 0 (sS x0a x0n x0c)) x2 x9 hp _) ?_ (Ru 2 (Ru 9 (Ru 0 (Ru 1 (Ru 3 (Ru 10 Rn)))))) (Sc rfl (Sc rfl (Sc rfl (Sc rfl (Sc rfl (Sc rfl Sn)))))) Sn
        refine AWP.cond (t := (decide (((wr (x2 - x9)) : Int) ≥ 2))) rfl (fun e => ?_) (fun e => ?_)
        ·replace h := ite2_t h e
         refine AWP.seq (fun env pv hp => ∃ (x9 : Int) (x10 : Int) (x12 : Int), Sub (upd (upd (upd (upd (upd (upd (upd E0 12 (sI x12)) 10 (sI x10)) 9 (sI x9)) 3 (sV x3)) 2 (sI x2)) 1 (sI x1)) 0 (sS x0a x0n x0c)) env ∧ Sub V0 pv ∧ (F185_j7 x0a x0n x0c x1 x2 x3 x9 x10 x12 hp I2 K)) ?_ ?_
         ·refine AWP.rgn (F185_r13 (upd (upd (upd (upd (upd E0 10 (sI x10)) 3 (sV x3)) 2 (sI x2)) 1 (sI x1)) 0 (sS x0a x0n x0c)) x9 hp _) ?_ (Ru 9 (Ru 0 (Ru 1 (Ru 2 (Ru 3 (Ru 10 Rn)))))) (Sc rfl (Sc rfl (Sc rfl (Sc rfl (Sc rfl (Sc rfl Sn)))))) Sn
          exact ⟨x9, x10, (wr (x9 + 1)), (Sc rfl (Sc rfl (Sc rfl (Sc rfl (Sc rfl (Sc rfl (Sc rfl Sn))))))), Sn, h⟩
         ·rintro env pv hp ⟨x9, x10, x12, he, hv, h⟩
          refine AWP.sub (env' := (upd (upd (upd (upd (upd (upd (upd E0 12 (sI x12)) 10 (sI x10)) 9 (sI x9)) 3 (sV x3)) 2 (sI x2)) 1 (sI x1)) 0 (sS x0a x0n x0c))) (pv' := V0) ?_ (Ru 0 (Ru 1 (Ru 2 (Ru 3 (Ru 9 (Ru 10 (Ru 12 Rn))))))) he hv (HSub.refl _)
          clear he hv
          unfold F185_j7 at h
          refine AWP.block ?_
          refine AWP.loop (σ := Int) (fun I s hp => F185_l8 x0a x0n x0c x1 x2 x3 x9 x10 I2 K I s hp) (fun s => (upd (upd (upd (upd (upd (upd (upd E0 12 (sI s)) 10 (sI x10)) 9 (sI x9)) 3 (sV x3)) 2 (sI x2)) 1 (sI x1)) 0 (sS x0a x0n x0c))) (fun s => V0) x12 h (fun s => (Ru 0 (Ru 1 (Ru 2 (Ru 3 (Ru 9 (Ru 10 (Ru 12 Rn)))))))) (Sc rfl (Sc rfl (Sc rfl (Sc rfl (Sc rfl (Sc rfl (Sc rfl Sn))))))) Sn ?_
          intro I8 s hp h
          obtain ⟨x12, hs⟩ : ∃ x, x = s := ⟨s, rfl⟩
          subst hs
          replace h : F185_l8 x0a x0n x0c x1 x2 x3 x9 x10 I2 K I8 x12 hp := h
          unfold F185_l8 at h
          refine AWP.seq' ?_
          refine AWP.seq' ?_
          refine AWP.rgn (F185_r9 (upd (upd (upd (upd (upd E0 10 (sI x10)) 9 (sI x9)) 3 (sV x3)) 1 (sI x1)) 0 (sS x0a x0n x0c)) x2 x12 hp _) ?_ (Ru 2 (Ru 12 (Ru 0 (Ru 1 (Ru 3 (Ru 9 (Ru 10 Rn))))))) (Sc rfl (Sc rfl (Sc rfl (Sc rfl (Sc rfl (Sc rfl (Sc rfl Sn))))))) Sn
          refine AWP.cond (t := (decide (x12 < x2))) rfl (fun e => ?_) (fun e => ?_)
          ·replace h := ite2_t h e
           refine AWP.skip ?_
           refine AWP.seq' ?_
           refine AWP.block ?_
           refine AWP.seq' ?_
           refine AWP.seq' ?_
           refine AWP.rgnD (by kernel_rfl) (by kernel_rfl) (F185_r10 (upd (upd (upd (upd E0 10 (sI x10)) 9 (sI x9)) 2 (sI x2)) 1 (sI x1)) x0a x0n x0c x3 x12 hp _) ?_ (Ru 0 (Ru 3 (Ru 12 (Ru 1 (Ru 2 (Ru 9 (Ru 10 Rn))))))) (Sc rfl (Sc rfl (Sc rfl (Sc rfl (Sc rfl (Sc rfl (Sc rfl Sn))))))) Sn
           refine ⟨h.1, h.2.1, mN h.2.2 (fun b_15 o_16 h => mV h (fun v_17 h => ms h (fun s_18 h => ⟨h.1, h.2.1, mN h.2.2 fun b_19 o_20 h => mV h fun v_21 h => ms h fun s_22 h => mF h fun f_23 ga_24 gb_25 h => mC h fun u_26 h_27 h => mI h fun i_28 h => ?_⟩)))⟩
           refine AWP.cond (t := (!(decide (i_28 < 0)))) rfl (fun e => ?_) (fun e => ?_)
           ·replace h := ite2_t h e
            refine AWP.exit ?_
            exact ⟨x9, x10, (Sc rfl (Sc rfl (Sc rfl (Sc rfl (Sc rfl (Sc rfl Sn)))))), Sn, h⟩
           ·replace h := ite2_f h e
            refine AWP.skip ?_
            refine AWP.rgnD (by kernel_rfl) (by kernel_rfl) (F185_r11 (upd (upd (upd (upd (upd E0 10 (sI x10)) 9 (sI x9)) 3 (sV x3)) 2 (sI x2)) 1 (sI x1)) x0a x0n x0c x12 h_27 _) ?_ (Ru 0 (Ru 12 (Ru 1 (Ru 2 (Ru 3 (Ru 9 (Ru 10 Rn))))))) (Sc rfl (Sc rfl (Sc rfl (Sc rfl (Sc rfl (Sc rfl (Sc rfl Sn))))))) Sn
            refine ⟨h.1, h.2.1, mN h.2.2 (fun b_29 o_30 h => mV h (fun v_31 h => ms h (fun s_32 h => ⟨h.1, h.2.1, mN h.2.2 (fun b_33 o_34 h => mV h (fun v_35 h => ms h (fun s_36 h => ⟨h.1, h.2.1, mN h.2.2 (fun b_37 o_38 h => mw h (fun h_39 h => ⟨h.1, h.2.1, mN h.2.2 fun b_40 o_41 h => mw h fun h_42 h => ?_⟩))⟩)))⟩)))⟩
            refine AWP.rgn (F185_r12 (upd (upd (upd (upd (upd (upd E0 10 (sI x10)) 9 (sI x9)) 3 (sV x3)) 2 (sI x2)) 1 (sI x1)) 0 (sS x0a x0n x0c)) x12 h_42 _) ?_ (Ru 12 (Ru 0 (Ru 1 (Ru 2 (Ru 3 (Ru 9 (Ru 10 Rn))))))) (Sc rfl (Sc rfl (Sc rfl (Sc rfl (Sc rfl (Sc rfl (Sc rfl Sn))))))) Sn
            exact ⟨(wr (x12 + 1)), (Sc rfl (Sc rfl (Sc rfl (Sc rfl (Sc rfl (Sc rfl (Sc rfl Sn))))))), Sn, h⟩
          ·replace h := ite2_f h e
           refine AWP.exit ?_
           exact ⟨x9, x10, (Sc rfl (Sc rfl (Sc rfl (Sc rfl (Sc rfl (Sc rfl Sn)))))), Sn, h⟩
        ·replace h := ite2_f h e
         refine AWP.skip ?_
         exact ⟨x9, x10, (Sc rfl (Sc rfl (Sc rfl (Sc rfl (Sc rfl (Sc rfl Sn)))))), Sn, h⟩
   ·rintro env pv hp ⟨x9, x10, he, hv, h⟩
    refine AWP.sub (env' := (upd (upd (upd (upd (upd (upd E0 10 (sI x10)) 9 (sI x9)) 3 (sV x3)) 2 (sI x2)) 1 (sI x1)) 0 (sS x0a x0n x0c))) (pv' := V0) ?_ (Ru 0 (Ru 1 (Ru 2 (Ru 3 (Ru 9 (Ru 10 Rn)))))) he hv (HSub.refl _)
    clear he hv
    unfold F185_j4 at h
    refine AWP.rgn (F185_r2 (upd (upd (upd (upd (upd E0 9 (sI x9)) 3 (sV x3)) 2 (sI x2)) 1 (sI x1)) 0 (sS x0a x0n x0c)) x10 hp _) ?_ (Ru 10 (Ru 0 (Ru 1 (Ru 2 (Ru 3 (Ru 9 Rn)))))) (Sc rfl (Sc rfl (Sc rfl (Sc rfl (Sc rfl (Sc rfl Sn)))))) Sn
    exact ⟨(x9, (wr (x10 + 1))), (Sc rfl (Sc rfl (Sc rfl (Sc rfl (Sc rfl (Sc rfl Sn)))))), Sn, h⟩
end
-- 192 slices.siftDownCmpFunc[string]
section
variable (e : Env) (x0a : Option Addr) (x0n x0c : Nat) (x1 x2 x3 : Int) (x4 : Value) (x10 x11 : Int) (hp : HP) (K : Env → PV → HP → Prop)
abbrev R192 (p : List Nat) (n : Nat) := RW Try.prog 82 [] (opsAt Try.f192 p) (List.range n)
theorem F192_r0 : R192 [1, 0, 0, 0, 0] 4 (upd e 10 (sI x10)) V0 hp K =
    (K (upd (upd (upd (upd (upd e 10 (sI x10)) 13 (sI x10)) 14 (sI ((wr (2 * x10))))) 15 (sI ((wr ((wr (2 * x10)) + 1))))) 11 (sI ((wr ((wr (2 * x10)) + 1))))) V0 hp) := by kernel_rfl
theorem F192_r1 : R192 [1, 0, 0, 0, 1, 0, 0] 3 (upd (upd e 11 (sI x11)) 2 (sI x2)) V0 hp K =
    (K (upd (upd (upd (upd (upd e 11 (sI x11)) 2 (sI x2)) 16 (sI x11)) 17 (sI x2)) 18 (sB (decide (x11 ≥ x2)))) V0 hp) := by kernel_rfl
theorem F192_r2 : R192 [1, 0, 0, 0, 1, 1, 1, 0, 0] 16 (upd (upd (upd (upd (upd e 11 (sI x11)) 10 (sI x10)) 4 (sV x4)) 3 (sI x3)) 0 (sS x0a x0n x0c)) V0 hp K =
    ((0 ≤ ((wr (x3 + x10)) : Int)) ∧ (((wr (x3 + x10)) : Int) < x0n) ∧ (ptrN x0a fun b1 o2 => (ldV (HP.cell hp b1 (o2 + Int.toNat (wr (x3 + x10)) * 1)) fun v3 => (strV v3 fun s4 => ((0 ≤ ((wr (x3 + x11)) : Int)) ∧ (((wr (x3 + x11)) : Int) < x0n) ∧ (ptrN x0a fun b5 o6 => (ldV (HP.cell hp b5 (o6 + Int.toNat (wr (x3 + x11)) * 1)) fun v7 => (strV v7 fun s8 => (fnV x4 fun f9 ga10 gb11 => (CF Try.prog f9 (ga10 ++ [(Value.string s4), (.string s8)] ++ gb11) hp fun u12 h13 => (intV u12 .i64 fun i14 => (K (upd (upd (upd (upd (upd (upd (upd (upd (upd (upd (upd (upd (upd (upd (upd (upd (upd (upd (upd (upd (upd e 11 (sI x11)) 10 (sI x10)) 4 (sV x4)) 3 (sI x3)) 0 (sS x0a x0n x0c)) 43 (sV x4)) 44 (sS x0a x0n x0c)) 45 (sI x3)) 46 (sI x10)) 47 (sI ((wr (x3 + x10))))) 48 (sV (ptr b1 (o2 + Int.toNat (wr (x3 + x10)) * 1)))) 49 (sV (.string s4))) 50 (sS x0a x0n x0c)) 51 (sI x3)) 52 (sI x11)) 53 (sI ((wr (x3 + x11))))) 54 (sV (ptr b5 (o6 + Int.toNat (wr (x3 + x11)) * 1)))) 55 (sV (.string s8))) 56 (sI i14)) 57 (sB (decide (i14 < 0)))) 58 (sB ((!(decide (i14 < 0)))))) V0 h13)))))))))))) := by kernel_rfl
theorem F192_r3 : R192 [1, 0, 0, 0, 1, 1, 1, 1, 0] 24 (upd (upd (upd (upd e 11 (sI x11)) 10 (sI x10)) 3 (sI x3)) 0 (sS x0a x0n x0c)) V0 hp K =
    ((0 ≤ ((wr (x3 + x11)) : Int)) ∧ (((wr (x3 + x11)) : Int) < x0n) ∧ (ptrN x0a fun b1 o2 => (ldV (HP.cell hp b1 (o2 + Int.toNat (wr (x3 + x11)) * 1)) fun v3 => (strV v3 fun s4 => ((0 ≤ ((wr (x3 + x10)) : Int)) ∧ (((wr (x3 + x10)) : Int) < x0n) ∧ (ptrN x0a fun b5 o6 => (ldV (HP.cell hp b5 (o6 + Int.toNat (wr (x3 + x10)) * 1)) fun v7 => (strV v7 fun s8 => ((0 ≤ ((wr (x3 + x10)) : Int)) ∧ (((wr (x3 + x10)) : Int) < x0n) ∧ (ptrN x0a fun b9 o10 => (HP.st hp b9 (o10 + Int.toNat (wr (x3 + x10)) * 1) (.string s4) fun h11 => ((0 ≤ ((wr (x3 + x11)) : Int)) ∧ (((wr (x3 + x11)) : Int) < x0n) ∧ (ptrN x0a fun b12 o13 => (HP.st h11 b12 (o13 + Int.toNat (wr (x3 + x11)) * 1) (.string s8) fun h14 => (K (upd (upd (upd (upd (upd (upd (upd (upd (upd (upd (upd (upd (upd (upd (upd (upd (upd (upd (upd (upd (upd (upd (upd (upd (upd (upd e 11 (sI x11)) 10 (sI x10)) 3 (sI x3)) 0 (sS x0a x0n x0c)) 59 (sS x0a x0n x0c)) 60 (sI x3)) 61 (sI x10)) 62 (sI ((wr (x3 + x10))))) 63 (sS x0a x0n x0c)) 64 (sI x3)) 65 (sI x11)) 66 (sI ((wr (x3 + x11))))) 67 (sS x0a x0n x0c)) 68 (sI x3)) 69 (sI x11)) 70 (sI ((wr (x3 + x11))))) 71 (sV (ptr b1 (o2 + Int.toNat (wr (x3 + x11)) * 1)))) 72 (sV (.string s4))) 73 (sS x0a x0n x0c)) 74 (sI x3)) 75 (sI x10)) 76 (sI ((wr (x3 + x10))))) 77 (sV (ptr b5 (o6 + Int.toNat (wr (x3 + x10)) * 1)))) 78 (sV (.string s8))) 79 (sV (ptr b9 (o10 + Int.toNat (wr (x3 + x10)) * 1)))) 80 (sV (ptr b12 (o13 + Int.toNat (wr (x3 + x11)) * 1)))) V0 h14))))))))))))))) := by kernel_rfl
theorem F192_r4 : R192 [1, 0, 0, 0, 1, 1, 1, 1, 1] 2 (upd e 11 (sI x11)) V0 hp K =
    (K (upd (upd (upd e 11 (sI x11)) 81 (sI x11)) 10 (sI x11)) V0 hp) := by kernel_rfl
def F192_j3 (x0a : Option Addr) (x0n : Nat) (x0c : Nat) (x2 : Int) (x3 : Int) (x4 : Value) (x10 : Int) (x11 : Int) (hp : HP) (I2 : (Int) → HP → Prop) (K : Value → HP → Prop) : Prop :=
  ((0 ≤ ((IntKind.wrap .i64 (x3 + x10)) : Int)) ∧ (((IntKind.wrap .i64 (x3 + x10)) : Int) < x0n) ∧ (ptrN x0a fun b_1 o_2 => (ldV (HP.cell hp b_1 (o_2 + Int.toNat (IntKind.wrap .i64 (x3 + x10)) * 1)) fun v_3 => (strV v_3 fun s_4 => ((0 ≤ ((IntKind.wrap .i64 (x3 + x11)) : Int)) ∧ (((IntKind.wrap .i64 (x3 + x11)) : Int) < x0n) ∧ (ptrN x0a fun b_5 o_6 => (ldV (HP.cell hp b_5 (o_6 + Int.toNat (IntKind.wrap .i64 (x3 + x11)) * 1)) fun v_7 => (strV v_7 fun s_8 => (fnV x4 fun f_9 ga_10 gb_11 => (CF Try.prog f_9 (ga_10 ++ [(Value.string s_4), (.string s_8)] ++ gb_11) hp fun u_12 h_13 => (intV u_12 .i64 fun i_14 => (ite2 (!(decide (i_14 < 0))) (K (.tuple ⟨[]⟩) h_13) ((0 ≤ ((IntKind.wrap .i64 (x3 + x11)) : Int)) ∧ (((IntKind.wrap .i64 (x3 + x11)) : Int) < x0n) ∧ (ptrN x0a fun b_15 o_16 => (ldV (HP.cell h_13 b_15 (o_16 + Int.toNat (IntKind.wrap .i64 (x3 + x11)) * 1)) fun v_17 => (strV v_17 fun s_18 => ((0 ≤ ((IntKind.wrap .i64 (x3 + x10)) : Int)) ∧ (((IntKind.wrap .i64 (x3 + x10)) : Int) < x0n) ∧ (ptrN x0a fun b_19 o_20 => (ldV (HP.cell h_13 b_19 (o_20 + Int.toNat (IntKind.wrap .i64 (x3 + x10)) * 1)) fun v_21 => (strV v_21 fun s_22 => ((0 ≤ ((IntKind.wrap .i64 (x3 + x10)) : Int)) ∧ (((IntKind.wrap .i64 (x3 + x10)) : Int) < x0n) ∧ (ptrN x0a fun b_23 o_24 => (HP.st h_13 b_23 (o_24 + Int.toNat (IntKind.wrap .i64 (x3 + x10)) * 1) (.string s_18) fun h_25 => ((0 ≤ ((IntKind.wrap .i64 (x3 + x11)) : Int)) ∧ (((IntKind.wrap .i64 (x3 + x11)) : Int) < x0n) ∧ (ptrN x0a fun b_26 o_27 => (HP.st h_25 b_26 (o_27 + Int.toNat (IntKind.wrap .i64 (x3 + x11)) * 1) (.string s_22) fun h_28 => (I2 x11 h_28)))))))))))))))))))))))))))
theorem F192_r5 : R192 [1, 0, 0, 0, 1, 1, 0, 1, 0] 3 (upd e 11 (sI x11)) V0 hp K =
    (K (upd (upd (upd (upd e 11 (sI x11)) 41 (sI x11)) 42 (sI ((wr (x11 + 1))))) 11 (sI ((wr (x11 + 1))))) V0 hp) := by kernel_rfl
def F192_j4 (x0a : Option Addr) (x0n : Nat) (x0c : Nat) (x2 : Int) (x3 : Int) (x4 : Value) (x10 : Int) (x11 : Int) (x40 : Bool) (hp : HP) (I2 : (Int) → HP → Prop) (K : Value → HP → Prop) : Prop :=
  (ite2 x40 (F192_j3 x0a x0n x0c x2 x3 x4 x10 (IntKind.wrap .i64 (x11 + 1)) hp I2 K) (F192_j3 x0a x0n x0c x2 x3 x4 x10 x11 hp I2 K))
theorem F192_r6 : R192 [1, 0, 0, 0, 1, 1, 0, 0] 22 (upd (upd (upd (upd (upd e 11 (sI x11)) 4 (sV x4)) 3 (sI x3)) 2 (sI x2)) 0 (sS x0a x0n x0c)) V0 hp K =
    (ite2 (decide (((wr (x11 + 1)) : Int) < x2)) ((0 ≤ ((wr (x3 + x11)) : Int)) ∧ (((wr (x3 + x11)) : Int) < x0n) ∧ (ptrN x0a fun b1 o2 => (ldV (HP.cell hp b1 (o2 + Int.toNat (wr (x3 + x11)) * 1)) fun v3 => (strV v3 fun s4 => ((0 ≤ ((wr ((wr (x3 + x11)) + 1)) : Int)) ∧ (((wr ((wr (x3 + x11)) + 1)) : Int) < x0n) ∧ (ptrN x0a fun b5 o6 => (ldV (HP.cell hp b5 (o6 + Int.toNat (wr ((wr (x3 + x11)) + 1)) * 1)) fun v7 => (strV v7 fun s8 => (fnV x4 fun f9 ga10 gb11 => (CF Try.prog f9 (ga10 ++ [(Value.string s4), (.string s8)] ++ gb11) hp fun u12 h13 => (intV u12 .i64 fun i14 => (K (upd (upd (upd (upd (upd (upd (upd (upd (upd (upd (upd (upd (upd (upd (upd (upd (upd (upd (upd (upd (upd (upd (upd (upd (upd (upd (upd e 11 (sI x11)) 4 (sV x4)) 3 (sI x3)) 2 (sI x2)) 0 (sS x0a x0n x0c)) 19 (sI x11)) 20 (sI ((wr (x11 + 1))))) 21 (sI x2)) 22 (sB ((decide (((wr (x11 + 1)) : Int) < x2))))) 23 (sB true)) 24 (sV x4)) 25 (sS x0a x0n x0c)) 26 (sI x3)) 27 (sI x11)) 28 (sI ((wr (x3 + x11))))) 29 (sV (ptr b1 (o2 + Int.toNat (wr (x3 + x11)) * 1)))) 30 (sV (.string s4))) 31 (sS x0a x0n x0c)) 32 (sI x3)) 33 (sI x11)) 34 (sI ((wr (x3 + x11))))) 35 (sI ((wr ((wr (x3 + x11)) + 1))))) 36 (sV (ptr b5 (o6 + Int.toNat (wr ((wr (x3 + x11)) + 1)) * 1)))) 37 (sV (.string s8))) 38 (sI i14)) 39 (sB (decide (i14 < 0)))) 40 (sB (decide (i14 < 0)))) V0 h13)))))))))))) (K (upd (upd (upd (upd (upd (upd (upd (upd (upd (upd (upd (upd (upd (upd (upd (upd (upd (upd (upd (upd (upd (upd (upd (upd (upd (upd (upd e 11 (sI x11)) 4 (sV x4)) 3 (sI x3)) 2 (sI x2)) 0 (sS x0a x0n x0c)) 19 (sI x11)) 20 (sI ((wr (x11 + 1))))) 21 (sI x2)) 22 (sB ((decide (((wr (x11 + 1)) : Int) < x2))))) 23 (sB false)) 24 sU) 25 sU) 26 sU) 27 sU) 28 sU) 29 sU) 30 sU) 31 sU) 32 sU) 33 sU) 34 sU) 35 sU) 36 sU) 37 sU) 38 sU) 39 sU) 40 (sB false)) V0 hp)) := by kernel_rfl
def F192_l2 (x0a : Option Addr) (x0n : Nat) (x0c : Nat) (x2 : Int) (x3 : Int) (x4 : Value) (K : Value → HP → Prop) (I2 : (Int) → HP → Prop) (x10 : Int) (hp : HP) : Prop :=
  (ite2 (decide (((IntKind.wrap .i64 ((IntKind.wrap .i64 (2 * x10)) + 1)) : Int) ≥ x2)) (K (.tuple ⟨[]⟩) hp) (ite2 (decide (((IntKind.wrap .i64 ((IntKind.wrap .i64 ((IntKind.wrap .i64 (2 * x10)) + 1)) + 1)) : Int) < x2)) ((0 ≤ ((IntKind.wrap .i64 (x3 + (IntKind.wrap .i64 ((IntKind.wrap .i64 (2 * x10)) + 1)))) : Int)) ∧ (((IntKind.wrap .i64 (x3 + (IntKind.wrap .i64 ((IntKind.wrap .i64 (2 * x10)) + 1)))) : Int) < x0n) ∧ (ptrN x0a fun b_29 o_30 => (ldV (HP.cell hp b_29 (o_30 + Int.toNat (IntKind.wrap .i64 (x3 + (IntKind.wrap .i64 ((IntKind.wrap .i64 (2 * x10)) + 1)))) * 1)) fun v_31 => (strV v_31 fun s_32 => ((0 ≤ ((IntKind.wrap .i64 ((IntKind.wrap .i64 (x3 + (IntKind.wrap .i64 ((IntKind.wrap .i64 (2 * x10)) + 1)))) + 1)) : Int)) ∧ (((IntKind.wrap .i64 ((IntKind.wrap .i64 (x3 + (IntKind.wrap .i64 ((IntKind.wrap .i64 (2 * x10)) + 1)))) + 1)) : Int) < x0n) ∧ (ptrN x0a fun b_33 o_34 => (ldV (HP.cell hp b_33 (o_34 + Int.toNat (IntKind.wrap .i64 ((IntKind.wrap .i64 (x3 + (IntKind.wrap .i64 ((IntKind.wrap .i64 (2 * x10)) + 1)))) + 1)) * 1)) fun v_35 => (strV v_35 fun s_36 => (fnV x4 fun f_37 ga_38 gb_39 => (CF Try.prog f_37 (ga_38 ++ [(Value.string s_32), (.string s_36)] ++ gb_39) hp fun u_40 h_41 => (intV u_40 .i64 fun i_42 => (F192_j4 x0a x0n x0c x2 x3 x4 x10 (IntKind.wrap .i64 ((IntKind.wrap .i64 (2 * x10)) + 1)) (decide (i_42 < 0)) h_41 I2 K)))))))))))) (F192_j4 x0a x0n x0c x2 x3 x4 x10 (IntKind.wrap .i64 ((IntKind.wrap .i64 (2 * x10)) + 1)) false hp I2 K)))
def F192_j1 (x0a : Option Addr) (x0n : Nat) (x0c : Nat) (x2 : Int) (x3 : Int) (x4 : Value) (x10 : Int) (hp : HP) (K : Value → HP → Prop) : Prop :=
  (LoopP (σ := Int) (fun I s hp => F192_l2 x0a x0n x0c x2 x3 x4  K I s hp) x10 hp)
theorem F192_r7 : R192 [0] 2 (upd e 1 (sI x1)) V0 hp K =
    (K (upd (upd (upd e 1 (sI x1)) 12 (sI x1)) 10 (sI x1)) V0 hp) := by kernel_rfl
def F192 (x0a : Option Addr) (x0n : Nat) (x0c : Nat) (x1 : Int) (x2 : Int) (x3 : Int) (x4 : Value) (hp : HP) (K : Value → HP → Prop) : Prop :=
  (F192_j1 x0a x0n x0c x2 x3 x4 x1 hp  K)
noncomputable def F192_code : Code := (.seq (.region 0 (opsAt Try.f192 [0]) false) (.block 0 (.loop (.block 1 (.seq (.region 1 (opsAt Try.f192 [1, 0, 0, 0, 0]) false) (.seq (.seq (.region 2 (opsAt Try.f192 [1, 0, 0, 0, 1, 0, 0]) false) (.cond (.tmp 18) (.exit 0) .skip)) (.seq (.seq (.region 3 (opsAt Try.f192 [1, 0, 0, 0, 1, 1, 0, 0]) true) (.cond (.tmp 40) (.region 4 (opsAt Try.f192 [1, 0, 0, 0, 1, 1, 0, 1, 0]) false) .skip)) (.seq (.seq (.region 5 (opsAt Try.f192 [1, 0, 0, 0, 1, 1, 1, 0, 0]) true) (.cond (.tmp 58) .ret .skip)) (.seq (.region 6 (opsAt Try.f192 [1, 0, 0, 0, 1, 1, 1, 1, 0]) true) (.region 7 (opsAt Try.f192 [1, 0, 0, 0, 1, 1, 1, 1, 1]) false))))))))))
theorem F192_body : Try.f192.body = some F192_code := by kernel_rfl
theorem F192_ok (x0a : Option Addr) (x0n : Nat) (x0c : Nat) (x1 : Int) (x2 : Int) (x3 : Int) (x4 : Value) (hp : HP) (K : Value → HP → Prop) (h : F192 x0a x0n x0c x1 x2 x3 x4 hp K) : CF Try.prog 192 [(.slice x0a x0n x0c), (.int .i64 x1), (.int .i64 x2), (.int .i64 x3), x4] hp K := by
 refine .inl ⟨by kernel_rfl, AC.intro (N := 82) Try.func192 F192_body rfl (Nat.le_of_ble_eq_true rfl) ?_⟩
 unfold F192 at h
 unfold F192_code
 refine AWP.seq (fun env pv hp => ∃ (x0a : Option Addr) (x0n : Nat) (x0c : Nat) (x2 : Int) (x3 : Int) (x4 : Value) (x10 : Int), Sub (upd (upd (upd (upd (upd E0 10 (sI x10)) 4 (sV x4)) 3 (sI x3)) 2 (sI x2)) 0 (sS x0a x0n x0c)) env ∧ Sub V0 pv ∧ (F192_j1 x0a x0n x0c x2 x3 x4 x10 hp  K)) ?_ ?_
 ·refine AWP.rgn (F192_r7 (upd (upd (upd (upd E0 4 (sV x4)) 3 (sI x3)) 2 (sI x2)) 0 (sS x0a x0n x0c)) x1 hp _) ?_ (Ru 1 (Ru 0 (Ru 2 (Ru 3 (Ru 4 Rn))))) (Sc rfl (Sc rfl (Sc rfl (Sc rfl (Sc rfl Sn))))) Sn
  exact ⟨x0a, x0n, x0c, x2, x3, x4, x1, (Sc rfl (Sc rfl (Sc rfl (Sc rfl (Sc rfl Sn))))), Sn, h⟩
 ·rintro env pv hp ⟨x0a, x0n, x0c, x2, x3, x4, x10, he, hv, h⟩
  refine AWP.sub (env' := (upd (upd (upd (upd (upd E0 10 (sI x10)) 4 (sV x4)) 3 (sI x3)) 2 (sI x2)) 0 (sS x0a x0n x0c))) (pv' := V0) ?_ (Ru 0 (Ru 2 (Ru 3 (Ru 4 (Ru 10 Rn))))) he hv (HSub.refl _)
  clear he hv
  unfold F192_j1 at h
  refine AWP.block ?_
  refine AWP.loop (σ := Int) (fun I s hp => F192_l2 x0a x0n x0c x2 x3 x4  K I s hp) (fun s => (upd (upd (upd (upd (upd E0 10 (sI s)) 4 (sV x4)) 3 (sI x3)) 2 (sI x2)) 0 (sS x0a x0n x0c))) (fun s => V0) x10 h (fun s => (Ru 0 (Ru 2 (Ru 3 (Ru 4 (Ru 10 Rn)))))) (Sc rfl (Sc rfl (Sc rfl (Sc rfl (Sc rfl Sn))))) Sn ?_
  intro I2 s hp h
  obtain ⟨x10, hs⟩ : ∃ x, x = s := ⟨s, rfl⟩
  subst hs
  replace h : F192_l2 x0a x0n x0c x2 x3 x4  K I2 x10 hp := h
  unfold F192_l2 at h
  refine AWP.block ?_
  refine AWP.seq' ?_
  refine AWP.rgn (F192_r0 (upd (upd (upd (upd E0 4 (sV x4)) 3 (sI x3)) 2 (sI x2)) 0 (sS x0a x0n x0c)) x10 hp _) ?_ (Ru 10 (Ru 0 (Ru 2 (Ru 3 (Ru 4 Rn))))) (Sc rfl (Sc rfl (Sc rfl (Sc rfl (Sc rfl Sn))))) Sn
  refine AWP.seq' ?_
  refine AWP.seq' ?_
  refine AWP.rgn (F192_r1 (upd (upd (upd (upd E0 10 (sI x10)) 4 (sV x4)) 3 (sI x3)) 0 (sS x0a x0n x0c)) x2 (wr ((wr (2 * x10)) + 1)) hp _) ?_ (Ru 2 (Ru 11 (Ru 0 (Ru 3 (Ru 4 (Ru 10 Rn)))))) (Sc rfl (Sc rfl (Sc rfl (Sc rfl (Sc rfl (Sc rfl Sn)))))) Sn
  refine AWP.cond (t := (decide (((wr ((wr (2 * x10)) + 1)) : Int) ≥ x2))) rfl (fun e => ?_) (fun e => ?_)
  ·replace h := ite2_t h e
   refine AWP.exit ?_
   exact h
  ·replace h := ite2_f h e
   refine AWP.skip ?_
   refine AWP.seq (fun env pv hp => ∃ (x10 : Int) (x11 : Int), Sub (upd (upd (upd (upd (upd (upd E0 11 (sI x11)) 10 (sI x10)) 4 (sV x4)) 3 (sI x3)) 2 (sI x2)) 0 (sS x0a x0n x0c)) env ∧ Sub V0 pv ∧ (F192_j3 x0a x0n x0c x2 x3 x4 x10 x11 hp I2 K)) ?_ ?_
   ·refine AWP.seq (fun env pv hp => ∃ (x10 : Int) (x11 : Int) (x40 : Bool), Sub (upd (upd (upd (upd (upd (upd (upd E0 40 (sB x40)) 11 (sI x11)) 10 (sI x10)) 4 (sV x4)) 3 (sI x3)) 2 (sI x2)) 0 (sS x0a x0n x0c)) env ∧ Sub V0 pv ∧ (F192_j4 x0a x0n x0c x2 x3 x4 x10 x11 x40 hp I2 K)) ?_ ?_
    ·refine AWP.rgnD (by kernel_rfl) (by kernel_rfl) (F192_r6 (upd E0 10 (sI x10)) x0a x0n x0c x2 x3 x4 (wr ((wr (2 * x10)) + 1)) hp _) ?_ (Ru 0 (Ru 2 (Ru 3 (Ru 4 (Ru 11 (Ru 10 Rn)))))) (Sc rfl (Sc rfl (Sc rfl (Sc rfl (Sc rfl (Sc rfl Sn)))))) Sn
     refine mt h (fun h => ?_) (fun h => ?_)
     ·refine ⟨h.1, h.2.1, mN h.2.2 (fun b_29 o_30 h => mV h (fun v_31 h => ms h (fun s_32 h => ⟨h.1, h.2.1, mN h.2.2 fun b_33 o_34 h => mV h fun v_35 h => ms h fun s_36 h => mF h fun f_37 ga_38 gb_39 h => mC h fun u_40 h_41 h => mI h fun i_42 h => ?_⟩)))⟩
      exact ⟨x10, (wr ((wr (2 * x10)) + 1)), (decide (i_42 < 0)), (Sc rfl (Sc rfl (Sc rfl (Sc rfl (Sc rfl (Sc rfl (Sc rfl Sn))))))), Sn, h⟩
     ·exact ⟨x10, (wr ((wr (2 * x10)) + 1)), false, (Sc rfl (Sc rfl (Sc rfl (Sc rfl (Sc rfl (Sc rfl (Sc rfl Sn))))))), Sn, h⟩
    ·rintro env pv hp ⟨x10, x11, x40, he, hv, h⟩
     refine AWP.sub (env' := (upd (upd (upd (upd (upd (upd (upd E0 40 (sB x40)) 11 (sI x11)) 10 (sI x10)) 4 (sV x4)) 3 (sI x3)) 2 (sI x2)) 0 (sS x0a x0n x0c))) (pv' := V0) ?_ (Ru 0 (Ru 2 (Ru 3 (Ru 4 (Ru 10 (Ru 11 (Ru 40 Rn))))))) he hv (HSub.refl _)
     clear he hv
     unfold F192_j4 at h
     refine AWP.cond (t := x40) rfl (fun e => ?_) (fun e => ?_)
     ·replace h := ite2_t h e
      refine AWP.rgn (F192_r5 (upd (upd (upd (upd (upd E0 10 (sI x10)) 4 (sV x4)) 3 (sI x3)) 2 (sI x2)) 0 (sS x0a x0n x0c)) x11 hp _) ?_ (Ru 11 (Ru 0 (Ru 2 (Ru 3 (Ru 4 (Ru 10 Rn)))))) (Sc rfl (Sc rfl (Sc rfl (Sc rfl (Sc rfl (Sc rfl Sn)))))) Sn
      exact ⟨x10, (wr (x11 + 1)), (Sc rfl (Sc rfl (Sc rfl (Sc rfl (Sc rfl (Sc rfl Sn)))))), Sn, h⟩
     ·replace h := ite2_f h e
      refine AWP.skip ?_
      exact ⟨x10, x11, (Sc rfl (Sc rfl (Sc rfl (Sc rfl (Sc rfl (Sc rfl Sn)))))), Sn, h⟩
   ·rintro env pv hp ⟨x10, x11, he, hv, h⟩
    refine AWP.sub (env' := (upd (upd (upd (upd (upd (upd E0 11 (sI x11)) 10 (sI x10)) 4 (sV x4)) 3 (sI x3)) 2 (sI x2)) 0 (sS x0a x0n x0c))) (pv' := V0) ?_ (Ru 0 (Ru 2 (Ru 3 (Ru 4 (Ru 10 (Ru 11 Rn)))))) he hv (HSub.refl _)
    clear he hv
    unfold F192_j3 at h
    refine AWP.seq' ?_
    refine AWP.seq' ?_
    refine AWP.rgnD (by kernel_rfl) (by kernel_rfl) (F192_r2 (upd E0 2 (sI x2)) x0a x0n x0c x3 x4 x10 x11 hp _) ?_ (Ru 0 (Ru 3 (Ru 4 (Ru 10 (Ru 11 (Ru 2 Rn)))))) (Sc rfl (Sc rfl (Sc rfl (Sc rfl (Sc rfl (Sc rfl Sn)))))) Sn
    refine ⟨h.1, h.2.1, mN h.2.2 (fun b_1 o_2 h => mV h (fun v_3 h => ms h (fun s_4 h => ⟨h.1, h.2.1, mN h.2.2 fun b_5 o_6 h => mV h fun v_7 h => ms h fun s_8 h => mF h fun f_9 ga_10 gb_11 h => mC h fun u_12 h_13 h => mI h fun i_14 h => ?_⟩)))⟩
    refine AWP.cond (t := (!(decide (i_14 < 0)))) rfl (fun e => ?_) (fun e => ?_)
    ·replace h := ite2_t h e
     refine AWP.ret ?_
     exact h
    ·replace h := ite2_f h e
     refine AWP.skip ?_
     refine AWP.seq' ?_
     refine AWP.rgnD (by kernel_rfl) (by kernel_rfl) (F192_r3 (upd (upd E0 4 (sV x4)) 2 (sI x2)) x0a x0n x0c x3 x10 x11 h_13 _) ?_ (Ru 0 (Ru 3 (Ru 10 (Ru 11 (Ru 2 (Ru 4 Rn)))))) (Sc rfl (Sc rfl (Sc rfl (Sc rfl (Sc rfl (Sc rfl Sn)))))) Sn
     refine ⟨h.1, h.2.1, mN h.2.2 (fun b_15 o_16 h => mV h (fun v_17 h => ms h (fun s_18 h => ⟨h.1, h.2.1, mN h.2.2 (fun b_19 o_20 h => mV h (fun v_21 h => ms h (fun s_22 h => ⟨h.1, h.2.1, mN h.2.2 (fun b_23 o_24 h => mw h (fun h_25 h => ⟨h.1, h.2.1, mN h.2.2 fun b_26 o_27 h => mw h fun h_28 h => ?_⟩))⟩)))⟩)))⟩
     refine AWP.rgn (F192_r4 (upd (upd (upd (upd E0 4 (sV x4)) 3 (sI x3)) 2 (sI x2)) 0 (sS x0a x0n x0c)) x11 h_28 _) ?_ (Ru 11 (Ru 0 (Ru 2 (Ru 3 (Ru 4 Rn))))) (Sc rfl (Sc rfl (Sc rfl (Sc rfl (Sc rfl Sn))))) Sn
     exact ⟨x11, (Sc rfl (Sc rfl (Sc rfl (Sc rfl (Sc rfl Sn))))), Sn, h⟩
end
end Go.Proofs

set_option linter.unusedVariables false
set_option maxRecDepth 20000
namespace Go.Proofs
open Go Go.HL

section
variable {f : FuncId} {ga gb : List Value} {hp0 : HP} {b sp n c : Nat} {T : Type} [Inhabited T] {en : T → ByteArray} {cf : T → T → Int}

theorem S180 (hc : CmpOk1 Try.prog f ga gb hp0 b 9 sp n cf en) {d : Array T} {lo hi : Nat} {K : Value → HP → Prop} (hs : d.size = n) (hlo : lo ≤ hi) (hhi : hi ≤ n) (hn : n ≤ 1000000000)
    (h : K (.tuple ⟨[]⟩) (HA hp0 b 9 sp (ssT en) (Sort.insertionSort (ltC cf) d lo hi))) :
    CF Try.prog 180 [.slice (some ⟨b, 0, none⟩) n c, .int .i64 lo, .int .i64 hi, .func (.func f) ⟨ga⟩ ⟨gb⟩] (HA hp0 b 9 sp (ssT en) d) K := by
  refine F180_ok _ n c lo hi _ _ K ?_
  unfold F180 F180_j1
  rw [w64 (by omega) (by omega)]
  refine LoopP.by (J := fun k (x : Int) hp => ∃ (i : Nat) (d' : Array T), x = i ∧ hp = HA hp0 b 9 sp (ssT en) d' ∧ d'.size = n ∧ lo < i ∧ k = hi - i ∧ Sort.insOuter (ltC cf) lo hi i d' = Sort.insertionSort (ltC cf) d lo hi) ?_
    (n := hi - (lo + 1)) ⟨lo + 1, d, by omega, rfl, hs, by omega, rfl, rfl⟩
  rintro I k x hp ⟨i, d', rfl, rfl, hs', hli, rfl, he⟩ hI
  unfold F180_l2
  rw [Sort.insOuter] at he
  by_cases hi' : i < hi
  · rw [decide_eq_true (by omega : (i : Int) < (hi : Int)), ite2_true]
    rw [if_pos hi'] at he
    unfold F180_j4
    refine LoopP.by (J := fun k (y : Int) hp => ∃ (j : Nat) (d2 : Array T), y = j ∧ hp = HA hp0 b 9 sp (ssT en) d2 ∧ d2.size = n ∧ j < n ∧ k = j ∧ Sort.insInner (ltC cf) lo j d2 = Sort.insInner (ltC cf) lo i d') ?_
      (n := i) ⟨i, d', rfl, rfl, hs', by omega, rfl, rfl⟩
    rintro I2 k2 y hp2 ⟨j, d2, rfl, rfl, hs2, hj, hk2, he2⟩ hI2
    unfold F180_l5
    have out : Sort.insInner (ltC cf) lo i d' = d2 → F180_j6 (some ⟨b, 0, none⟩) n c lo hi (.func (.func f) ⟨ga⟩ ⟨gb⟩) i j false (HA hp0 b 9 sp (ssT en) d2) I I2 K := by
      intro heq
      unfold F180_j6 F180_j3
      rw [ite2_false, w64 (by omega) (by omega)]
      exact hI (hi - (i + 1)) _ _ (by omega) ⟨i + 1, d2, by omega, rfl, hs2, by omega, rfl, by rw [← heq]; exact he⟩
    by_cases hjl : lo < j
    · rw [decide_eq_true (by omega : (j : Int) > (lo : Int)), ite2_true]
      obtain ⟨j', rfl⟩ : ∃ j', j = j' + 1 := ⟨j - 1, by omega⟩
      have w1 : IntKind.wrap .i64 (((j' + 1 : Nat) : Int) - 1) = (j' : Int) := by rw [w64 (by omega) (by omega)]; omega
      have g1 : (HA hp0 b 9 sp (ssT en) d2).cell b (0 + (j' + 1) * 1) = some (sw (en d2[j' + 1]!)) := HA.get1 (en := fun x => sw (en x)) (by omega)
      have g0 : (HA hp0 b 9 sp (ssT en) d2).cell b (0 + (j') * 1) = some (sw (en d2[j']!)) := HA.get1 (en := fun x => sw (en x)) (by omega)
      simp only [w1, ptrN_some, Int.toNat_natCast, g1, g0, ldV_some, sw, strV_string, fnV_mk]
      refine ⟨by omega, by omega, by omega, by omega, ?_⟩
      refine hc d2 _ _ _ hs2 (at_mem (by omega)) (at_mem (by omega)) ?_
      rw [intV_int]
      rw [Sort.insInner] at he2
      have hgt : decide (j' + 1 > lo) = true := decide_eq_true (by omega)
      cases hlt : decide (cf d2[j' + 1]! d2[j']! < 0)
      · have : ltC cf d2[j' + 1]! d2[j']! = false := hlt
        rw [hgt, this] at he2
        exact out (by simpa using he2.symm)
      · have : ltC cf d2[j' + 1]! d2[j']! = true := hlt
        rw [hgt, this] at he2
        simp only [Bool.and_self, if_true] at he2
        unfold F180_j6
        simp only [ite2_true, w1, ptrN_some, Int.toNat_natCast, g0, g1, ldV_some, sw, strV_string]
        refine ⟨by omega, by omega, by omega, by omega, by omega, by omega, ?_⟩
        refine HA.st1 (en := fun x => sw (en x)) (by omega) _ ?_
        refine ⟨by omega, by omega, ?_⟩
        refine HA.st1 (en := fun x => sw (en x)) (by rw [Array.size_setIfInBounds]; omega) _ ?_
        exact hI2 j' _ _ (by omega) ⟨j', _, rfl, rfl, by rw [Array.size_setIfInBounds, Array.size_setIfInBounds]; exact hs2, by omega, rfl, he2⟩
    · rw [decide_eq_false (by omega : ¬ (j : Int) > (lo : Int)), ite2_false]
      refine out ?_
      cases j with
      | zero => rw [Sort.insInner] at he2; exact he2.symm
      | succ j =>
        rw [Sort.insInner] at he2
        have hgt : decide (j + 1 > lo) = false := decide_eq_false (by omega)
        rw [hgt] at he2
        simpa using he2.symm
  · rw [decide_eq_false (by omega : ¬ (i : Int) < (hi : Int)), ite2_false]
    rw [if_neg hi'] at he
    rw [he]
    exact h
end
end Go.Proofs

