/- Parts of the proof of FNobodyProof: the logic of what is known of memory, functions' contracts. -/
import Derived.Test.YtidoceleobdkmaaQFNobodyProofB
import Derived.Test.YtidoceleobdkmaaHlStr
import Derived.Test.YtidoceleobdkmaaHlApp
import Derived.KernelRfl
import Derived.Sort.LotA
import Derived.Test.YtidoceleobdkmaaHlAbb
import Derived.Test.YtidoceleobdkmaaProg
import Derived.Test.YtidoceleobdkmaaHlOrd2
import Derived.Test.YtidoceleobdkmaaHlDec
import Derived.DataShut
set_option linter.unusedVariables false
set_option maxRecDepth 20000
namespace Go.Proofs
open Go Go.HL

theorem wiN {x : Int} {i : Nat} (h : x = i) (hb : i ≤ 9223372036854775807) : IntKind.wrap .i64 x = i := by rw [h]; exact w64 (by omega) (by omega)

/-- A piece. -/
structure Pc where
  key : ByteArray
  src : ByteArray
  at_ : Int
  more : Bool
  data : ByteArray
  head : ByteArray
deriving DecidableEq
instance : Inhabited Pc := ⟨⟨ByteArray.empty, ByteArray.empty, 0, false, ByteArray.empty, ByteArray.empty⟩⟩
def pc (p : Pc) : List Value := [.string p.key, .string p.src, .int .i64 p.at_, .bool p.more, .string p.data, .string p.head]
theorem pc_len (p : Pc) : (pc p).length = 6 := rfl
theorem pc_one (p : Pc) : (pc p).all one = true := rfl
def okP (p : Pc) : Prop := (-9223372036854775808 ≤ p.at_ ∧ p.at_ ≤ 9223372036854775807) ∧ p.data.size ≤ 1000000
/-- Where it ends. -/
def Pc.to (p : Pc) : Int := p.at_ + p.data.size
/-- May it be? -/
def rightP (p : Pc) : Bool := decide (0 ≤ p.at_) && decide (p.at_ ≤ 65535) && decide (p.at_.tmod 8 = 0) && decide (p.at_ + p.data.size ≤ 65535) && (!p.more || (decide (0 < p.data.size) && decide (p.data.size % 8 = 0)))
theorem rightP_iff {p : Pc} : rightP p = true ↔ 0 ≤ p.at_ ∧ p.at_ ≤ 65535 ∧ p.at_.tmod 8 = 0 ∧ p.at_ + p.data.size ≤ 65535 ∧ (p.more = true → 0 < p.data.size ∧ p.data.size % 8 = 0) := by
  unfold rightP
  simp only [Bool.and_eq_true, decide_eq_true_eq, Bool.or_eq_true, Bool.not_eq_true']
  cases p.more <;> simp [and_assoc]
/-- Is it the same? -/
def sameP (p q : Pc) : Bool := decide (p.at_ = q.at_) && decide (p.more = q.more) && decide (p.data = q.data)

theorem enc9 : EncK Try.prog 9 sw where
  inj a b h := by simpa [sw] using h
  law := (KeyLaw.flat (d := .string) (by kernel_rfl)).weaken fun v ⟨k, hk⟩ => by subst hk; exact trivial
theorem u97 : Try.prog.underlying 97 = some (.map 9 3) := by kernel_rfl
theorem u128 : Try.prog.underlying 128 = some (.map 9 131) := by kernel_rfl

/-- The lesser first, of two numbers. -/
def cmpN (x y : Int) : Int := if x < y then -1 else if x > y then 1 else 0
theorem D131 {x : Int} {hp : HP} {K : Value → HP → Prop} (h : K (.bool false) hp) : CF Try.prog 131 [.int .i64 x] hp K := by
  refine F131_ok x hp K ?_
  unfold F131
  simpa using h

theorem D97 {x y : Int} {hp : HP} {K : Value → HP → Prop} (h : K (.int .i64 (cmpN x y)) hp) : CF Try.prog 97 [.int .i64 x, .int .i64 y] hp K := by
  refine F97_ok x y hp K ?_
  unfold F97
  refine D131 ?_
  rw [boolV_bool]
  refine D131 ?_
  rw [boolV_bool, ite2_false, ite2_false]
  unfold cmpN at h
  by_cases h1 : x < y
  · rw [if_pos h1] at h
    rw [decide_eq_true h1, ite2_true]; exact h
  rw [if_neg h1] at h
  rw [decide_eq_false h1, ite2_false]
  by_cases h2 : x > y
  · rw [if_pos h2] at h
    rw [decide_eq_true h2, ite2_true]; exact h
  · rw [if_neg h2] at h
    rw [decide_eq_false h2, ite2_false]; exact h

theorem D96 {r : Nat} {x y : Int} {hp : HP} {K : Value → HP → Prop} (hr : hp r = .cells 3 [.int .i64 x, .int .i64 y] 0) (h : K (.int .i64 (if x ≠ 0 then x else y)) hp) : CF Try.prog 96 [.slice (some ⟨r, 0, none⟩) 2 2] hp K := by
  refine F96_ok _ 2 2 hp K ?_
  unfold F96 F96_j2
  have hc : ∀ o, hp.cell r o = [Value.int .i64 x, .int .i64 y][o]? := fun o => HP.cell_of hr
  intro I hI
  refine hI 0 hp ?_
  unfold F96_l3
  simp only [ptrN_some, hc, Nat.zero_add]
  show ite2 (decide ((0 : Int) < 2)) _ _
  rw [decide_eq_true (by omega : (0 : Int) < 2), ite2_true]
  refine ⟨by omega, by omega, ?_⟩
  show ldV (some (Value.int .i64 x)) _
  rw [ldV_some, intV_int]
  by_cases hx : x = 0
  · rw [if_neg (by simpa using hx)] at h
    have e : (x != 0) = false := by simpa using hx
    rw [e, ite2_false]
    have w : IntKind.wrap .i64 ((0 : Int) + 1) = 1 := by rw [w64 (by omega) (by omega)]; rfl
    rw [w]
    refine hI 1 hp ?_
    unfold F96_l3
    simp only [ptrN_some, hc, Nat.zero_add]
    rw [decide_eq_true (by omega : (1 : Int) < ((2 : Nat) : Int)), ite2_true]
    refine ⟨by omega, by omega, ?_⟩
    show ldV (some (Value.int .i64 y)) _
    rw [ldV_some, intV_int]
    by_cases hy : y = 0
    · have e : (y != 0) = false := by simpa using hy
      rw [e, ite2_false]
      have w : IntKind.wrap .i64 ((1 : Int) + 1) = 2 := by rw [w64 (by omega) (by omega)]; rfl
      rw [w]
      refine hI 2 hp ?_
      unfold F96_l3
      simp only [ptrN_some, hc, Nat.zero_add]
      rw [decide_eq_false (by omega : ¬ (2 : Int) < ((2 : Nat) : Int)), ite2_false]
      unfold F96_j1
      rw [hy] at h; exact h
    · have e : (y != 0) = true := by simpa using hy
      rw [e, ite2_true]; exact h
  · rw [if_pos (by simpa using hx)] at h
    have e : (x != 0) = true := by simpa using hx
    rw [e, ite2_true]; exact h

section
variable {p q : Pc} {hp : HP} {K : Value → HP → Prop}

/-- Where it ends, as it is counted. -/
def Pc.toW (p : Pc) : Int := IntKind.wrap .i64 (p.at_ + p.data.size)
theorem Pc.toW_eq {p : Pc} (h0 : 0 ≤ p.at_) (h1 : p.at_ ≤ 1000000000) (h2 : p.data.size ≤ 1000000000) : p.toW = p.to := by
  unfold Pc.toW Pc.to; rw [w64 (by omega) (by omega)]
theorem C122 (h : K (.int .i64 p.toW) hp) : CF Try.prog 122 [.agg ⟨pc p⟩] hp K := by
  refine F122_ok (pc p) hp K ?_
  unfold F122
  exact h

theorem C77 (h : K (.bool (sameP p q)) hp) : CF Try.prog 77 [.agg ⟨pc p⟩, .agg ⟨pc q⟩] hp K := by
  refine F77_ok (pc p) (pc q) hp K ?_
  unfold F77
  have k2 : ∀ p : Pc, (pc p)[2]? = some (.int .i64 p.at_) := fun _ => rfl
  have k3 : ∀ p : Pc, (pc p)[3]? = some (.bool p.more) := fun _ => rfl
  have k4 : ∀ p : Pc, (pc p)[4]? = some (.string p.data) := fun _ => rfl
  simp only [k2, k3, k4, ldV_some, intV_int, boolV_bool, strV_string]
  unfold sameP at h
  by_cases h1 : p.at_ = q.at_
  · have e : (p.at_ == q.at_) = true := by simpa using h1
    rw [e, ite2_true]
    rw [decide_eq_true h1, Bool.true_and] at h
    by_cases h2 : p.more = q.more
    · have e : (p.more == q.more) = true := by simpa using h2
      rw [e, ite2_true]
      rw [str_eq]
      rw [decide_eq_true h2, Bool.true_and] at h
      exact h
    · have e : (p.more == q.more) = false := by simpa using h2
      rw [e, ite2_false]
      rw [decide_eq_false h2, Bool.false_and] at h
      exact h
  · have e : (p.at_ == q.at_) = false := by simpa using h1
    rw [e, ite2_false]
    rw [decide_eq_false h1, Bool.false_and, Bool.false_and] at h
    exact h

theorem C67 (hp' : okP p) (h : K (.bool (rightP p)) hp) : CF Try.prog 67 [.agg ⟨pc p⟩] hp K := by
  refine F67_ok (pc p) hp K ?_
  unfold F67
  have k2 : (pc p)[2]? = some (.int .i64 p.at_) := rfl
  have k3 : (pc p)[3]? = some (.bool p.more) := rfl
  have k4 : (pc p)[4]? = some (.string p.data) := rfl
  simp only [k2, k4, ldV_some, intV_int, strV_string]
  have hno : rightP p = false → F67_j1 true (pc p) hp K := fun e => by
    unfold F67_j1; rw [ite2_true]; rw [e] at h; exact h
  have no : (¬ (0 ≤ p.at_ ∧ p.at_ ≤ 65535 ∧ p.at_.tmod 8 = 0 ∧ p.at_ + p.data.size ≤ 65535)) → F67_j1 true (pc p) hp K := fun hn => hno (by
    cases hr : rightP p with
    | false => rfl
    | true => obtain ⟨a, b, c, d, _⟩ := rightP_iff.1 hr; exact absurd ⟨a, b, c, d⟩ hn)
  by_cases h1 : p.at_ < 0
  · rw [decide_eq_true h1, ite2_true]; exact no (by omega)
  rw [decide_eq_false h1, ite2_false]
  by_cases h2 : p.at_ > 65535
  · rw [decide_eq_true h2, ite2_true]; exact no (by omega)
  rw [decide_eq_false h2, ite2_false]
  refine ⟨by decide, ?_⟩
  by_cases h3 : p.at_.tmod 8 = 0
  rotate_left
  · have e : (p.at_.tmod 8 != 0) = true := by simpa using h3
    rw [e, ite2_true]; exact no (fun x => h3 x.2.2.1)
  have e : (p.at_.tmod 8 != 0) = false := by simpa using h3
  rw [e, ite2_false, w64 (by omega) (by omega)]
  by_cases h4 : (p.data.size : Int) > 65535 - p.at_
  · rw [decide_eq_true h4]; exact no (by omega)
  rw [decide_eq_false h4]
  unfold F67_j1
  rw [ite2_false]
  simp only [k3, k4, ldV_some, boolV_bool, strV_string]
  have hx : rightP p = (!p.more || (decide (0 < p.data.size) && decide (p.data.size % 8 = 0))) := by
    unfold rightP
    rw [decide_eq_true (by omega : 0 ≤ p.at_), decide_eq_true (by omega : p.at_ ≤ 65535), decide_eq_true h3, decide_eq_true (by omega : p.at_ + p.data.size ≤ 65535)]
    simp
  rw [hx] at h
  cases hm : p.more
  · rw [hm] at h; exact h
  · rw [hm] at h
    show ite2 false _ _
    rw [ite2_false]
    by_cases h5 : 0 < p.data.size
    · rw [decide_eq_true (by omega : ((p.data.size : Nat) : Int) > 0), ite2_true]
      refine ⟨by decide, ?_⟩
      have e2 : (Int.tmod ((p.data.size : Nat) : Int) 8 == 0) = decide (p.data.size % 8 = 0) := by
        have : Int.tmod ((p.data.size : Nat) : Int) 8 = ((p.data.size % 8 : Nat) : Int) := rfl
        rw [this, Bool.eq_iff_iff, beq_iff_eq, decide_eq_true_iff]; omega
      rw [e2]
      rw [decide_eq_true h5] at h
      simpa using h
    · rw [decide_eq_false (by omega : ¬ ((p.data.size : Nat) : Int) > 0), ite2_false]
      rw [decide_eq_false h5] at h
      simpa using h

variable {s : Option Addr} {n c : Nat} {l : List Pc}

/-- A list that is looked through: the function that looks leaves the heaplet as it is. -/
theorem C121 {f : FuncId} {ga gb : List Value} {g : Pc → Bool} (hs : Shows hp s n 6 (l.flatMap pc)) (hl : l.length = n) (hn : n ≤ 1000000000)
    (hf : ∀ x ∈ l, ∀ K : Value → HP → Prop, K (.bool (g x)) hp → CF Try.prog f (ga ++ [.agg ⟨pc x⟩] ++ gb) hp K)
    (h : ∀ v : Int, (decide (v ≥ 0) = l.any g) → K (.int .i64 v) hp) : CF Try.prog 121 [.slice s n c, .func (.func f) ⟨ga⟩ ⟨gb⟩] hp K := by
  refine F121_ok s n c _ hp K ?_
  unfold F121 F121_j1
  refine LoopP.by (J := fun m (y : Int) hp' => hp' = hp ∧ ∃ i : Nat, y = i ∧ i + m = n ∧ (l.take i).any g = false) ?_ (n := n) ⟨rfl, 0, rfl, by omega, rfl⟩
  rintro I m y hp' ⟨rfl, i, rfl, him, hno⟩ hI
  unfold F121_l2
  by_cases hi : i < n
  · rw [decide_eq_true (by omega : (i : Int) < (n : Int)), ite2_true]
    have hil : i < l.length := by omega
    obtain ⟨b, o, hao, hc⟩ := hs.get pc_len hl hi
    simp only [hao, ptrN_some, Int.toNat_natCast, hc, ldL_some, fnV_mk]
    refine ⟨by omega, by omega, ?_⟩
    refine hf _ (List.getElem_mem hil) _ ?_
    rw [boolV_bool]
    have ht : (l.take (i + 1)).any g = ((l.take i).any g || g l[i]) := by
      rw [List.take_succ_eq_append_getElem hil, List.any_append]; simp
    cases hg : g l[i]
    · have w1 : IntKind.wrap .i64 ((i : Int) + 1) = ((i + 1 : Nat) : Int) := wiN (by omega) (by omega)
      rw [ite2_false, w1]
      refine hI (m - 1) _ _ (by omega) ⟨rfl, i + 1, rfl, by omega, ?_⟩
      rw [ht, hno, hg]; rfl
    · rw [ite2_true]
      refine h _ ?_
      rw [decide_eq_true (by omega : (i : Int) ≥ 0)]
      exact (List.any_eq_true.2 ⟨_, List.getElem_mem hil, hg⟩).symm
  · rw [decide_eq_false (by omega : ¬ (i : Int) < (n : Int)), ite2_false]
    rw [List.take_of_length_le (by omega)] at hno
    exact h _ (by rw [hno]; rfl)

theorem C76 {f : FuncId} {ga gb : List Value} {g : Pc → Bool} (hs : Shows hp s n 6 (l.flatMap pc)) (hl : l.length = n) (hn : n ≤ 1000000000)
    (hf : ∀ x ∈ l, ∀ K : Value → HP → Prop, K (.bool (g x)) hp → CF Try.prog f (ga ++ [.agg ⟨pc x⟩] ++ gb) hp K)
    (h : K (.bool (l.any g)) hp) : CF Try.prog 76 [.slice s n c, .func (.func f) ⟨ga⟩ ⟨gb⟩] hp K := by
  refine F76_ok s n c _ hp K ?_
  unfold F76
  refine C121 hs hl hn hf fun v hv => ?_
  rw [intV_int, hv]
  exact h
end

section
variable {f : FuncId} {ga gb : List Value} {hp0 : HP} {b sp n c : Nat} {cf : Pc → Pc → Int}

theorem S169 (hc : CmpOk Try.prog f ga gb hp0 b 29 sp pc n cf) {d : Array Pc} {lo hi : Nat} {K : Value → HP → Prop} (hs : d.size = n) (hlo : lo ≤ hi) (hhi : hi ≤ n) (hn : n ≤ 1000000000)
    (h : K (.tuple ⟨[]⟩) (HA hp0 b 29 sp pc (Sort.insertionSort (ltC cf) d lo hi))) :
    CF Try.prog 169 [.slice (some ⟨b, 0, none⟩) n c, .int .i64 lo, .int .i64 hi, .func (.func f) ⟨ga⟩ ⟨gb⟩] (HA hp0 b 29 sp pc d) K := by
  refine F169_ok _ n c lo hi _ _ K ?_
  unfold F169 F169_j1
  rw [w64 (by omega) (by omega)]
  refine LoopP.by (J := fun k (x : Int) hp => ∃ (i : Nat) (d' : Array Pc), x = i ∧ hp = HA hp0 b 29 sp pc d' ∧ d'.size = n ∧ lo < i ∧ k = hi - i ∧ Sort.insOuter (ltC cf) lo hi i d' = Sort.insertionSort (ltC cf) d lo hi) ?_
    (n := hi - (lo + 1)) ⟨lo + 1, d, by omega, rfl, hs, by omega, rfl, rfl⟩
  rintro I k x hp ⟨i, d', rfl, rfl, hs', hli, rfl, he⟩ hI
  unfold F169_l2
  rw [Sort.insOuter] at he
  by_cases hi' : i < hi
  · rw [decide_eq_true (by omega : (i : Int) < (hi : Int)), ite2_true]
    rw [if_pos hi'] at he
    unfold F169_j4
    refine LoopP.by (J := fun k (y : Int) hp => ∃ (j : Nat) (d2 : Array Pc), y = j ∧ hp = HA hp0 b 29 sp pc d2 ∧ d2.size = n ∧ j < n ∧ k = j ∧ Sort.insInner (ltC cf) lo j d2 = Sort.insInner (ltC cf) lo i d') ?_
      (n := i) ⟨i, d', rfl, rfl, hs', by omega, rfl, rfl⟩
    rintro I2 k2 y hp2 ⟨j, d2, rfl, rfl, hs2, hj, hk2, he2⟩ hI2
    unfold F169_l5
    have out : Sort.insInner (ltC cf) lo i d' = d2 → F169_j6 (some ⟨b, 0, none⟩) n c lo hi (.func (.func f) ⟨ga⟩ ⟨gb⟩) i j false (HA hp0 b 29 sp pc d2) I I2 K := by
      intro heq
      unfold F169_j6 F169_j3
      rw [ite2_false, w64 (by omega) (by omega)]
      exact hI (hi - (i + 1)) _ _ (by omega) ⟨i + 1, d2, by omega, rfl, hs2, by omega, rfl, by rw [← heq]; exact he⟩
    by_cases hjl : lo < j
    · rw [decide_eq_true (by omega : (j : Int) > (lo : Int)), ite2_true]
      obtain ⟨j', rfl⟩ : ∃ j', j = j' + 1 := ⟨j - 1, by omega⟩
      have w1 : IntKind.wrap .i64 (((j' + 1 : Nat) : Int) - 1) = (j' : Int) := by rw [w64 (by omega) (by omega)]; omega
      have g1 := HA.get (hp0 := hp0) (b := b) (e := 29) (sp := sp) pc_len (d := d2) (i := j' + 1) (by omega)
      have g0 := HA.get (hp0 := hp0) (b := b) (e := 29) (sp := sp) pc_len (d := d2) (i := j') (by omega)
      simp only [w1, ptrN_some, Int.toNat_natCast, g1, g0, ldL_some, fnV_mk]
      refine ⟨by omega, by omega, by omega, by omega, ?_⟩
      refine hc d2 _ _ _ hs2 ?_
      rw [intV_int]
      rw [Sort.insInner] at he2
      have hgt : decide (j' + 1 > lo) = true := decide_eq_true (by omega)
      cases hlt : decide (cf d2[j' + 1]! d2[j']! < 0)
      · have : ltC cf d2[j' + 1]! d2[j']! = false := hlt
        rw [hgt, this] at he2
        exact out (by simpa using he2.symm)
      · have : ltC cf d2[j' + 1]! d2[j']! = true := hlt
        rw [hgt, this] at he2
        simp only [Bool.and_self, if_true] at he2
        unfold F169_j6
        simp only [ite2_true, w1, ptrN_some, Int.toNat_natCast, g0, g1, ldL_some]
        refine ⟨by omega, by omega, by omega, by omega, by omega, by omega, rfl, ?_⟩
        refine HA.st pc_len pc_one (by omega) _ ?_
        refine ⟨by omega, by omega, rfl, ?_⟩
        refine HA.st pc_len pc_one (by rw [Array.size_setIfInBounds]; omega) _ ?_
        exact hI2 j' _ _ (by omega) ⟨j', _, rfl, rfl, by rw [Array.size_setIfInBounds, Array.size_setIfInBounds]; exact hs2, by omega, rfl, he2⟩
    · rw [decide_eq_false (by omega : ¬ (j : Int) > (lo : Int)), ite2_false]
      refine out ?_
      cases j with
      | zero => rw [Sort.insInner] at he2; exact he2.symm
      | succ j =>
        rw [Sort.insInner] at he2
        have hgt : decide (j + 1 > lo) = false := decide_eq_false (by omega)
        rw [hgt] at he2
        simpa using he2.symm
  · rw [decide_eq_false (by omega : ¬ (i : Int) < (hi : Int)), ite2_false]
    rw [if_neg hi'] at he
    rw [he]
    exact h
end
end Go.Proofs

set_option linter.unusedVariables false
set_option maxRecDepth 20000
namespace Go.Proofs
open Go Go.HL

/-- A piece speaks against another one. -/
def clash (p q : Pc) : Bool := (decide (p.at_ < q.toW) && decide (q.at_ < p.toW)) || (!p.more && decide (q.toW > p.toW))
def fitsQ (fin : Int) (l : List Pc) (p : Pc) : Bool := !(decide (fin ≥ 0) && (!p.more || decide (p.toW > fin))) && !(l.any (clash p))

/-- A datagram: where it is, where its pieces are, and what it has. -/
structure Dg where
  blk : Nat
  rblk : Nat
  id : Int
  due : Int
  fin : Int
  l : List Pc
def DgR (hp : HP) (d : Dg) : Prop :=
  d.l ≠ [] ∧ ∃ c, d.l.length ≤ c ∧ hp d.blk = .cells 135 [.int .i64 d.id, .int .i64 d.due, .int .i64 d.fin, .slice (some ⟨d.rblk, 0, none⟩) d.l.length c] 0 ∧ hp d.rblk = .cells 29 (d.l.flatMap pc) ((c - d.l.length) * 6)
theorem DgR.sub {hp hp' : HP} {d : Dg} (h : DgR hp d) (hs : HSub hp hp') : DgR hp' d := by
  obtain ⟨h0, c, h1, h2, h3⟩ := h
  exact ⟨h0, c, h1, hs.cells h2, hs.cells h3⟩

section
variable {p q : Pc} {hp : HP} {K : Value → HP → Prop} {d : Dg}

theorem C123 {b : Nat} (hb : hp b = .cells 29 (pc p) 0) (h : K (.bool (clash p q)) hp) : CF Try.prog 123 [.agg ⟨pc q⟩, .pointer (some ⟨b, 0, none⟩)] hp K := by
  refine F123_ok (pc q) _ hp K ?_
  unfold F123
  have k2 : ∀ p : Pc, (pc p)[2]? = some (.int .i64 p.at_) := fun _ => rfl
  have c2 : hp.cell b 2 = some (.int .i64 p.at_) := by rw [HP.cell_of hb]; rfl
  have c3 : hp.cell b 3 = some (.bool p.more) := by rw [HP.cell_of hb]; rfl
  have cN : hp.cellN b 0 6 = some (pc p) := by rw [HP.cellN_of hb]; exact cellsN_all rfl
  unfold clash at h
  have call : ∀ (x : Pc) (X : Int → HP → Prop), X x.toW hp → CF Try.prog 122 [.agg ⟨pc x⟩] hp fun u h => intV u .i64 fun i => X i h := fun x X hx => C122 (by rw [intV_int]; exact hx)
  cases hA : decide (p.at_ < q.toW) <;> cases hB : decide (q.at_ < p.toW) <;> cases hC : p.more
  all_goals
    rw [hA, hB, hC] at h
    repeat' apply And.intro
    all_goals
      repeat (first | (refine call _ _ ?_) | (simp only [ptrN_some, Nat.zero_add, c2, c3, cN, k2, ldV_some, ldL_some, intV_int, boolV_bool, cellsN_all (pc_len _), hA, hB, hC, ite2_true, ite2_false, Bool.not_true, Bool.not_false]))
      simpa using h

theorem C78 (hd : DgR hp d) (hn : d.l.length ≤ 1000000) (h : K (.bool (fitsQ d.fin d.l p)) hp) : CF Try.prog 78 [ptr d.blk 0, .agg ⟨pc p⟩] hp K := by
  refine CF.drop (F78_ok _ (pc p) hp _ ?_)
  unfold F78
  intro b hb
  have sb := HSub.set_fresh hp (.cells 29 (pc p) 0) hb
  have hd1 := hd.sub sb
  have hpb : (hp.set b (.cells 29 (pc p) 0)) b = .cells 29 (pc p) 0 := HP.set_eq ..
  generalize hp.set b (.cells 29 (pc p) 0) = hp1 at *
  obtain ⟨h0, c, h1, h2, h3⟩ := hd1
  have hc : ∀ o, hp1.cell d.blk o = [Value.int .i64 d.id, .int .i64 d.due, .int .i64 d.fin, .slice (some ⟨d.rblk, 0, none⟩) d.l.length c][o]? := fun o => HP.cell_of h2
  have c3 : hp1.cell b 3 = some (.bool p.more) := by rw [HP.cell_of hpb]; rfl
  have cN : hp1.cellN b 0 6 = some (pc p) := by rw [HP.cellN_of hpb]; exact cellsN_all rfl
  have sh : Shows hp1 (some ⟨d.rblk, 0, none⟩) d.l.length 6 (d.l.flatMap pc) := .inr ⟨d.rblk, 0, rfl, by rw [HP.cellN_of h3]; exact cellsN_all (by rw [flat_len pc_len])⟩
  have call : ∀ (x : Pc) (X : Int → HP → Prop), X x.toW hp1 → CF Try.prog 122 [.agg ⟨pc x⟩] hp1 fun u h => intV u .i64 fun i => X i h := fun x X hx => C122 (by rw [intV_int]; exact hx)
  have no : (decide (d.fin ≥ 0) && (!p.more || decide (p.toW > d.fin))) = true → F78_j1 (some ⟨d.blk, 0, none⟩) (some ⟨b, 0, none⟩) true hp1 (fun v hp' => ∃ hp'', HSub hp'' hp' ∧ K v hp'') := by
    intro e
    unfold F78_j1
    rw [ite2_true]
    unfold fitsQ at h
    rw [e] at h
    exact ⟨hp, sb, h⟩
  have yes : (decide (d.fin ≥ 0) && (!p.more || decide (p.toW > d.fin))) = false → F78_j1 (some ⟨d.blk, 0, none⟩) (some ⟨b, 0, none⟩) false hp1 (fun v hp' => ∃ hp'', HSub hp'' hp' ∧ K v hp'') := by
    intro e
    unfold F78_j1
    rw [ite2_false]
    simp only [ptrN_some, hc, Nat.zero_add, List.getElem?_cons_succ, List.getElem?_cons_zero, ldV_some, slcV_slice]
    refine C76 (g := clash p) sh rfl (by omega) (fun x _ K' hK' => C123 hpb hK') ?_
    rw [boolV_bool]
    unfold fitsQ at h
    rw [e] at h
    exact ⟨hp, sb, by simpa using h⟩
  cases hA : decide (d.fin ≥ 0) <;> cases hB : p.more <;> cases hC : decide (p.toW > d.fin)
  all_goals
    rw [hA, hB, hC] at no yes
    apply And.intro
    all_goals
      repeat (first | (refine call _ _ ?_) | (simp only [ptrN_some, hc, c3, cN, Nat.zero_add, List.getElem?_cons_succ, List.getElem?_cons_zero, ldV_some, ldL_some, intV_int, boolV_bool, hA, hB, hC, ite2_true, ite2_false, Bool.not_true, Bool.not_false]))
      first | exact yes rfl | exact no rfl

/-- The head of the piece at 0. -/
def headQ : List Pc → ByteArray
  | [] => ⟨#[]⟩
  | p :: l => if p.at_ = 0 then p.head else headQ l

theorem C110 (hd : DgR hp d) (hn : d.l.length ≤ 1000000) (h : K (.string (headQ d.l)) hp) : CF Try.prog 110 [ptr d.blk 0] hp K := by
  refine F110_ok _ hp K ?_
  unfold F110
  obtain ⟨h0, c, h1, h2, h3⟩ := hd
  have hc : ∀ o, hp.cell d.blk o = [Value.int .i64 d.id, .int .i64 d.due, .int .i64 d.fin, .slice (some ⟨d.rblk, 0, none⟩) d.l.length c][o]? := fun o => HP.cell_of h2
  have sh : Shows hp (some ⟨d.rblk, 0, none⟩) d.l.length 6 (d.l.flatMap pc) := .inr ⟨d.rblk, 0, rfl, by rw [HP.cellN_of h3]; exact cellsN_all (by rw [flat_len pc_len])⟩
  simp only [ptrN_some, hc, Nat.zero_add, List.getElem?_cons_succ, List.getElem?_cons_zero, ldV_some, slcV_slice]
  unfold F110_j1
  refine LoopP.by (J := fun m (y : Int) hp' => hp' = hp ∧ ∃ i : Nat, y = i ∧ i + m = d.l.length ∧ headQ d.l = headQ (d.l.drop i)) ?_ (n := d.l.length) ⟨rfl, 0, rfl, by omega, by simp⟩
  rintro I m y hp' ⟨rfl, i, rfl, him, hh⟩ hI
  unfold F110_l2
  by_cases hi : i < d.l.length
  · rw [decide_eq_true (by omega : (i : Int) < (d.l.length : Int)), ite2_true]
    obtain ⟨b, o, hao, hg⟩ := sh.get pc_len rfl hi
    have hz : splice [(Value.string ⟨#[]⟩), (Value.string ⟨#[]⟩), (Value.int .i64 0), (Value.bool false), (Value.string ⟨#[]⟩), (Value.string ⟨#[]⟩)] 0 (pc d.l[i]) = pc d.l[i] := splice_all rfl
    have k2 : (pc d.l[i])[2]? = some (.int .i64 d.l[i].at_) := rfl
    have k5 : (pc d.l[i])[5]? = some (.string d.l[i].head) := rfl
    cases hao
    simp only [ptrN_some, Int.toNat_natCast, hg, ldL_some, pc_len, pc_one, if_true, hz, k2, k5, ldV_some, intV_int, strV_string]
    refine ⟨by omega, by omega, ?_⟩
    refine ifI (Nat.le_refl _) ?_
    rw [List.drop_eq_getElem_cons hi, headQ] at hh
    by_cases h0 : d.l[i].at_ = 0
    · have e : (d.l[i].at_ == 0) = true := by simpa using h0
      rw [e, ite2_true]
      rw [if_pos h0] at hh
      rw [hh] at h; exact h
    · have e : (d.l[i].at_ == 0) = false := by simpa using h0
      have w1 : IntKind.wrap .i64 ((i : Int) + 1) = ((i + 1 : Nat) : Int) := wiN (by omega) (by omega)
      rw [e, ite2_false, w1]
      rw [if_neg h0] at hh
      exact hI (m - 1) _ _ (by omega) ⟨rfl, i + 1, rfl, by omega, hh⟩
  · rw [decide_eq_false (by omega : ¬ (i : Int) < (d.l.length : Int)), ite2_false]
    rw [List.drop_of_length_le (by omega), headQ] at hh
    rw [hh] at h; exact h
end

/-! The sort of a datagram's pieces. -/
def cfP (x y : Pc) : Int := if cmpN x.at_ y.at_ ≠ 0 then cmpN x.at_ y.at_ else cmpN x.toW y.toW
theorem cfP_lt {a b : Pc} : ltC cfP a b = true ↔ a.at_ < b.at_ ∨ (a.at_ = b.at_ ∧ a.toW < b.toW) := by
  unfold ltC cfP cmpN
  rw [decide_eq_true_iff]
  repeat' split
  all_goals omega
theorem cfP_ltf {a b : Pc} : ltC cfP a b = false ↔ ¬ (a.at_ < b.at_ ∨ (a.at_ = b.at_ ∧ a.toW < b.toW)) := by
  rw [← cfP_lt]; simp
theorem swo_cfP : Sort.SWO (ltC cfP) where
  irrefl x := by rw [cfP_ltf]; omega
  trans x y z := by simp only [cfP_lt]; omega
  ntrans x y z := by simp only [cfP_ltf]; omega

theorem C125 {x y : Pc} {hp : HP} {K : Value → HP → Prop} (h : K (.int .i64 (cfP x y)) hp) : CF Try.prog 125 [.agg ⟨pc x⟩, .agg ⟨pc y⟩] hp K := by
  refine CF.drop (F125_ok (pc x) (pc y) hp _ ?_)
  unfold F125
  have k2 : ∀ p : Pc, (pc p)[2]? = some (.int .i64 p.at_) := fun _ => rfl
  simp only [k2, ldV_some, intV_int, cellsN_all (pc_len _), ldL_some]
  refine D97 ?_
  rw [intV_int]
  refine C122 ?_
  rw [intV_int]
  refine C122 ?_
  rw [intV_int]
  refine D97 ?_
  rw [intV_int]
  intro b hb
  refine D96 (HP.set_eq ..) ?_
  rw [intV_int]
  exact ⟨hp, HSub.set_fresh hp _ hb, h⟩

theorem list_sorted {α : Type} [Inhabited α] {lt : α → α → Bool} {l : List α} {n : Nat} {d' : Array α} (hl : l.length = n) (hpm : Sort.PermIn 0 n l.toArray d') (hst : Sort.SortedIn lt 0 n d') : d'.toList.Perm l ∧ d'.toList.Pairwise (fun x y => lt y x = false) := by
  have hsz : d'.size = n := by rw [hpm.1]; simpa using hl
  refine ⟨?_, ?_⟩
  · have h3 := hpm.2.2
    have e1 : d'.extract 0 n = d' := by rw [← hsz]; simp
    have e2 : l.toArray.extract 0 n = l.toArray := by rw [← hl]; simp
    rw [e1, e2] at h3
    exact h3
  · rw [List.pairwise_iff_getElem]
    intro i j hi hj hij
    have := hst i j (Nat.zero_le _) hij (by simpa [hsz] using hj)
    rw [getElem!_pos d' j (by simpa using hj), getElem!_pos d' i (by simpa using hi)] at this
    simpa using this

/-- At most twenty pieces. -/
theorem S124 {hp : HP} {b c n : Nat} {l : List Pc} {K : Value → HP → Prop} (hb : hp b = .cells 29 (l.flatMap pc) ((c - n) * 6)) (hl : l.length = n) (hn : n < 20)
    (h : ∀ l' : List Pc, l'.Perm l → l'.Pairwise (fun x y => ltC cfP y x = false) → K (.tuple ⟨[]⟩) (hp.set b (.cells 29 (l'.flatMap pc) ((c - n) * 6)))) :
    CF Try.prog 124 [.slice (some ⟨b, 0, none⟩) n c, .func (.func 125) ⟨[]⟩ ⟨[]⟩] hp K := by
  refine F124_ok _ n c _ hp K ?_
  unfold F124
  refine F145_ok _ n c (n : Int) _ hp _ ?_
  unfold F145 F145_j1
  have hc : CmpOk Try.prog 125 [] [] hp b 29 ((c - n) * 6) pc n cfP := fun d x y K _ hK => C125 hK
  have hH : hp = HA hp b 29 ((c - n) * 6) pc l.toArray := by
    unfold HA; exact (HP.set_self hp b _ (by simpa using hb)).symm
  refine LoopP.by (J := fun m (y : Int × Int) hp' => y = (0, 20) ∧ hp' = hp) ?_ (n := 0) ⟨rfl, rfl⟩
  rintro I m ⟨y1, y2⟩ hp' ⟨e, rfl⟩ hI
  cases e
  unfold F145_l9
  simp only []
  rw [decide_eq_false (by omega : ¬ (20 : Int) ≤ (n : Int)), ite2_false]
  unfold F145_j2
  have z0 : (Value.int .i64 0) = Value.int .i64 ((0 : Nat) : Int) := rfl
  rw [z0]
  generalize hHA : HA hp' b 29 ((c - n) * 6) pc l.toArray = H at hH
  have : CF Try.prog 169 [.slice (some ⟨b, 0, none⟩) n c, .int .i64 ((0 : Nat) : Int), .int .i64 (n : Int), .func (.func 125) ⟨[]⟩ ⟨[]⟩] (HA hp' b 29 ((c - n) * 6) pc l.toArray) fun u h => F145_j3 (some ⟨b, 0, none⟩) n c n (.func (.func 125) ⟨[]⟩ ⟨[]⟩) 20 h (fun u_1 h_2 => K (.tuple ⟨[]⟩) h_2) := by
    refine S169 hc (by simpa using hl) (Nat.zero_le _) (Nat.le_refl _) (by omega) ?_
    unfold F145_j3
    refine LoopP.by (J := fun m (y : Int) hp2 => y = 20 ∧ hp2 = HA hp' b 29 ((c - n) * 6) pc (Sort.insertionSort (ltC cfP) l.toArray 0 n)) ?_ (n := 0) ⟨rfl, rfl⟩
    rintro I2 m2 y hp2 ⟨rfl, rfl⟩ hI2
    unfold F145_l4
    rw [decide_eq_false (by omega : ¬ (20 : Int) < (n : Int)), ite2_false]
    obtain ⟨i1, i2⟩ := Sort.insertionSort_holds swo_cfP l.toArray 0 n (Nat.zero_le _) (by simp [hl])
    obtain ⟨g1, g2⟩ := list_sorted hl i1 i2
    exact h _ g1 g2
  rw [hHA, ← hH] at this
  exact this
end Go.Proofs

set_option linter.unusedVariables false
set_option maxRecDepth 20000
namespace Go.Proofs
open Go Go.HL

def e0s : ByteArray := ⟨#[]⟩
/-- A datagram as it is told. -/
def wh (key head data : ByteArray) (n : Int) : List Value := [.string key, .string head, .string data, .int .i64 n]
def joinG : List Pc → ByteArray → Option ByteArray
  | [], w => some w
  | p :: l, w => if p.at_ = w.size then joinG l (w ++ p.data) else none
def wholeQ (fin : Int) (l : List Pc) : Option ByteArray := (joinG l e0s).bind fun w => if (w.size : Int) = fin then some w else none
def whO (key head : ByteArray) (n : Int) : Option ByteArray → List Value
  | some w => wh key head w n
  | none => wh e0s e0s e0s 0

theorem DgR.setl {hp : HP} {d : Dg} {l' : List Pc} {c : Nat} (hne : d.rblk ≠ d.blk) (hd : DgR hp d) (hp' : l'.Perm d.l) (hb : hp d.blk = .cells 135 [.int .i64 d.id, .int .i64 d.due, .int .i64 d.fin, .slice (some ⟨d.rblk, 0, none⟩) d.l.length c] 0) (hc : d.l.length ≤ c) :
    DgR (hp.set d.rblk (.cells 29 (l'.flatMap pc) ((c - d.l.length) * 6))) { d with l := l' } := by
  have hl := hp'.length_eq
  refine ⟨fun e => hd.1 ?_, c, by simpa [hl] using hc, ?_, ?_⟩
  · simp only at e; rw [e] at hl; exact List.eq_nil_of_length_eq_zero hl.symm
  · simp only; rw [HP.set_ne _ _ hne.symm, hl]; exact hb
  · simp only; rw [HP.set_eq, hl]

section
variable {hp : HP} {K : Value → HP → Prop} {d : Dg} {key : ByteArray}

theorem C81 (hd : DgR hp d) (hn : d.l.length < 20) (hok : ∀ p ∈ d.l, rightP p = true)
    (hneg : d.fin < 0 → K (.tuple ⟨[.agg ⟨wh e0s e0s e0s 0⟩, .bool false]⟩) hp)
    (hpos : 0 ≤ d.fin → ∀ (l' : List Pc) (x : Ent), l'.Perm d.l → l'.Pairwise (fun x y => ltC cfP y x = false) → DgR (hp.set d.rblk x) { d with l := l' } →
      K (.tuple ⟨[.agg ⟨whO key (headQ d.l) d.l.length (wholeQ d.fin l')⟩, .bool (wholeQ d.fin l').isSome]⟩) (hp.set d.rblk x)) :
    CF Try.prog 81 [ptr d.blk 0, .string key] hp K := by
  refine F81_ok _ key hp K ?_
  unfold F81
  have hd0 := hd
  obtain ⟨h0, c, h1, h2, h3⟩ := hd
  have hne : d.rblk ≠ d.blk := fun e => by rw [e, h2] at h3; cases h3
  have hc : ∀ o, hp.cell d.blk o = [Value.int .i64 d.id, .int .i64 d.due, .int .i64 d.fin, .slice (some ⟨d.rblk, 0, none⟩) d.l.length c][o]? := fun o => HP.cell_of h2
  have hz : splice [(Value.string ⟨#[]⟩), (Value.string ⟨#[]⟩), (Value.string ⟨#[]⟩), (Value.int .i64 0)] 0 [(Value.string ⟨#[]⟩), (Value.string ⟨#[]⟩), (Value.string ⟨#[]⟩), (Value.int .i64 0)] = wh e0s e0s e0s 0 := splice_all rfl
  have whl : ∀ a b c d, (wh a b c d).length = 4 := fun _ _ _ _ => rfl
  have who : ∀ a b c d, (wh a b c d).all one = true := fun _ _ _ _ => rfl
  have hz0 : [(Value.string ⟨#[]⟩), (Value.string ⟨#[]⟩), (Value.string ⟨#[]⟩), (Value.int .i64 0)] = wh e0s e0s e0s 0 := rfl
  have hsp : ∀ a b c d a' b' c' d', splice (wh a b c d) 0 (wh a' b' c' d') = wh a' b' c' d' := fun _ _ _ _ _ _ _ _ => splice_all rfl
  simp only [ptrN_some, hc, Nat.zero_add, List.getElem?_cons_succ, List.getElem?_cons_zero, ldV_some, intV_int, slcV_slice, hz0, whl, who, if_true, hsp, cellsN_all (whl _ _ _ _), ldL_some]
  by_cases hf : d.fin < 0
  · rw [decide_eq_true hf, ite2_true]
    exact ifI (Nat.le_refl _) (hneg hf)
  rw [decide_eq_false hf, ite2_false]
  -- behind the head
  have one : F81_j1 (some ⟨d.blk, 0, none⟩) (wh e0s e0s e0s 0) (wh key (headQ d.l) e0s d.l.length) hp K := by
    unfold F81_j1
    simp only [ptrN_some, hc, Nat.zero_add, List.getElem?_cons_succ, List.getElem?_cons_zero, ldV_some, slcV_slice]
    refine S124 h3 rfl hn fun l' hperm hsort => ?_
    have hK := hpos (by omega) l' _ hperm hsort (hd0.setl hne hperm h2 h1)
    generalize hh1 : hp.set d.rblk (.cells 29 (l'.flatMap pc) ((c - d.l.length) * 6)) = hp1 at hK ⊢
    have hc1 : ∀ o, hp1.cell d.blk o = [Value.int .i64 d.id, .int .i64 d.due, .int .i64 d.fin, .slice (some ⟨d.rblk, 0, none⟩) d.l.length c][o]? := fun o => by
      rw [← hh1]; exact HP.cell_of (by rw [HP.set_ne _ _ hne.symm]; exact h2)
    have hll := hperm.length_eq
    have sh : Shows hp1 (some ⟨d.rblk, 0, none⟩) d.l.length 6 (l'.flatMap pc) := .inr ⟨d.rblk, 0, rfl, by rw [← hh1, HP.cellN_of (HP.set_eq ..)]; exact cellsN_all (by rw [flat_len pc_len, hll])⟩
    simp only [ptrN_some, hc1, Nat.zero_add, List.getElem?_cons_succ, List.getElem?_cons_zero, ldV_some, slcV_slice]
    unfold F81_j3
    have hwq : wholeQ d.fin l' = (joinG l' e0s).bind fun w => if (w.size : Int) = d.fin then some w else none := rfl
    -- it is not
    have no : wholeQ d.fin l' = none → K (.tuple ⟨[.agg ⟨wh e0s e0s e0s 0⟩, .bool false]⟩) hp1 := fun e => by rw [e] at hK; exact hK
    refine LoopP.by (J := fun m (y : Int × List Value × List Value) hp' => hp' = hp1 ∧ ∃ (i : Nat) (w : ByteArray), y.1 = i ∧ i + m = d.l.length ∧ y.2.1 = wh e0s e0s e0s 0 ∧ y.2.2 = wh key (headQ d.l) w d.l.length ∧ joinG l' e0s = joinG (l'.drop i) w) ?_ (n := d.l.length)
      ⟨rfl, 0, e0s, rfl, by omega, rfl, rfl, by simp⟩
    rintro I m ⟨y, k4, k6⟩ hp' ⟨rfl, i, w, hy, him, hk4, hk6, hj⟩ hI
    simp only at hy hk4 hk6
    subst hy hk4 hk6
    unfold F81_l4
    simp only []
    have w2 : ∀ a b c d, (wh a b c d)[2]? = some (.string c) := fun _ _ _ _ => rfl
    by_cases hi : i < d.l.length
    · have hil : i < l'.length := by omega
      rw [decide_eq_true (by omega : (i : Int) < (d.l.length : Int)), ite2_true]
      obtain ⟨b, o, hao, hg⟩ := sh.get pc_len hll hi
      have hzp : splice [(Value.string ⟨#[]⟩), (Value.string ⟨#[]⟩), (Value.int .i64 0), (Value.bool false), (Value.string ⟨#[]⟩), (Value.string ⟨#[]⟩)] 0 (pc l'[i]) = pc l'[i] := splice_all rfl
      have k2 : (pc l'[i])[2]? = some (.int .i64 l'[i].at_) := rfl
      have k4 : (pc l'[i])[4]? = some (.string l'[i].data) := rfl
      cases hao
      simp only [ptrN_some, Int.toNat_natCast, hg, ldL_some, pc_len, pc_one, if_true, hzp, k2, k4, w2, ldV_some, intV_int, strV_string, hz0, whl, who, hsp, cellsN_all (whl _ _ _ _)]
      refine ⟨by omega, by omega, ?_⟩
      refine ifI (Nat.le_refl _) ?_
      rw [List.drop_eq_getElem_cons hil, joinG] at hj
      have hr := rightP_iff.1 (hok l'[i] (hperm.mem_iff.1 (List.getElem_mem hil)))
      by_cases ha : l'[i].at_ = w.size
      · have e : (l'[i].at_ != (w.size : Int)) = false := by simpa using ha
        have w1 : IntKind.wrap .i64 ((i : Int) + 1) = ((i + 1 : Nat) : Int) := wiN (by omega) (by omega)
        rw [e, ite2_false, w1]
        rw [if_pos ha] at hj
        refine ⟨by omega, ?_⟩
        rw [if_pos (by decide)]
        exact hI (m - 1) _ _ (by omega) ⟨rfl, i + 1, w ++ l'[i].data, rfl, by omega, rfl, rfl, hj⟩
      · have e : (l'[i].at_ != (w.size : Int)) = true := by simpa using ha
        rw [e, ite2_true]
        rw [if_neg ha] at hj
        refine ifI (Nat.le_refl _) (no ?_)
        rw [hwq, hj]; rfl
    · rw [decide_eq_false (by omega : ¬ (i : Int) < (d.l.length : Int)), ite2_false]
      rw [List.drop_of_length_le (by omega), joinG] at hj
      unfold F81_j2
      simp only [w2, ldV_some, strV_string, ptrN_some, hc1, Nat.zero_add, List.getElem?_cons_succ, List.getElem?_cons_zero, intV_int, hz0, whl, who, if_true, hsp, cellsN_all (whl _ _ _ _), ldL_some]
      by_cases hwf : (w.size : Int) = d.fin
      · have e : ((w.size : Int) != d.fin) = false := by simpa using hwf
        rw [e, ite2_false]
        have hq : wholeQ d.fin l' = some w := by rw [hwq, hj]; simp [hwf]
        rw [hq] at hK
        exact ifI (Nat.le_refl _) hK
      · have e : ((w.size : Int) != d.fin) = true := by simpa using hwf
        rw [e, ite2_true]
        refine ifI (Nat.le_refl _) (no ?_)
        rw [hwq, hj]; simp [hwf]
  have hz2 : ∀ (s : ByteArray) (x : Int), [Value.string key, .string s, .string ⟨#[]⟩, .int .i64 x] = wh key s e0s x := fun _ _ => rfl
  refine ⟨?_, ?_⟩
  · refine C110 hd0 (by omega) ?_
    simp only [strV_string, hz2, whl, who, if_true, hsp]
    exact ifI (Nat.le_refl _) one
  · refine C110 hd0 (by omega) ?_
    simp only [strV_string, hc, Nat.zero_add, List.getElem?_cons_succ, List.getElem?_cons_zero, ldV_some, slcV_slice, hz2, whl, who, if_true, hsp]
    exact ifI (Nat.le_refl _) one
end
end Go.Proofs

set_option linter.unusedVariables false
set_option maxRecDepth 20000
namespace Go.Proofs
open Go Go.HL

def jw (n : Int) : Value := .int .i64 n
def dv (d : Dg) : Value := .pointer (some ⟨d.blk, 0, none⟩)
theorem zeroF {P : Program} {t : TypeId} {z : Value} (h : (P.info? t).bind (·.zero) = some z) (w : World) : (zeroValue t).run P w = .ok z w := by
  cases hi : P.info? t with
  | none => rw [hi] at h; cases h
  | some i => rw [hi] at h; simp only [Option.bind_some] at h; simp [zeroValue, typeInfo, hi, h]
theorem zj : ∀ w : World, (zeroValue 3).run Try.prog w = .ok (.int .i64 0) w := zeroF (by kernel_rfl)
theorem zpt : ∀ w : World, (zeroValue 131).run Try.prog w = .ok (.pointer none) w := zeroF (by kernel_rfl)
theorem jw_get {k : ByteArray} {l : List (ByteArray × Int)} : ((getL k l).map jw).getD (.int .i64 0) = .int .i64 ((getL k l).getD 0) := by cases getL k l <;> rfl

/-- What a store has. -/
structure Stt where
  max : Int
  source : Int
  last : Int
  n : Int
  D : List (ByteArray × Dg)
  of : List (ByteArray × Int)

def stc (S : Stt) (m mo : Nat) : List Value := [.int .i64 S.max, .int .i64 S.source, .int .i64 S.last, .int .i64 S.n, .map (some m), .map (some mo)]
/-- A store in memory, beside what is known. -/
def StR (hp0 hp : HP) (q m mo : Nat) (S : Stt) : Prop :=
  HSub hp0 hp ∧ hp0 q = .none ∧ hp0 m = .none ∧ hp0 mo = .none ∧ m ≠ mo ∧ hp q = .cells 130 (stc S m mo) 0 ∧ MapE sw dv S.D (hp m) ∧ MapE sw jw S.of (hp mo) ∧
  (∀ kd ∈ S.D, DgR hp kd.2 ∧ hp0 kd.2.blk = .none ∧ hp0 kd.2.rblk = .none) ∧ (S.D.map (·.2.blk)).Nodup ∧ (S.D.map (·.2.rblk)).Nodup ∧ (S.D.map (·.1)).Nodup
/-- A step of a store, whatever is known beside it. -/
def Stp (q m mo : Nat) (hp : HP) (S : Stt) (hp' : HP) (S' : Stt) : Prop := ∀ hp0, StR hp0 hp q m mo S → StR hp0 hp' q m mo S'
theorem Stp.refl {q m mo : Nat} {hp : HP} {S : Stt} : Stp q m mo hp S hp S := fun _ h => h
theorem Stp.trans {q m mo : Nat} {a b c : HP} {A B C : Stt} (h : Stp q m mo a A b B) (k : Stp q m mo b B c C) : Stp q m mo a A c C := fun hp0 x => k hp0 (h hp0 x)

theorem mapE_obj {κ ν : Type} {ek : κ → Value} {ev : ν → Value} {l : List (κ × ν)} {e : Ent} (h : MapE ek ev l e) : ∃ o, e = .obj o := by
  obtain ⟨es, clock, he, _⟩ := h; exact ⟨_, he⟩
theorem DgR.ne {hp : HP} {d : Dg} {x : Nat} {e : Ent} (h : DgR hp d) (h1 : x ≠ d.blk) (h2 : x ≠ d.rblk) : DgR (hp.set x e) d := by
  obtain ⟨h0, c, g1, g2, g3⟩ := h
  exact ⟨h0, c, g1, by rw [HP.set_ne _ _ h1.symm]; exact g2, by rw [HP.set_ne _ _ h2.symm]; exact g3⟩
theorem DgR.ne_obj {hp : HP} {d : Dg} {x : Nat} {o : Obj} (h : DgR hp d) (hx : hp x = .obj o) : x ≠ d.blk ∧ x ≠ d.rblk := by
  obtain ⟨h0, c, g1, g2, g3⟩ := h
  exact ⟨fun e => (by rw [e, g2] at hx; cases hx), fun e => (by rw [e, g3] at hx; cases hx)⟩
theorem DgR.ne_st {hp : HP} {d : Dg} {x : Nat} {cs : List Value} (h : DgR hp d) (hx : hp x = .cells 130 cs 0) : x ≠ d.blk ∧ x ≠ d.rblk := by
  obtain ⟨h0, c, g1, g2, g3⟩ := h
  exact ⟨fun e => (by rw [e, g2] at hx; cases hx), fun e => (by rw [e, g3] at hx; cases hx)⟩

section
variable {hp0 hp : HP} {q m mo : Nat} {S : Stt} {K : Value → HP → Prop}

theorem StR.sub {hp' : HP} (h : StR hp0 hp q m mo S) (hs : HSub hp hp') : StR hp0 hp' q m mo S := by
  obtain ⟨h1, h2, h3, h4, h5, h6, h7, h8, h9, h10, h11, h12⟩ := h
  refine ⟨h1.trans hs, h2, h3, h4, h5, hs.cells h6, ?_, ?_, fun kd hk => ⟨(h9 kd hk).1.sub hs, (h9 kd hk).2⟩, h10, h11, h12⟩
  · obtain ⟨es, clock, he, r⟩ := h7; exact ⟨es, clock, hs.obj he, r⟩
  · obtain ⟨es, clock, he, r⟩ := h8; exact ⟨es, clock, hs.obj he, r⟩
theorem StR.cell (h : StR hp0 hp q m mo S) (o : Nat) : hp.cell q o = (stc S m mo)[o]? := HP.cell_of h.2.2.2.2.2.1
theorem StR.mapD (h : StR hp0 hp q m mo S) : MapE sw dv S.D (hp m) := h.2.2.2.2.2.2.1
theorem StR.mapOf (h : StR hp0 hp q m mo S) : MapE sw jw S.of (hp mo) := h.2.2.2.2.2.2.2.1
theorem StR.dg (h : StR hp0 hp q m mo S) {key : ByteArray} {d : Dg} (hg : getL key S.D = some d) : DgR hp d := (h.2.2.2.2.2.2.2.2.1 _ (getL_some_mem hg)).1

/-- The store's own cells. -/
theorem Stp.own {last n : Int} : Stp q m mo hp S (hp.set q (.cells 130 (stc { S with last := last, n := n } m mo) 0)) { S with last := last, n := n } := by
  rintro hp0 ⟨h1, h2, h3, h4, h5, h6, h7, h8, h9, h10, h11, h12⟩
  obtain ⟨o1, e1⟩ := (mapE_obj h7)
  obtain ⟨o2, e2⟩ := (mapE_obj h8)
  refine ⟨h1.up h2 _, h2, h3, h4, h5, HP.set_eq .., ?_, ?_, fun kd hk => ⟨(h9 kd hk).1.ne ((h9 kd hk).1.ne_st h6).1 ((h9 kd hk).1.ne_st h6).2, (h9 kd hk).2⟩, h10, h11, h12⟩
  · rw [HP.set_ne _ _ (fun e => by rw [e, h6] at e1; cases e1)]; exact h7
  · rw [HP.set_ne _ _ (fun e => by rw [e, h6] at e2; cases e2)]; exact h8
/-- How many of a source. -/
theorem Stp.ofs {of : List (ByteArray × Int)} {e : Ent} (he : MapE sw jw of e) : Stp q m mo hp S (hp.set mo e) { S with of := of } := by
  rintro hp0 ⟨h1, h2, h3, h4, h5, h6, h7, h8, h9, h10, h11, h12⟩
  obtain ⟨o2, e2⟩ := (mapE_obj h8)
  refine ⟨h1.up h4 _, h2, h3, h4, h5, ?_, ?_, by simp only; rw [HP.set_eq]; exact he, fun kd hk => ⟨(h9 kd hk).1.ne ((h9 kd hk).1.ne_obj e2).1 ((h9 kd hk).1.ne_obj e2).2, (h9 kd hk).2⟩, h10, h11, h12⟩
  · rw [HP.set_ne _ _ (fun e => by rw [e, e2] at h6; cases h6)]; exact h6
  · rw [HP.set_ne _ _ h5]; exact h7
/-- Fewer datagrams. -/
theorem Stp.fewer {D : List (ByteArray × Dg)} {e : Ent} (he : MapE sw dv D e) (hs : D.Sublist S.D) : Stp q m mo hp S (hp.set m e) { S with D := D } := by
  rintro hp0 ⟨h1, h2, h3, h4, h5, h6, h7, h8, h9, h10, h11, h12⟩
  obtain ⟨o1, e1⟩ := (mapE_obj h7)
  refine ⟨h1.up h3 _, h2, h3, h4, h5, ?_, by simp only; rw [HP.set_eq]; exact he, ?_, fun kd hk => ?_, (hs.map _).nodup h10, (hs.map _).nodup h11, (hs.map _).nodup h12⟩
  · rw [HP.set_ne _ _ (fun e => by rw [e, e1] at h6; cases h6)]; exact h6
  · rw [HP.set_ne _ _ h5.symm]; exact h8
  · have hk' := hs.subset hk
    exact ⟨(h9 kd hk').1.ne ((h9 kd hk').1.ne_obj e1).1 ((h9 kd hk').1.ne_obj e1).2, (h9 kd hk').2⟩

theorem del_sub {κ ν : Type} [DecidableEq κ] (k : κ) : ∀ l : List (κ × ν), (delL k l).Sublist l
  | [] => .slnil
  | p :: l => by
    unfold delL
    split
    · exact List.sublist_cons_self _ _
    · exact (del_sub k l).cons_cons _

/-- What is left of the sources' numbers, and of the pieces', when a datagram goes. -/
def cutOf : List Pc → List (ByteArray × Int) → List (ByteArray × Int)
  | [], of => of
  | p :: l, of => cutOf l (if IntKind.wrap .i64 ((getL p.src of).getD 0 - 1) = 0 then delL p.src (putL p.src (IntKind.wrap .i64 ((getL p.src of).getD 0 - 1)) of) else putL p.src (IntKind.wrap .i64 ((getL p.src of).getD 0 - 1)) of)
def cutN : Nat → Int → Int
  | 0, n => n
  | k + 1, n => cutN k (IntKind.wrap .i64 (n - 1))

theorem C79 {key : ByteArray} {d : Dg} (h : StR hp0 hp q m mo S) (hg : getL key S.D = some d) (hn : d.l.length ≤ 1000000)
    (hK : ∀ hp', Stp q m mo hp S hp' { S with n := cutN d.l.length S.n, D := delL key S.D, of := cutOf d.l S.of } → K (.tuple ⟨[]⟩) hp') :
    CF Try.prog 79 [ptr q 0, .string key] hp K := by
  refine F79_ok _ key hp K ?_
  unfold F79
  have c4 : ∀ S : Stt, (stc S m mo)[4]? = some (.map (some m)) := fun _ => rfl
  have c5 : ∀ S : Stt, (stc S m mo)[5]? = some (.map (some mo)) := fun _ => rfl
  have c3 : ∀ S : Stt, (stc S m mo)[3]? = some (.int .i64 S.n) := fun _ => rfl
  simp only [ptrN_some, h.cell, Nat.zero_add, c4, ldV_some, mapV_map]
  refine rdS_lookup u128 enc9 zpt h.mapD key ?_
  simp only [Bool.false_eq_true, if_false, hg, Option.map_some, Option.getD_some, dv, ptrV_pointer, ptrN_some, Nat.zero_add]
  obtain ⟨h0, c, h1, h2, h3⟩ := h.dg hg
  have hc : ∀ o, hp.cell d.blk o = [Value.int .i64 d.id, .int .i64 d.due, .int .i64 d.fin, .slice (some ⟨d.rblk, 0, none⟩) d.l.length c][o]? := fun o => HP.cell_of h2
  simp only [hc, List.getElem?_cons_succ, List.getElem?_cons_zero, ldV_some, slcV_slice]
  unfold F79_j2
  refine LoopP.by (J := fun k (y : Int) hp' => ∃ (i : Nat) (n' : Int) (of' : List (ByteArray × Int)), y = i ∧ i + k = d.l.length ∧ Stp q m mo hp S hp' { S with n := n', of := of' } ∧ cutN d.l.length S.n = cutN (d.l.length - i) n' ∧ cutOf d.l S.of = cutOf (d.l.drop i) of') ?_ (n := d.l.length)
    ⟨0, S.n, S.of, rfl, by omega, Stp.refl, rfl, rfl⟩
  rintro I k y hp' ⟨i, n', of', rfl, hik, hS, hcn, hco⟩ hI
  have h' := hS hp0 h
  unfold F79_l3
  by_cases hi : i < d.l.length
  · rw [decide_eq_true (by omega : (i : Int) < (d.l.length : Int)), ite2_true]
    obtain ⟨_, c', h1', h2', h3'⟩ := StR.dg h' hg
    have sh : Shows hp' (some ⟨d.rblk, 0, none⟩) d.l.length 6 (d.l.flatMap pc) := .inr ⟨d.rblk, 0, rfl, by rw [HP.cellN_of h3']; exact cellsN_all (by rw [flat_len pc_len])⟩
    obtain ⟨b, o, hao, hgp⟩ := sh.get pc_len rfl hi
    have hz : splice [(Value.string ⟨#[]⟩), (Value.string ⟨#[]⟩), (Value.int .i64 0), (Value.bool false), (Value.string ⟨#[]⟩), (Value.string ⟨#[]⟩)] 0 (pc d.l[i]) = pc d.l[i] := splice_all rfl
    have k1 : (pc d.l[i])[1]? = some (.string d.l[i].src) := rfl
    cases hao
    rw [Nat.zero_add] at hgp
    simp only [ptrN_some, Int.toNat_natCast, hgp, ldL_some, pc_len, pc_one, if_true, hz, h'.cell, Nat.zero_add, c3, ldV_some, intV_int]
    refine ⟨by omega, by omega, ?_⟩
    refine ifI (Nat.le_refl _) ?_
    refine HP.st_at h'.2.2.2.2.2.1 (by simp [stc]) ?_
    have e1 : (stc { S with n := n', of := of' } m mo).set 3 (.int .i64 (IntKind.wrap .i64 (n' - 1))) = stc { S with last := S.last, n := IntKind.wrap .i64 (n' - 1), of := of' } m mo := rfl
    rw [e1]
    have s1 := hS.trans (Stp.own (last := S.last) (n := IntKind.wrap .i64 (n' - 1)))
    have g1 := s1 hp0 h
    generalize hp'.set q (.cells 130 (stc { S with last := S.last, n := IntKind.wrap .i64 (n' - 1), of := of' } m mo) 0) = hp2 at s1 g1 ⊢
    simp only [g1.cell, c5, ldV_some, mapV_map, k1, strV_string]
    refine rdS_lookup u97 enc9 zj g1.mapOf d.l[i].src ?_
    simp only [Bool.false_eq_true, if_false, jw_get, intV_int]
    refine opS_mapUpdate u97 enc9 (ev := jw) g1.mapOf d.l[i].src (IntKind.wrap .i64 ((getL d.l[i].src of').getD 0 - 1)) ?_
    intro e he
    have s2 := s1.trans (Stp.ofs he)
    have g2 := s2 hp0 h
    generalize hp2.set mo e = hp3 at s2 g2 ⊢
    simp only [g2.cell, c5, ldV_some, mapV_map, k1, strV_string]
    refine rdS_lookup u97 enc9 zj g2.mapOf d.l[i].src ?_
    have w1 : IntKind.wrap .i64 ((i : Int) + 1) = ((i + 1 : Nat) : Int) := wiN (by omega) (by omega)
    simp only [Bool.false_eq_true, if_false, jw_get, intV_int, getL_put, if_true, Option.getD_some, Option.map_some, jw]
    have hcn2 : cutN d.l.length S.n = cutN (d.l.length - (i + 1)) (IntKind.wrap .i64 (n' - 1)) := by
      rw [hcn]
      have : d.l.length - i = (d.l.length - (i + 1)) + 1 := by omega
      rw [this]; rfl
    rw [List.drop_eq_getElem_cons hi, cutOf] at hco
    by_cases hv : IntKind.wrap .i64 ((getL d.l[i].src of').getD 0 - 1) = 0
    · have e : (IntKind.wrap .i64 ((getL d.l[i].src of').getD 0 - 1) == 0) = true := by simpa using hv
      rw [e, ite2_true]
      rw [if_pos hv] at hco
      refine opS_delete u97 enc9 g2.mapOf d.l[i].src ?_
      intro e' he'
      have s3 := s2.trans (Stp.ofs he')
      unfold F79_j4
      rw [w1]
      exact hI (k - 1) _ _ (by omega) ⟨i + 1, _, _, rfl, by omega, s3, hcn2, hco⟩
    · have e : (IntKind.wrap .i64 ((getL d.l[i].src of').getD 0 - 1) == 0) = false := by simpa using hv
      rw [e, ite2_false]
      rw [if_neg hv] at hco
      unfold F79_j4
      rw [w1]
      exact hI (k - 1) _ _ (by omega) ⟨i + 1, _, _, rfl, by omega, s2, hcn2, hco⟩
  · rw [decide_eq_false (by omega : ¬ (i : Int) < (d.l.length : Int)), ite2_false]
    have hie : i = d.l.length := by omega
    subst hie
    rw [Nat.sub_self, cutN] at hcn
    rw [List.drop_of_length_le (Nat.le_refl _), cutOf] at hco
    unfold F79_j1
    simp only [ptrN_some, h'.cell, Nat.zero_add, c4, ldV_some, mapV_map]
    refine opS_delete u128 enc9 h'.mapD key ?_
    intro e he
    refine hK _ ?_
    rw [hcn, hco]
    exact hS.trans (Stp.fewer he (del_sub key _))
end
end Go.Proofs

set_option linter.unusedVariables false
set_option maxRecDepth 20000
namespace Go.Proofs
open Go Go.HL

theorem map_inj_of_nodup {α β : Type} {f : α → β} : ∀ {l : List α} {x y : α}, (l.map f).Nodup → x ∈ l → y ∈ l → f x = f y → x = y
  | a :: l, x, y, hn, hx, hy, e => by
    rw [List.map_cons, List.nodup_cons] at hn
    rcases List.mem_cons.1 hx with h1 | h1
    · rcases List.mem_cons.1 hy with h2 | h2
      · rw [h1, h2]
      · exact absurd (List.mem_map.2 ⟨y, h2, by rw [← e, h1]⟩) hn.1
    · rcases List.mem_cons.1 hy with h2 | h2
      · exact absurd (List.mem_map.2 ⟨x, h1, by rw [e, h2]⟩) hn.1
      · exact map_inj_of_nodup hn.2 h1 h2 e

section
variable {κ ν : Type} [DecidableEq κ]
theorem mem_put {k : κ} {v : ν} : ∀ {l : List (κ × ν)} {x : κ × ν}, (l.map (·.1)).Nodup → x ∈ putL k v l → x = (k, v) ∨ (x ∈ l ∧ x.1 ≠ k)
  | [], x, _, h => by simp only [putL, List.mem_singleton] at h; exact .inl h
  | p :: l, x, hn, h => by
    rw [List.map_cons, List.nodup_cons] at hn
    by_cases hk : k = p.1
    · simp only [putL, hk, if_true, List.mem_cons] at h
      rcases h with h | h
      · exact .inl (by rw [h, hk])
      · exact .inr ⟨by simp [h], fun e => hn.1 (by rw [← hk, ← e]; exact List.mem_map.2 ⟨x, h, rfl⟩)⟩
    · simp only [putL, hk, if_false, List.mem_cons] at h
      rcases h with h | h
      · exact .inr ⟨by simp [h], by rw [h]; exact fun e => hk e.symm⟩
      · rcases mem_put hn.2 h with h | ⟨h, h'⟩
        · exact .inl h
        · exact .inr ⟨by simp [h], h'⟩
theorem nodup_put_map {β : Type} {f : ν → β} {k : κ} {v : ν} : ∀ {l : List (κ × ν)}, (l.map (·.1)).Nodup → (l.map (fun x => f x.2)).Nodup → (∀ x ∈ l, x.1 ≠ k → f x.2 ≠ f v) → ((putL k v l).map (fun x => f x.2)).Nodup
  | [], _, _, _ => by simp [putL]
  | p :: l, hk, hf, h => by
    rw [List.map_cons, List.nodup_cons] at hk hf
    by_cases hkp : k = p.1
    · simp only [putL, hkp, if_true, List.map_cons, List.nodup_cons]
      refine ⟨fun hm => ?_, hf.2⟩
      obtain ⟨x, hx, e⟩ := List.mem_map.1 hm
      exact h x (by simp [hx]) (fun e' => hk.1 (by rw [← hkp, ← e']; exact List.mem_map.2 ⟨x, hx, rfl⟩)) e
    · simp only [putL, hkp, if_false, List.map_cons, List.nodup_cons]
      refine ⟨fun hm => ?_, nodup_put_map hk.2 hf.2 fun x hx => h x (by simp [hx])⟩
      obtain ⟨x, hx, e⟩ := List.mem_map.1 hm
      rcases mem_put hk.2 hx with rfl | ⟨hx, _⟩
      · exact h p (by simp) (fun e' => hkp e'.symm) e.symm
      · exact hf.1 (by rw [← e]; exact List.mem_map.2 ⟨x, hx, rfl⟩)
theorem put_same_map {β : Type} {f : κ × ν → β} {k : κ} {v u : ν} : ∀ {l : List (κ × ν)}, getL k l = some u → f (k, v) = f (k, u) → (putL k v l).map f = l.map f
  | [], h, _ => by cases h
  | p :: l, h, e => by
    simp only [getL] at h
    by_cases hk : k = p.1
    · simp only [hk, if_true, Option.some.injEq] at h
      simp only [putL, hk, if_true, List.map_cons]
      have hp : p = (k, u) := Prod.ext hk.symm h
      rw [hp] at *
      simp only [e]
    · simp only [hk, if_false] at h
      simp only [putL, hk, if_false, List.map_cons, put_same_map h e]
end
theorem mapE_same {κ ν : Type} {ek : κ → Value} {ev : ν → Value} {l l' : List (κ × ν)} {e : Ent} (h : MapE ek ev l e) (hl : l'.map (fun p => (ek p.1, ev p.2)) = l.map (fun p => (ek p.1, ev p.2))) : MapE ek ev l' e := by
  obtain ⟨es, clock, h1, h2, h3, h4⟩ := h
  exact ⟨es, clock, h1, h2.trans hl.symm, h3, h4⟩

section
variable {hp0 hp : HP} {q m mo : Nat} {S : Stt} {K : Value → HP → Prop} {p : Pc}

/-- The store, but for one datagram, of which only where it is is known. -/
def Pre (hp0 hp : HP) (q m mo : Nat) (S : Stt) (key : ByteArray) (blk : Nat) (s : Option Addr) : Prop :=
  HSub hp0 hp ∧ hp0 q = .none ∧ hp0 m = .none ∧ hp0 mo = .none ∧ m ≠ mo ∧ hp q = .cells 130 (stc S m mo) 0 ∧ MapE sw jw S.of (hp mo) ∧
  (∀ d : Dg, d.blk = blk → MapE sw dv (putL key d S.D) (hp m)) ∧ hp0 blk = .none ∧ (∀ b, s = some ⟨b, 0, none⟩ → hp0 b = .none) ∧
  (∀ kd ∈ S.D, kd.1 ≠ key → DgR hp kd.2 ∧ hp0 kd.2.blk = .none ∧ hp0 kd.2.rblk = .none ∧ kd.2.blk ≠ blk ∧ ∀ b, s = some ⟨b, 0, none⟩ → kd.2.rblk ≠ b) ∧
  (S.D.map (·.2.blk)).Nodup ∧ (S.D.map (·.2.rblk)).Nodup ∧ (S.D.map (·.1)).Nodup

/-- What stays. -/
def Fr2 (hp hp' : HP) (blk rb : Nat) (s : Option Addr) : Prop := ∀ h0 : HP, HSub h0 hp → h0 blk = .none → (∀ b, s = some ⟨b, 0, none⟩ → h0 b = .none) → HSub h0 hp' ∧ h0 rb = .none

theorem Pre.done {hp' : HP} {key : ByteArray} {d' : Dg} {s : Option Addr} (h : Pre hp0 hp q m mo S key d'.blk s) (hb : ∃ cs, hp d'.blk = .cells 135 cs 0) (hs : ∀ b, s = some ⟨b, 0, none⟩ → ∃ cs sp, hp b = .cells 29 cs sp) (hf : Fr2 hp hp' d'.blk d'.rblk s) (hd : DgR hp' d') : StR hp0 hp' q m mo { S with D := putL key d' S.D } := by
  obtain ⟨h1, h2, h3, h4, h5, h6, h7, h8, h9, h10, h11, h12, h13, h14⟩ := h
  obtain ⟨cs, hb⟩ := hb
  have hM := h8 d' rfl
  obtain ⟨o1, e1⟩ := (mapE_obj hM)
  obtain ⟨o2, e2⟩ := (mapE_obj h7)
  obtain ⟨f1, f2⟩ := hf hp0 h1 h9 h10
  -- one block that is neither
  have keep : ∀ x e, hp x = e → e ≠ .none → x ≠ d'.blk → (∀ b, s = some ⟨b, 0, none⟩ → x ≠ b) → hp' x = e ∧ x ≠ d'.rblk := by
    intro x e hx he hxb hxs
    obtain ⟨g1, g2⟩ := hf (HP.onlyF x e) (HSub.onlyF hx) (HP.onlyF_ne _ hxb.symm) (fun b e' => HP.onlyF_ne _ (hxs b e').symm)
    refine ⟨g1.some (HP.onlyF_eq ..) he, fun e' => ?_⟩
    rw [← e', HP.onlyF_eq] at g2
    exact he g2
  have kq := keep q _ h6 (by simp) (fun e => by rw [e, hb] at h6; cases h6) (fun b e e' => by obtain ⟨c, sp, hc⟩ := hs b e; rw [e', hc] at h6; cases h6)
  have km := keep m _ e1 (by simp) (fun e => by rw [e, hb] at e1; cases e1) (fun b e e' => by obtain ⟨c, sp, hc⟩ := hs b e; rw [e', hc] at e1; cases e1)
  have kmo := keep mo _ e2 (by simp) (fun e => by rw [e, hb] at e2; cases e2) (fun b e e' => by obtain ⟨c, sp, hc⟩ := hs b e; rw [e', hc] at e2; cases e2)
  have ko : ∀ kd ∈ S.D, kd.1 ≠ key → DgR hp' kd.2 ∧ kd.2.rblk ≠ d'.rblk := by
    intro kd hkd hne
    obtain ⟨⟨g0, c, g1, g2, g3⟩, _, _, g4, g5⟩ := h11 kd hkd hne
    have kb := keep kd.2.blk _ g2 (by simp) g4 (fun b e e' => by obtain ⟨c, sp, hc⟩ := hs b e; rw [e', hc] at g2; cases g2)
    have kr := keep kd.2.rblk _ g3 (by simp) (fun e => by rw [e, hb] at g3; cases g3) (fun b e => g5 b e)
    exact ⟨⟨g0, c, g1, kb.1, kr.1⟩, kr.2⟩
  refine ⟨f1, h2, h3, h4, h5, kq.1, ?_, ?_, fun kd hkd => ?_, nodup_put_map (f := fun d : Dg => d.blk) h14 h12 fun x hx hne => (h11 x hx hne).2.2.2.1, nodup_put_map (f := fun d : Dg => d.rblk) h14 h13 fun x hx hne => (ko x hx hne).2, nodup_put h14⟩
  · simp only; rw [km.1, ← e1]; exact hM
  · simp only; rw [kmo.1, ← e2]; exact h7
  · rcases mem_put h14 hkd with rfl | ⟨hkd, hne⟩
    · exact ⟨hd, h9, f2⟩
    · obtain ⟨_, a, b, _, _⟩ := h11 kd hkd hne
      exact ⟨(ko kd hkd hne).1, a, b⟩

/-- The piece is put behind the others, and its end is known, if it is the last. -/
theorem J80 {blk : Nat} {id due fin : Int} {s : Option Addr} {n c : Nat} {l : List Pc} (hb : hp blk = .cells 135 [.int .i64 id, .int .i64 due, .int .i64 fin, .slice s n c] 0) (hr : Row hp s n c 29 6 (l.flatMap pc)) (hl : l.length = n) (hn : n ≤ 1000000)
    (hK : ∀ hp' rb, DgR hp' ⟨blk, rb, id, due, if p.more then fin else p.toW, l ++ [p]⟩ → Fr2 hp hp' blk rb s → F80_j3 (some ⟨q, 0, none⟩) (pc p) hp' K) :
    F80_j1 (some ⟨q, 0, none⟩) (some ⟨blk, 0, none⟩) (pc p) hp K := by
  have hc : ∀ hp', HSub hp hp' → ∀ o, hp'.cell blk o = [Value.int .i64 id, .int .i64 due, .int .i64 fin, .slice s n c][o]? := fun hp' hs o => HP.cell_of (hs.cells hb)
  have hz : splice [(Value.string ⟨#[]⟩), (Value.string ⟨#[]⟩), (Value.int .i64 0), (Value.bool false), (Value.string ⟨#[]⟩), (Value.string ⟨#[]⟩)] 0 (pc p) = pc p := splice_all rfl
  -- behind the append
  have tail : ∀ b, hp b = .none → opS Try.prog (Builtin.append_ #[26, 26] 26 ⟨[.slice s n c, .slice (some ⟨b, 0, none⟩) 1 1]⟩) (hp.set b (.cells 29 (pc p) 0)) fun u h => slcV u fun a n c => HP.st h blk 3 (.slice a n c) fun h => F80_j2 (some ⟨q, 0, none⟩) (some ⟨blk, 0, none⟩) (pc p) h K := by
    intro b hbn
    have sb := HSub.set_fresh hp (.cells 29 (pc p) 0) hbn
    refine opS_appF (e := 29) (size := 6) (bytes := 80) (by kernel_rfl) (hr.sub sb) (.inr ⟨b, 0, rfl, by rw [HP.cellN_of (HP.set_eq ..)]; exact cellsN_all rfl⟩) (pc_one p) (by omega) (by omega) ?_
    intro s3 c3 hp3 hrow hf
    rw [slcV_slice]
    rcases hrow with ⟨_, h0, _, _⟩ | ⟨rb, rfl, hnc, _, hrb⟩
    · omega
    have hb3 : hp3 blk = .cells 135 [.int .i64 id, .int .i64 due, .int .i64 fin, .slice s n c] 0 := by
      have := (hf (HP.onlyF blk (.cells 135 [.int .i64 id, .int .i64 due, .int .i64 fin, .slice s n c] 0)) (HSub.onlyF (sb.cells hb)) (fun b' e => by
        refine HP.onlyF_ne _ fun e' => ?_
        rcases hr with ⟨h0, _, _, _⟩ | ⟨b2, h0, _, _, h3⟩
        · rw [h0] at e; cases e
        · rw [h0] at e; cases e; rw [e', hb] at h3; cases h3)).1
      exact this.cells (HP.onlyF_eq ..)
    have hne : rb ≠ blk := fun e => by rw [e, hb3] at hrb; cases hrb
    have fr : ∀ v, Fr2 hp (hp3.set blk v) blk rb s := fun v h0 g1 g2 g3 => by
      obtain ⟨k1, k2⟩ := hf h0 (g1.trans sb) g3
      exact ⟨k1.up g2 _, k2 rb rfl⟩
    refine HP.st_at hb3 (by simp) ?_
    have hfl : l.flatMap pc ++ pc p = (l ++ [p]).flatMap pc := by simp
    rw [hfl] at hrb
    have dg : ∀ fin' : Int, DgR (hp3.set blk (.cells 135 [.int .i64 id, .int .i64 due, .int .i64 fin', .slice (some ⟨rb, 0, none⟩) (n + 1) c3] 0)) ⟨blk, rb, id, due, fin', l ++ [p]⟩ := fun fin' => by
      refine ⟨by simp, c3, by simp [hl]; exact hnc, ?_, ?_⟩
      · simp only; rw [HP.set_eq]; simp [hl]
      · simp only; rw [HP.set_ne _ _ hne, hrb]; simp [hl]
    unfold F80_j2
    have k3 : (pc p)[3]? = some (.bool p.more) := rfl
    simp only [k3, ldV_some, boolV_bool]
    cases hm : p.more
    · rw [Bool.not_false, ite2_true, cellsN_all (pc_len p), ldL_some]
      refine C122 ?_
      rw [intV_int, ptrN_some]
      refine HP.st_at (HP.set_eq ..) (by simp) ?_
      rw [HP.set_set]
      have := hK _ rb (by rw [hm]; exact dg p.toW) (fr _)
      exact this
    · rw [Bool.not_true, ite2_false]
      exact hK _ rb (by rw [hm]; exact dg fin) (fr _)
  unfold F80_j1
  refine ⟨?_, ?_⟩
  · simp only [ptrN_some, hc hp (HSub.refl _), Nat.zero_add, List.getElem?_cons_succ, List.getElem?_cons_zero, ldV_some, slcV_slice, cellsN_all (pc_len p), ldL_some, hz]
    refine ifI (pc_len p) ?_
    exact tail
  · simp only [ptrN_some, cellsN_all (pc_len p), ldL_some, hz]
    refine ifI (pc_len p) ?_
    intro b hbn
    simp only [hc _ (HSub.set_fresh hp (.cells 29 (pc p) 0) hbn), Nat.zero_add, List.getElem?_cons_succ, List.getElem?_cons_zero, ldV_some, slcV_slice]
    exact tail b hbn

/-- What the store has behind a piece. -/
def takeS (S : Stt) (p : Pc) (last : Int) (d' : Dg) : Stt :=
  { S with last := last, n := IntKind.wrap .i64 (S.n + 1), D := putL p.key d' S.D, of := putL p.src (IntKind.wrap .i64 ((getL p.src S.of).getD 0 + 1)) S.of }

theorem J80c {hp' : HP} (h : StR hp0 hp' q m mo S) (hK : ∀ hp2, Stp q m mo hp' S hp2 { S with n := IntKind.wrap .i64 (S.n + 1), of := putL p.src (IntKind.wrap .i64 ((getL p.src S.of).getD 0 + 1)) S.of } → K (.tuple ⟨[]⟩) hp2) : F80_j3 (some ⟨q, 0, none⟩) (pc p) hp' K := by
  unfold F80_j3
  have c5 : ∀ S : Stt, (stc S m mo)[5]? = some (.map (some mo)) := fun _ => rfl
  have c3 : ∀ S : Stt, (stc S m mo)[3]? = some (.int .i64 S.n) := fun _ => rfl
  have k1 : (pc p)[1]? = some (.string p.src) := rfl
  simp only [ptrN_some, h.cell, Nat.zero_add, c3, ldV_some, intV_int]
  refine HP.st_at h.2.2.2.2.2.1 (by simp [stc]) ?_
  have e1 : (stc S m mo).set 3 (.int .i64 (IntKind.wrap .i64 (S.n + 1))) = stc { S with last := S.last, n := IntKind.wrap .i64 (S.n + 1) } m mo := rfl
  rw [e1]
  have s1 : Stp q m mo hp' S _ _ := Stp.own (last := S.last) (n := IntKind.wrap .i64 (S.n + 1))
  have g1 := s1 hp0 h
  generalize hp'.set q (.cells 130 (stc { S with last := S.last, n := IntKind.wrap .i64 (S.n + 1) } m mo) 0) = hp2 at s1 g1 ⊢
  simp only [g1.cell, c5, ldV_some, mapV_map, k1, strV_string]
  refine rdS_lookup u97 enc9 zj g1.mapOf p.src ?_
  simp only [Bool.false_eq_true, if_false, jw_get, intV_int]
  refine opS_mapUpdate u97 enc9 (ev := jw) g1.mapOf p.src (IntKind.wrap .i64 ((getL p.src S.of).getD 0 + 1)) ?_
  intro e he
  exact hK _ (s1.trans (Stp.ofs he))
theorem put_map_congr {κ ν β : Type} [DecidableEq κ] {f : κ × ν → β} {k : κ} {v u : ν} (e : f (k, v) = f (k, u)) : ∀ l : List (κ × ν), (putL k v l).map f = (putL k u l).map f
  | [] => by simp only [putL, List.map_cons, List.map_nil, e]
  | p :: l => by
    by_cases hk : k = p.1
    · subst hk; simp only [putL, if_true, List.map_cons, e]
    · simp only [putL, hk, if_false, List.map_cons, put_map_congr e l]

/-- What becomes of a piece's datagram. -/
def Took (S : Stt) (p : Pc) (due last' : Int) (d' : Dg) : Prop :=
  (getL p.key S.D = none ∧ last' = IntKind.wrap .i64 (S.last + 1) ∧ d'.id = last' ∧ d'.due = due ∧ d'.fin = (if p.more then -1 else p.toW) ∧ d'.l = [p]) ∨
  ∃ d, getL p.key S.D = some d ∧ last' = S.last ∧ d'.id = d.id ∧ d'.due = d.due ∧ d'.fin = (if p.more then d.fin else p.toW) ∧ d'.l = d.l ++ [p]

theorem C80 {due : Int} (h : StR hp0 hp q m mo S) (hlen : ∀ d, getL p.key S.D = some d → d.l.length ≤ 100000)
    (hK : ∀ hp' d' last', Took S p due last' d' → Stp q m mo hp S hp' (takeS S p last' d') → K (.tuple ⟨[]⟩) hp') : CF Try.prog 80 [ptr q 0, .agg ⟨pc p⟩, .int .i64 due] hp K := by
  refine F80_ok _ (pc p) due hp K ?_
  unfold F80
  have c4 : ∀ S : Stt, (stc S m mo)[4]? = some (.map (some m)) := fun _ => rfl
  have c2 : ∀ S : Stt, (stc S m mo)[2]? = some (.int .i64 S.last) := fun _ => rfl
  have k0 : (pc p)[0]? = some (.string p.key) := rfl
  simp only [ptrN_some, h.cell, Nat.zero_add, c4, k0, ldV_some, mapV_map, strV_string]
  refine rdS_lookup u128 enc9 zpt h.mapD p.key ?_
  simp only [if_true, tup2V_mk, boolV_bool]
  cases hg : getL p.key S.D with
  | none =>
    simp only [Option.map_none, Option.getD_none, Option.isSome_none, ptrV_pointer, boolV_bool, Bool.not_false, ite2_true, ptrN_some, h.cell, Nat.zero_add, c2, ldV_some, intV_int]
    refine HP.st_at h.2.2.2.2.2.1 (by simp [stc]) ?_
    have e1 : (stc S m mo).set 2 (.int .i64 (IntKind.wrap .i64 (S.last + 1))) = stc { S with last := IntKind.wrap .i64 (S.last + 1), n := S.n } m mo := rfl
    rw [e1]
    have s1 : Stp q m mo hp S _ _ := Stp.own (last := IntKind.wrap .i64 (S.last + 1)) (n := S.n)
    have g1 := s1 hp0 h
    generalize hp.set q (.cells 130 (stc { S with last := IntKind.wrap .i64 (S.last + 1), n := S.n } m mo) 0) = hp1 at s1 g1 ⊢
    simp only [ptrN_some, g1.cell, c2, ldV_some, intV_int]
    intro b hb
    have sb := HSub.set_fresh hp1 (.cells 135 [.int .i64 (IntKind.wrap .i64 (S.last + 1)), .int .i64 due, .int .i64 (-1), .slice none 0 0] 0) hb
    have g2 := g1.sub sb
    simp only [ptrN_some, g2.cell, c4, ldV_some, mapV_map, k0, strV_string]
    refine opS_mapUpdate u128 enc9 (ev := dv) g2.mapD p.key ⟨b, b, 0, 0, 0, []⟩ ?_
    intro e he
    obtain ⟨o1, ho1⟩ := (mapE_obj g1.mapD)
    have hbm : b ≠ m := fun e' => by rw [e', ho1] at hb; cases hb
    have hb3 : ((hp1.set b (.cells 135 [.int .i64 (IntKind.wrap .i64 (S.last + 1)), .int .i64 due, .int .i64 (-1), .slice none 0 0] 0)).set m e) b = .cells 135 [.int .i64 (IntKind.wrap .i64 (S.last + 1)), .int .i64 due, .int .i64 (-1), .slice none 0 0] 0 := by
      rw [HP.set_ne _ _ hbm, HP.set_eq]
    refine J80 hb3 (l := []) (.inl ⟨rfl, rfl, rfl, rfl⟩) rfl (by omega) ?_
    intro hp4 rb hd4 hf4
    have st : ∀ hp0', StR hp0' hp q m mo S → StR hp0' hp4 q m mo { S with last := IntKind.wrap .i64 (S.last + 1), n := S.n, D := putL p.key ⟨b, rb, IntKind.wrap .i64 (S.last + 1), due, if p.more then -1 else p.toW, [] ++ [p]⟩ S.D } := by
      intro hp0' x
      have x1 := s1 hp0' x
      have x2 := x1.sub sb
      obtain ⟨a1, a2, a3, a4, a5, a6, a7, a8, a9, a10, a11, a12⟩ := x2
      have hb0 : hp0' b = .none := x1.1.none hb
      obtain ⟨oo, ho⟩ := (mapE_obj a8)
      refine Pre.done (s := none) ⟨a1.up a3 e, a2, a3, a4, a5, ?_, ?_, ?_, hb0, (fun b e => by cases e), ?_, a10, a11, a12⟩ ⟨_, hb3⟩ (fun b e => by cases e) hf4 hd4
      · rw [HP.set_ne _ _ (fun e' => by rw [e'] at a6; obtain ⟨o, ho⟩ := (mapE_obj a7); rw [ho] at a6; cases a6)]; exact a6
      · rw [HP.set_ne _ _ a5.symm]; exact a8
      · intro d hdb
        rw [HP.set_eq]
        exact mapE_same he (put_map_congr (by simp only [dv, hdb]) _)
      · intro kd hkd _
        obtain ⟨o, ho⟩ := (mapE_obj a7)
        obtain ⟨y1, y2, y3⟩ := a9 kd hkd
        refine ⟨y1.ne (y1.ne_obj ho).1 (y1.ne_obj ho).2, y2, y3, fun e' => ?_, fun b e => by cases e⟩
        obtain ⟨_, _, _, z, _⟩ := (x1.2.2.2.2.2.2.2.2.1 kd hkd).1
        rw [e', hb] at z; cases z
    have g4 := st hp0 h
    refine J80c g4 fun hp5 s5 => ?_
    exact hK hp5 ⟨b, rb, IntKind.wrap .i64 (S.last + 1), due, if p.more then -1 else p.toW, [p]⟩ (IntKind.wrap .i64 (S.last + 1)) (.inl ⟨hg, rfl, rfl, rfl, rfl, rfl⟩) fun hp0' x => s5 hp0' (st hp0' x)
  | some d =>
    simp only [Option.map_some, Option.getD_some, Option.isSome_some, dv, ptrV_pointer, boolV_bool, Bool.not_true, ite2_false]
    obtain ⟨h0, c, h1, h2, h3⟩ := h.dg hg
    have hr : Row hp (some ⟨d.rblk, 0, none⟩) d.l.length c 29 6 (d.l.flatMap pc) := .inr ⟨d.rblk, rfl, h1, flat_len pc_len _, h3⟩
    refine J80 h2 hr rfl (by have := hlen d hg; omega) ?_
    intro hp4 rb hd4 hf4
    have st : ∀ hp0', StR hp0' hp q m mo S → StR hp0' hp4 q m mo { S with D := putL p.key ⟨d.blk, rb, d.id, d.due, if p.more then d.fin else p.toW, d.l ++ [p]⟩ S.D } := by
      rintro hp0' ⟨a1, a2, a3, a4, a5, a6, a7, a8, a9, a10, a11, a12⟩
      obtain ⟨y1, y2, y3⟩ := a9 _ (getL_some_mem hg)
      refine Pre.done (s := some ⟨d.rblk, 0, none⟩) ⟨a1, a2, a3, a4, a5, a6, a8, ?_, y2, (fun b e => by cases e; exact y3), ?_, a10, a11, a12⟩ ⟨_, h2⟩ (fun b e => by cases e; exact ⟨_, _, h3⟩) hf4 hd4
      · intro d2 hdb
        exact mapE_same a7 (put_same_map hg (by simp only [dv, hdb]))
      · intro kd hkd hne
        obtain ⟨z1, z2, z3⟩ := a9 kd hkd
        refine ⟨z1, z2, z3, fun e => hne ?_, fun b e e' => hne ?_⟩
        · have := map_inj_of_nodup (f := fun x : ByteArray × Dg => x.2.blk) a10 hkd (getL_some_mem hg) e
          rw [this]
        · cases e
          have := map_inj_of_nodup (f := fun x : ByteArray × Dg => x.2.rblk) a11 hkd (getL_some_mem hg) e'
          rw [this]
    have g4 := st hp0 h
    refine J80c g4 fun hp5 s5 => ?_
    exact hK hp5 ⟨d.blk, rb, d.id, d.due, if p.more then d.fin else p.toW, d.l ++ [p]⟩ S.last (.inr ⟨d, hg, rfl, rfl, rfl, rfl, rfl⟩) fun hp0' x => s5 hp0' (st hp0' x)
end
end Go.Proofs

set_option linter.unusedVariables false
set_option maxRecDepth 20000
namespace Go.Proofs
open Go Go.HL

def zeroW : List Value := wh e0s e0s e0s 0
def cutS (S : Stt) (key : ByteArray) (d : Dg) : Stt := { S with n := cutN d.l.length S.n, D := delL key S.D, of := cutOf d.l S.of }
def setS (S : Stt) (key : ByteArray) (d : Dg) : Stt := { S with D := putL key d S.D }
def okDue (due : Int) : Prop := 0 ≤ due ∧ due ≤ 4611686018427387904
/-- There is room for it in its datagram, or it begins one. -/
def Room (S : Stt) (p : Pc) : Prop := match getL p.key S.D with
  | none => ¬ (p.at_ = 0 ∧ p.more = false)
  | some d => d.l.any (sameP p) = false ∧ fitsQ d.fin d.l p = true

/-- What comes of a piece. -/
inductive PutR (S : Stt) (p : Pc) (due : Int) : List Value → Bool → Int → Stt → Prop
  | arg : ¬ okDue due → PutR S p due zeroW false 1 S
  | form : okDue due → rightP p = false → PutR S p due zeroW false 8 S
  | again (d : Dg) : okDue due → rightP p = true → getL p.key S.D = some d → d.l.any (sameP p) = true → PutR S p due zeroW false 0 S
  | clash (d : Dg) : okDue due → rightP p = true → getL p.key S.D = some d → d.l.any (sameP p) = false → fitsQ d.fin d.l p = false → PutR S p due zeroW false 5 (cutS S p.key d)
  | alone : okDue due → rightP p = true → getL p.key S.D = none → p.at_ = 0 → p.more = false → PutR S p due (wh p.key p.head p.data 1) true 0 S
  | full : okDue due → rightP p = true → Room S p → S.n ≥ S.max → PutR S p due zeroW false 6 S
  | state : okDue due → rightP p = true → Room S p → S.n < S.max → (getL p.src S.of).getD 0 ≥ S.source → PutR S p due zeroW false 11 S
  | part (d' : Dg) (last' : Int) : okDue due → rightP p = true → Room S p → S.n < S.max → (getL p.src S.of).getD 0 < S.source → Took S p due last' d' → d'.fin < 0 → PutR S p due zeroW false 0 (takeS S p last' d')
  | none (d' : Dg) (last' : Int) (l' : List Pc) : okDue due → rightP p = true → Room S p → S.n < S.max → (getL p.src S.of).getD 0 < S.source → Took S p due last' d' → 0 ≤ d'.fin →
      l'.Perm d'.l → l'.Pairwise (fun x y => ltC cfP y x = false) → wholeQ d'.fin l' = Option.none → PutR S p due zeroW false 0 (setS (takeS S p last' d') p.key { d' with l := l' })
  | whole (d' : Dg) (last' : Int) (l' : List Pc) (w : ByteArray) : okDue due → rightP p = true → Room S p → S.n < S.max → (getL p.src S.of).getD 0 < S.source → Took S p due last' d' → 0 ≤ d'.fin →
      l'.Perm d'.l → l'.Pairwise (fun x y => ltC cfP y x = false) → wholeQ d'.fin l' = some w →
      PutR S p due (wh p.key (headQ d'.l) w d'.l.length) true 0 (cutS (setS (takeS S p last' d') p.key { d' with l := l' }) p.key { d' with l := l' })

section
variable {hp0 hp : HP} {q m mo : Nat} {S : Stt} {K : Value → HP → Prop} {p : Pc}

theorem C75 (h : StR hp0 hp q m mo S) (hK : K (.bool false) hp) : CF Try.prog 75 [ptr q 0] hp K := by
  refine F75_ok _ hp K ?_
  unfold F75
  have c4 : (stc S m mo)[4]? = some (.map (some m)) := rfl
  simp only [Option.isNone_some, ite2_false, ptrN_some, h.cell, Nat.zero_add, c4, ldV_some, mapV_map]
  exact hK
theorem C75n {hp : HP} {K : Value → HP → Prop} (hK : K (.bool true) hp) : CF Try.prog 75 [.pointer none] hp K := by
  refine F75_ok _ hp K ?_
  unfold F75
  simpa using hK
theorem C27 (h : StR hp0 hp q m mo S) (hK : K (.int .i64 S.n) hp) : CF Try.prog 27 [ptr q 0] hp K := by
  refine F27_ok _ hp K ?_
  unfold F27
  refine C75 h ?_
  have c3 : (stc S m mo)[3]? = some (.int .i64 S.n) := rfl
  simp only [boolV_bool, ite2_false, ptrN_some, h.cell, Nat.zero_add, c3, ldV_some, intV_int]
  exact hK

theorem C25 {max source : Int} (hbad : ¬ (1 ≤ max ∧ max ≤ 65536 ∧ 1 ≤ source ∧ source ≤ 65536) → K (.tuple ⟨[.pointer none, .int .i64 1]⟩) hp)
    (hok : 1 ≤ max ∧ max ≤ 65536 ∧ 1 ≤ source ∧ source ≤ 65536 → ∀ (q m mo : Nat) (hp' : HP), (∀ hp0, HSub hp0 hp → StR hp0 hp' q m mo ⟨max, source, 0, 0, [], []⟩) → K (.tuple ⟨[ptr q 0, .int .i64 0]⟩) hp') :
    CF Try.prog 25 [.int .i64 max, .int .i64 source] hp K := by
  refine F25_ok max source hp K ?_
  unfold F25
  have bad : ¬ (1 ≤ max ∧ max ≤ 65536 ∧ 1 ≤ source ∧ source ≤ 65536) → F25_j1 max source true hp K := fun h => by
    unfold F25_j1; rw [ite2_true]; exact hbad h
  by_cases h1 : max < 1
  · rw [decide_eq_true h1, ite2_true]; exact bad (by omega)
  rw [decide_eq_false h1, ite2_false]
  by_cases h2 : max > 65536
  · rw [decide_eq_true h2, ite2_true]; exact bad (by omega)
  rw [decide_eq_false h2, ite2_false]
  by_cases h3 : source < 1
  · rw [decide_eq_true h3, ite2_true]; exact bad (by omega)
  rw [decide_eq_false h3, ite2_false]
  by_cases h4 : source > 65536
  · rw [decide_eq_true h4]; exact bad (by omega)
  rw [decide_eq_false h4]
  unfold F25_j1
  rw [ite2_false]
  intro b1 hb1 b2 hb2 b3 hb3
  have n21 : b2 ≠ b1 := fun e => by rw [e, HP.set_eq] at hb2; cases hb2
  have n32 : b3 ≠ b2 := fun e => by rw [e, HP.set_eq] at hb3; cases hb3
  have n31 : b3 ≠ b1 := fun e => by rw [e, HP.set_ne _ _ n21.symm, HP.set_eq] at hb3; cases hb3
  have f2 : hp b2 = .none := by rw [HP.set_ne _ _ n21] at hb2; exact hb2
  have f3 : hp b3 = .none := by rw [HP.set_ne _ _ n32, HP.set_ne _ _ n31] at hb3; exact hb3
  refine hok ⟨by omega, by omega, by omega, by omega⟩ b3 b1 b2 _ fun hp0 hs => ?_
  refine ⟨((hs.up (hs.none hb1) _).up (hs.none f2) _).up (hs.none f3) _, hs.none f3, hs.none hb1, hs.none f2, n21.symm, HP.set_eq .., ?_, ?_, (fun kd h => by cases h), .nil, .nil, .nil⟩
  · rw [HP.set_ne _ _ n31.symm, HP.set_ne _ _ n21.symm, HP.set_eq]; exact MapE.empty _ _
  · rw [HP.set_ne _ _ n32.symm, HP.set_eq]; exact MapE.empty _ _

theorem pre_of {key : ByteArray} {d : Dg} (h : StR hp0 hp q m mo S) (hg : getL key S.D = some d) : Pre hp0 hp q m mo S key d.blk (some ⟨d.rblk, 0, none⟩) := by
  obtain ⟨a1, a2, a3, a4, a5, a6, a7, a8, a9, a10, a11, a12⟩ := h
  obtain ⟨y1, y2, y3⟩ := a9 _ (getL_some_mem hg)
  refine ⟨a1, a2, a3, a4, a5, a6, a8, ?_, y2, (fun b e => by cases e; exact y3), ?_, a10, a11, a12⟩
  · intro d2 hdb
    exact mapE_same a7 (put_same_map hg (by simp only [dv, hdb]))
  · intro kd hkd hne
    obtain ⟨z1, z2, z3⟩ := a9 kd hkd
    refine ⟨z1, z2, z3, fun e => hne ?_, fun b e e' => hne ?_⟩
    · have := map_inj_of_nodup (f := fun x : ByteArray × Dg => x.2.blk) a10 hkd (getL_some_mem hg) e
      rw [this]
    · cases e
      have := map_inj_of_nodup (f := fun x : ByteArray × Dg => x.2.rblk) a11 hkd (getL_some_mem hg) e'
      rw [this]

/-- A datagram's pieces in another order. -/
theorem Stp.order {key : ByteArray} {d : Dg} {l' : List Pc} {x : Ent} (hg : getL key S.D = some d) (hd : DgR hp d) (hd' : DgR (hp.set d.rblk x) { d with l := l' }) : Stp q m mo hp S (hp.set d.rblk x) (setS S key { d with l := l' }) := by
  intro hp0 h
  obtain ⟨h0, c, h1, h2, h3⟩ := hd
  exact Pre.done (d' := { d with l := l' }) (pre_of (d := d) h hg) ⟨_, h2⟩ (fun b e => by cases e; exact ⟨_, _, h3⟩) (fun h0 g1 g2 g3 => ⟨g1.up (g3 _ rfl) _, g3 _ rfl⟩) hd'

theorem C26 {due : Int} (h : StR hp0 hp q m mo S) (hok : okP p) (hlen : ∀ d, getL p.key S.D = some d → d.l.length < 19) (hri : ∀ d, getL p.key S.D = some d → ∀ x ∈ d.l, rightP x = true)
    (hK : ∀ hp' w b e S', PutR S p due w b e S' → Stp q m mo hp S hp' S' → K (.tuple ⟨[.agg ⟨w⟩, .bool b, .int .i64 e]⟩) hp') :
    CF Try.prog 26 [ptr q 0, .agg ⟨pc p⟩, .int .i64 due] hp K := by
  refine F26_ok _ (pc p) due hp K ?_
  unfold F26
  refine C75 h ?_
  rw [boolV_bool, ite2_false]
  have hz0 : [(Value.string ⟨#[]⟩), (Value.string ⟨#[]⟩), (Value.string ⟨#[]⟩), (Value.int .i64 0)] = wh e0s e0s e0s 0 := rfl
  have whl : ∀ a b c d, (wh a b c d).length = 4 := fun _ _ _ _ => rfl
  have who : ∀ a b c d, (wh a b c d).all one = true := fun _ _ _ _ => rfl
  have hsp : ∀ a b c d a' b' c' d', splice (wh a b c d) 0 (wh a' b' c' d') = wh a' b' c' d' := fun _ _ _ _ _ _ _ _ => splice_all rfl
  have whc : ∀ a b c d, cellsN (wh a b c d) 0 4 = some (wh a b c d) := fun a b c d => cellsN_all (whl a b c d)
  have k0 : (pc p)[0]? = some (.string p.key) := rfl
  have k1 : (pc p)[1]? = some (.string p.src) := rfl
  have k2 : (pc p)[2]? = some (.int .i64 p.at_) := rfl
  have k3 : (pc p)[3]? = some (.bool p.more) := rfl
  have k4 : (pc p)[4]? = some (.string p.data) := rfl
  have k5 : (pc p)[5]? = some (.string p.head) := rfl
  have kN : cellsN (pc p) 0 6 = some (pc p) := cellsN_all (pc_len p)
  have c0 : ∀ S : Stt, (stc S m mo)[0]? = some (.int .i64 S.max) := fun _ => rfl
  have c1 : ∀ S : Stt, (stc S m mo)[1]? = some (.int .i64 S.source) := fun _ => rfl
  have c3 : ∀ S : Stt, (stc S m mo)[3]? = some (.int .i64 S.n) := fun _ => rfl
  have c4 : ∀ S : Stt, (stc S m mo)[4]? = some (.map (some m)) := fun _ => rfl
  have c5 : ∀ S : Stt, (stc S m mo)[5]? = some (.map (some mo)) := fun _ => rfl
  have bad : ¬ okDue due → F26_j1 (some ⟨q, 0, none⟩) due true (pc p) [(Value.string ⟨#[]⟩), (Value.string ⟨#[]⟩), (Value.string ⟨#[]⟩), (Value.int .i64 0)] hp K := by
    intro hd
    unfold F26_j1
    simp only [ite2_true, hz0, whl, who, if_true, hsp, whc, ldL_some]
    exact ifI (Nat.le_refl _) (hK _ _ _ _ _ (.arg hd) Stp.refl)
  by_cases hd1 : due < 0
  · rw [decide_eq_true hd1, ite2_true]; exact bad (by unfold okDue; omega)
  rw [decide_eq_false hd1, ite2_false]
  by_cases hd2 : due > 4611686018427387904
  · rw [decide_eq_true hd2]; exact bad (by unfold okDue; omega)
  rw [decide_eq_false hd2]
  have hod : okDue due := ⟨by omega, by omega⟩
  unfold F26_j1
  rw [ite2_false, kN, ldL_some]
  refine C67 hok ?_
  rw [boolV_bool]
  cases hrp : rightP p
  · simp only [Bool.not_false, ite2_true, hz0, whl, who, if_true, hsp, whc, ldL_some]
    exact ifI (Nat.le_refl _) (hK _ _ _ _ _ (.form hod hrp) Stp.refl)
  rw [Bool.not_true, ite2_false]
  simp only [ptrN_some, h.cell, Nat.zero_add, c4, k0, ldV_some, mapV_map, strV_string]
  refine rdS_lookup u128 enc9 zpt h.mapD p.key ?_
  simp only [if_true, tup2V_mk, boolV_bool]
  -- there is room
  have four : Room S p → F26_j4 (some ⟨q, 0, none⟩) due false (pc p) (wh e0s e0s e0s 0) hp K := by
    intro hroom
    unfold F26_j4
    simp only [ite2_false, ptrN_some, h.cell, Nat.zero_add, c3, c0, ldV_some, intV_int, hz0, whl, who, if_true, hsp, whc, ldL_some, Nat.le_refl]
    by_cases hf : S.n ≥ S.max
    · rw [decide_eq_true hf, ite2_true]
      exact hK _ _ _ _ _ (.full hod hrp hroom hf) Stp.refl
    rw [decide_eq_false hf, ite2_false]
    simp only [c5, c1, k1, ldV_some, mapV_map, strV_string]
    refine rdS_lookup u97 enc9 zj h.mapOf p.src ?_
    simp only [Bool.false_eq_true, if_false, jw_get, intV_int]
    by_cases hs : (getL p.src S.of).getD 0 ≥ S.source
    · rw [decide_eq_true hs, ite2_true]
      exact hK _ _ _ _ _ (.state hod hrp hroom (by omega) hs) Stp.refl
    rw [decide_eq_false hs, ite2_false, kN, ldL_some]
    refine C80 h (fun d hg => by have := hlen d hg; omega) ?_
    intro hp1 d' last' htook s1
    have g1 := s1 hp0 h
    have hg1 : getL p.key (takeS S p last' d').D = some d' := by
      unfold takeS; simp only [getL_put, if_true]
    have hll : d'.l.length < 20 := by
      rcases htook with ⟨_, _, _, _, _, e⟩ | ⟨d, hg, _, _, _, _, e⟩
      · rw [e]; simp
      · rw [e, List.length_append]; have := hlen d hg; simp only [List.length_cons, List.length_nil]; omega
    have hrr : ∀ x ∈ d'.l, rightP x = true := by
      rcases htook with ⟨_, _, _, _, _, e⟩ | ⟨d, hg, _, _, _, _, e⟩
      · rw [e]; intro x hx; rw [List.mem_singleton] at hx; rw [hx]; exact hrp
      · rw [e]; intro x hx
        rw [List.mem_append, List.mem_singleton] at hx
        rcases hx with hx | hx
        · exact hri d hg x hx
        · rw [hx]; exact hrp
    simp only [ptrN_some, g1.cell, Nat.zero_add, c4, k0, ldV_some, mapV_map, strV_string]
    refine rdS_lookup u128 enc9 zpt g1.mapD p.key ?_
    simp only [Bool.false_eq_true, if_false, hg1, Option.map_some, Option.getD_some, dv, ptrV_pointer]
    refine C81 (g1.dg hg1) hll hrr ?_ ?_
    · intro hneg
      simp only [tup2V_mk, aggV_agg, boolV_bool, whl, who, if_true, hsp, Nat.zero_add, Nat.le_refl, ite2_false]
      unfold F26_j5
      simp only [whl, who, if_true, hsp, whc, ldL_some, Nat.zero_add, Nat.le_refl]
      exact hK _ _ _ _ _ (.part d' last' hod hrp hroom (by omega) (by omega) htook hneg) s1
    · intro hpos l' x hperm hsort hd2
      have s2 := s1.trans (Stp.order hg1 (g1.dg hg1) hd2)
      generalize hp1.set d'.rblk x = hp2 at s2 hd2 ⊢
      cases hw : wholeQ d'.fin l' with
      | none =>
        simp only [whO, Option.isSome_none, tup2V_mk, aggV_agg, boolV_bool, whl, who, if_true, hsp, Nat.zero_add, Nat.le_refl, ite2_false]
        unfold F26_j5
        simp only [whl, who, if_true, hsp, whc, ldL_some, Nat.zero_add, Nat.le_refl]
        exact hK _ _ _ _ _ (.none d' last' l' hod hrp hroom (by omega) (by omega) htook hpos hperm hsort hw) s2
      | some w =>
        simp only [whO, Option.isSome_some, tup2V_mk, aggV_agg, boolV_bool, whl, who, if_true, hsp, Nat.zero_add, Nat.le_refl, ite2_true, k0, ldV_some, strV_string]
        have g2 := s2 hp0 h
        have hg2 : getL p.key (setS (takeS S p last' d') p.key { d' with l := l' }).D = some { d' with l := l' } := by
          unfold setS; simp only [getL_put, if_true]
        refine C79 g2 hg2 (by simp only; rw [hperm.length_eq]; omega) ?_
        intro hp3 s3
        unfold F26_j5
        simp only [whl, who, if_true, hsp, whc, ldL_some, Nat.zero_add, Nat.le_refl]
        exact hK _ _ _ _ _ (.whole d' last' l' w hod hrp hroom (by omega) (by omega) htook hpos hperm hsort hw) (s2.trans s3)
  cases hg : getL p.key S.D with
  | none =>
    simp only [Option.map_none, Option.getD_none, Option.isSome_none, ptrV_pointer, boolV_bool, ite2_false, hz0]
    unfold F26_j2
    simp only [ite2_false]
    unfold F26_j3
    simp only [ite2_false, Bool.not_false, ite2_true, k2, k3, ldV_some, intV_int, boolV_bool]
    by_cases ha : p.at_ = 0
    · have e : (p.at_ == 0) = true := by simpa using ha
      rw [e, ite2_true]
      cases hm : p.more
      · rw [Bool.not_false]
        unfold F26_j4
        have hl3 : [Value.string p.key, .string p.head, .string p.data, .int .i64 1] = wh p.key p.head p.data 1 := rfl
        simp only [ite2_true, k0, k4, k5, ldV_some, strV_string, hl3, whl, who, if_true, hsp, whc, ldL_some, Nat.zero_add, Nat.le_refl]
        exact hK _ _ _ _ _ (.alone hod hrp hg ha hm) Stp.refl
      · rw [Bool.not_true]
        exact four (by unfold Room; rw [hg]; simp [hm])
    · have e : (p.at_ == 0) = false := by simpa using ha
      rw [e, ite2_false]
      exact four (by unfold Room; rw [hg]; simp [ha])
  | some d =>
    simp only [Option.map_some, Option.getD_some, Option.isSome_some, dv, ptrV_pointer, boolV_bool, ite2_true, ptrN_some, Nat.zero_add, hz0]
    have hdg := h.dg hg
    have hl19 := hlen d hg
    obtain ⟨h0, c, h1, h2, h3⟩ := hdg
    have hc : ∀ o, hp.cell d.blk o = [Value.int .i64 d.id, .int .i64 d.due, .int .i64 d.fin, .slice (some ⟨d.rblk, 0, none⟩) d.l.length c][o]? := fun o => HP.cell_of h2
    have sh : Shows hp (some ⟨d.rblk, 0, none⟩) d.l.length 6 (d.l.flatMap pc) := .inr ⟨d.rblk, 0, rfl, by rw [HP.cellN_of h3]; exact cellsN_all (by rw [flat_len pc_len])⟩
    simp only [hc, List.getElem?_cons_succ, List.getElem?_cons_zero, ldV_some, slcV_slice, kN, ldL_some]
    refine C76 (g := sameP p) sh rfl (by omega) (fun x _ K' hK' => C77 hK') ?_
    rw [boolV_bool]
    unfold F26_j2
    cases hany : d.l.any (sameP p)
    rotate_left
    · simp only [ite2_true, hz0, whl, who, if_true, hsp, whc, ldL_some, Nat.zero_add, Nat.le_refl]
      exact hK _ _ _ _ _ (.again d hod hrp hg hany) Stp.refl
    simp only [ite2_false, ite2_true, kN, ldL_some]
    refine C78 (h.dg hg) (by omega) ?_
    rw [boolV_bool]
    unfold F26_j3
    cases hfit : fitsQ d.fin d.l p
    · simp only [Bool.not_false, ite2_true, k0, ldV_some, strV_string]
      refine C79 h hg (by omega) ?_
      intro hp3 s3
      simp only [hz0, whl, who, if_true, hsp, whc, ldL_some, Nat.zero_add, Nat.le_refl]
      exact hK _ _ _ _ _ (.clash d hod hrp hg hany hfit) s3
    · simp only [Bool.not_true, ite2_false]
      exact four (by unfold Room; rw [hg]; exact ⟨hany, hfit⟩)
end
end Go.Proofs

set_option linter.unusedVariables false
set_option maxRecDepth 20000
namespace Go.Proofs
open Go Go.HL
-- 22 interpreter/interpreterlaw16.wakes
section
variable (e : Env) (x1 : Option Addr) (x2 : Int) (x4 : Bool) (x5 : Int) (x7 : Bool) (x8 : Int) (x10 : Bool) (x11 : Int) (k9 : List Value) (hp : HP) (K : Env → PV → HP → Prop)
abbrev R22 (p : List Nat) (n : Nat) := RW Try.prog 79 [3, 6, 9, 65, 70] (opsAt Try.f22 p) (List.range n)
theorem F22_r0 : R22 [0] 1 e V0 hp K =
    (K (upd e 0 (sB false)) V0 hp) := by kernel_rfl
theorem F22_r1 : R22 [1, 0] 6 e V0 hp K =
    (CF Try.prog 25 [(.int .i64 4), (.int .i64 3)] hp fun u1 h2 => (tup2V u1 fun u3 u4 => (ptrV u3 fun p5 => (intV u4 .i64 fun i6 => (K (upd (upd (upd (upd (upd (upd e 13 (sV (.tuple ⟨[(.pointer p5), (.int .i64 i6)]⟩))) 12 (sV (.tuple ⟨[(.pointer p5), (.int .i64 i6)]⟩))) 14 (sP p5)) 15 (sI i6)) 1 (sP p5)) 2 (sI i6)) V0 h2))))) := by kernel_rfl
theorem F22_r2 : R22 [1, 1, 0, 1, 0, 0] 1 e V0 hp K =
    (K (upd e 0 (sB false)) V0 hp) := by kernel_rfl
theorem F22_r3 : R22 [1, 1, 1, 0] 11 (upd e 1 (sP x1)) V0 hp K =
    (CF Try.prog 72 [(.int .i64 8), .bool false, (.string (⟨#[97, 98]⟩ : ByteArray))] hp fun u1 h2 => (aggV u1 fun l3 => (CF Try.prog 26 [(.pointer x1), (.agg ⟨l3⟩), (.int .i64 5)] h2 fun u4 h5 => (tup3V u4 fun u6 u7 u8 => (aggV u6 fun l9 => (boolV u7 fun q10 => (intV u8 .i64 fun i11 => (if List.length l9 = 4 then (if List.all l9 one = true then (if 0 + List.length l9 ≤ List.length [(Value.string ⟨#[]⟩), .string ⟨#[]⟩, .string ⟨#[]⟩, .int .i64 0] then (K (upd (upd (upd (upd (upd (upd (upd (upd (upd (upd (upd e 1 (sP x1)) 23 (sP x1)) 24 (sA l3)) 25 (sV (.tuple ⟨[(.agg ⟨l9⟩), (.bool q10), (.int .i64 i11)]⟩))) 22 (sV (.tuple ⟨[(.agg ⟨l9⟩), (.bool q10), (.int .i64 i11)]⟩))) 26 (sA l9)) 27 (sB q10)) 28 (sI i11)) 3 (sR 3 0)) 4 (sB q10)) 5 (sI i11)) (upd (upd V0 3 (36, [.string ⟨#[]⟩, .string ⟨#[]⟩, .string ⟨#[]⟩, .int .i64 0])) 3 (36, (splice [.string ⟨#[]⟩, .string ⟨#[]⟩, .string ⟨#[]⟩, .int .i64 0] 0 l9))) h5) else False) else False) else False)))))))) := by kernel_rfl
theorem F22_r4 : R22 [1, 1, 1, 1, 0] 11 (upd e 1 (sP x1)) V0 hp K =
    (CF Try.prog 72 [(.int .i64 8), .bool false, (.string (⟨#[97, 98]⟩ : ByteArray))] hp fun u1 h2 => (aggV u1 fun l3 => (CF Try.prog 26 [(.pointer x1), (.agg ⟨l3⟩), (.int .i64 9)] h2 fun u4 h5 => (tup3V u4 fun u6 u7 u8 => (aggV u6 fun l9 => (boolV u7 fun q10 => (intV u8 .i64 fun i11 => (if List.length l9 = 4 then (if List.all l9 one = true then (if 0 + List.length l9 ≤ List.length [(Value.string ⟨#[]⟩), .string ⟨#[]⟩, .string ⟨#[]⟩, .int .i64 0] then (K (upd (upd (upd (upd (upd (upd (upd (upd (upd (upd (upd e 1 (sP x1)) 30 (sP x1)) 31 (sA l3)) 32 (sV (.tuple ⟨[(.agg ⟨l9⟩), (.bool q10), (.int .i64 i11)]⟩))) 29 (sV (.tuple ⟨[(.agg ⟨l9⟩), (.bool q10), (.int .i64 i11)]⟩))) 33 (sA l9)) 34 (sB q10)) 35 (sI i11)) 6 (sR 6 0)) 7 (sB q10)) 8 (sI i11)) (upd (upd V0 6 (36, [.string ⟨#[]⟩, .string ⟨#[]⟩, .string ⟨#[]⟩, .int .i64 0])) 6 (36, (splice [.string ⟨#[]⟩, .string ⟨#[]⟩, .string ⟨#[]⟩, .int .i64 0] 0 l9))) h5) else False) else False) else False)))))))) := by kernel_rfl
theorem F22_r5 : R22 [1, 1, 1, 1, 1, 0] 11 (upd e 1 (sP x1)) V0 hp K =
    (CF Try.prog 72 [.int .i64 0, (.bool true), (.string (⟨#[49, 50, 51, 52, 53, 54, 55, 56]⟩ : ByteArray))] hp fun u1 h2 => (aggV u1 fun l3 => (CF Try.prog 26 [(.pointer x1), (.agg ⟨l3⟩), (.int .i64 9)] h2 fun u4 h5 => (tup3V u4 fun u6 u7 u8 => (aggV u6 fun l9 => (boolV u7 fun q10 => (intV u8 .i64 fun i11 => (if List.length l9 = 4 then (if List.all l9 one = true then (if 0 + List.length l9 ≤ List.length [(Value.string ⟨#[]⟩), .string ⟨#[]⟩, .string ⟨#[]⟩, .int .i64 0] then (K (upd (upd (upd (upd (upd (upd (upd (upd (upd (upd (upd e 1 (sP x1)) 37 (sP x1)) 38 (sA l3)) 39 (sV (.tuple ⟨[(.agg ⟨l9⟩), (.bool q10), (.int .i64 i11)]⟩))) 36 (sV (.tuple ⟨[(.agg ⟨l9⟩), (.bool q10), (.int .i64 i11)]⟩))) 40 (sA l9)) 41 (sB q10)) 42 (sI i11)) 9 (sR 9 0)) 10 (sB q10)) 11 (sI i11)) (upd (upd V0 9 (36, [.string ⟨#[]⟩, .string ⟨#[]⟩, .string ⟨#[]⟩, .int .i64 0])) 9 (36, (splice [.string ⟨#[]⟩, .string ⟨#[]⟩, .string ⟨#[]⟩, .int .i64 0] 0 l9))) h5) else False) else False) else False)))))))) := by kernel_rfl
theorem F22_r6 : R22 [1, 1, 1, 1, 1, 1, 0] 37 (upd (upd (upd (upd (upd (upd (upd (upd e 11 (sI x11)) 10 (sB x10)) 9 (sR 9 0)) 8 (sI x8)) 7 (sB x7)) 5 (sI x5)) 4 (sB x4)) 1 (sP x1)) (upd V0 9 (36, k9)) hp K =
    (ite2 (!x4) (ite2 (x5 == 0) (ite2 (!x7) (ite2 (x8 == 0) (ite2 x10 (ite2 (x11 == 0) (ldV (k9)[2]? fun v1 => (strV v1 fun s2 => (ite2 ((ByteArray.toList s2) == (ByteArray.toList (⟨#[49, 50, 51, 52, 53, 54, 55, 56, 97, 98]⟩ : ByteArray))) (ldV (k9)[3]? fun v3 => (intV v3 .i64 fun i4 => (ite2 (i4 == 2) (CF Try.prog 27 [(.pointer x1)] hp fun u5 h6 => (intV u5 .i64 fun i7 => (K (upd (upd (upd (upd (upd (upd (upd (upd (upd (upd (upd (upd (upd (upd (upd (upd (upd (upd (upd (upd (upd (upd (upd (upd (upd (upd (upd (upd (upd (upd (upd (upd (upd (upd (upd (upd (upd (upd (upd (upd (upd (upd (upd (upd (upd e 11 (sI x11)) 10 (sB x10)) 9 (sR 9 0)) 8 (sI x8)) 7 (sB x7)) 5 (sI x5)) 4 (sB x4)) 1 (sP x1)) 43 (sB x4)) 44 (sB ((!x4)))) 45 (sB true)) 46 (sI x5)) 47 (sB ((x5 == 0)))) 48 (sB ((x5 == 0)))) 49 (sB true)) 50 (sB x7)) 51 (sB ((!x7)))) 52 (sB ((!x7)))) 53 (sB true)) 54 (sI x8)) 55 (sB ((x8 == 0)))) 56 (sB ((x8 == 0)))) 57 (sB true)) 58 (sB x10)) 59 (sB x10)) 60 (sB true)) 61 (sI x11)) 62 (sB ((x11 == 0)))) 63 (sB ((x11 == 0)))) 64 (sB true)) 65 (sR 9 2)) 66 (sV (.string s2))) 67 (sB (((ByteArray.toList s2) == (ByteArray.toList (⟨#[49, 50, 51, 52, 53, 54, 55, 56, 97, 98]⟩ : ByteArray)))))) 68 (sB (((ByteArray.toList s2) == (ByteArray.toList (⟨#[49, 50, 51, 52, 53, 54, 55, 56, 97, 98]⟩ : ByteArray)))))) 69 (sB true)) 70 (sR 9 3)) 71 (sI i4)) 72 (sB ((i4 == 2)))) 73 (sB ((i4 == 2)))) 74 (sB true)) 75 (sP x1)) 76 (sI i7)) 77 (sB ((i7 == 0)))) 78 (sB ((i7 == 0)))) 0 (sB ((i7 == 0)))) (upd V0 9 (36, k9)) h6))) (K (upd (upd (upd (upd (upd (upd (upd (upd (upd (upd (upd (upd (upd (upd (upd (upd (upd (upd (upd (upd (upd (upd (upd (upd (upd (upd (upd (upd (upd (upd (upd (upd (upd (upd (upd (upd (upd (upd (upd (upd (upd (upd (upd (upd (upd e 11 (sI x11)) 10 (sB x10)) 9 (sR 9 0)) 8 (sI x8)) 7 (sB x7)) 5 (sI x5)) 4 (sB x4)) 1 (sP x1)) 43 (sB x4)) 44 (sB ((!x4)))) 45 (sB true)) 46 (sI x5)) 47 (sB ((x5 == 0)))) 48 (sB ((x5 == 0)))) 49 (sB true)) 50 (sB x7)) 51 (sB ((!x7)))) 52 (sB ((!x7)))) 53 (sB true)) 54 (sI x8)) 55 (sB ((x8 == 0)))) 56 (sB ((x8 == 0)))) 57 (sB true)) 58 (sB x10)) 59 (sB x10)) 60 (sB true)) 61 (sI x11)) 62 (sB ((x11 == 0)))) 63 (sB ((x11 == 0)))) 64 (sB true)) 65 (sR 9 2)) 66 (sV (.string s2))) 67 (sB (((ByteArray.toList s2) == (ByteArray.toList (⟨#[49, 50, 51, 52, 53, 54, 55, 56, 97, 98]⟩ : ByteArray)))))) 68 (sB (((ByteArray.toList s2) == (ByteArray.toList (⟨#[49, 50, 51, 52, 53, 54, 55, 56, 97, 98]⟩ : ByteArray)))))) 69 (sB true)) 70 (sR 9 3)) 71 (sI i4)) 72 (sB ((i4 == 2)))) 73 (sB ((i4 == 2)))) 74 (sB false)) 75 sU) 76 sU) 77 sU) 78 (sB false)) 0 (sB false)) (upd V0 9 (36, k9)) hp)))) (K (upd (upd (upd (upd (upd (upd (upd (upd (upd (upd (upd (upd (upd (upd (upd (upd (upd (upd (upd (upd (upd (upd (upd (upd (upd (upd (upd (upd (upd (upd (upd (upd (upd (upd (upd (upd (upd (upd (upd (upd (upd (upd (upd (upd (upd e 11 (sI x11)) 10 (sB x10)) 9 (sR 9 0)) 8 (sI x8)) 7 (sB x7)) 5 (sI x5)) 4 (sB x4)) 1 (sP x1)) 43 (sB x4)) 44 (sB ((!x4)))) 45 (sB true)) 46 (sI x5)) 47 (sB ((x5 == 0)))) 48 (sB ((x5 == 0)))) 49 (sB true)) 50 (sB x7)) 51 (sB ((!x7)))) 52 (sB ((!x7)))) 53 (sB true)) 54 (sI x8)) 55 (sB ((x8 == 0)))) 56 (sB ((x8 == 0)))) 57 (sB true)) 58 (sB x10)) 59 (sB x10)) 60 (sB true)) 61 (sI x11)) 62 (sB ((x11 == 0)))) 63 (sB ((x11 == 0)))) 64 (sB true)) 65 (sR 9 2)) 66 (sV (.string s2))) 67 (sB (((ByteArray.toList s2) == (ByteArray.toList (⟨#[49, 50, 51, 52, 53, 54, 55, 56, 97, 98]⟩ : ByteArray)))))) 68 (sB (((ByteArray.toList s2) == (ByteArray.toList (⟨#[49, 50, 51, 52, 53, 54, 55, 56, 97, 98]⟩ : ByteArray)))))) 69 (sB false)) 70 sU) 71 sU) 72 sU) 73 (sB false)) 74 (sB false)) 75 sU) 76 sU) 77 sU) 78 (sB false)) 0 (sB false)) (upd V0 9 (36, k9)) hp)))) (K (upd (upd (upd (upd (upd (upd (upd (upd (upd (upd (upd (upd (upd (upd (upd (upd (upd (upd (upd (upd (upd (upd (upd (upd (upd (upd (upd (upd (upd (upd (upd (upd (upd (upd (upd (upd (upd (upd (upd (upd (upd (upd (upd (upd (upd e 11 (sI x11)) 10 (sB x10)) 9 (sR 9 0)) 8 (sI x8)) 7 (sB x7)) 5 (sI x5)) 4 (sB x4)) 1 (sP x1)) 43 (sB x4)) 44 (sB ((!x4)))) 45 (sB true)) 46 (sI x5)) 47 (sB ((x5 == 0)))) 48 (sB ((x5 == 0)))) 49 (sB true)) 50 (sB x7)) 51 (sB ((!x7)))) 52 (sB ((!x7)))) 53 (sB true)) 54 (sI x8)) 55 (sB ((x8 == 0)))) 56 (sB ((x8 == 0)))) 57 (sB true)) 58 (sB x10)) 59 (sB x10)) 60 (sB true)) 61 (sI x11)) 62 (sB ((x11 == 0)))) 63 (sB ((x11 == 0)))) 64 (sB false)) 65 sU) 66 sU) 67 sU) 68 (sB false)) 69 (sB false)) 70 sU) 71 sU) 72 sU) 73 (sB false)) 74 (sB false)) 75 sU) 76 sU) 77 sU) 78 (sB false)) 0 (sB false)) (upd V0 9 (36, k9)) hp)) (K (upd (upd (upd (upd (upd (upd (upd (upd (upd (upd (upd (upd (upd (upd (upd (upd (upd (upd (upd (upd (upd (upd (upd (upd (upd (upd (upd (upd (upd (upd (upd (upd (upd (upd (upd (upd (upd (upd (upd (upd (upd (upd (upd (upd (upd e 11 (sI x11)) 10 (sB x10)) 9 (sR 9 0)) 8 (sI x8)) 7 (sB x7)) 5 (sI x5)) 4 (sB x4)) 1 (sP x1)) 43 (sB x4)) 44 (sB ((!x4)))) 45 (sB true)) 46 (sI x5)) 47 (sB ((x5 == 0)))) 48 (sB ((x5 == 0)))) 49 (sB true)) 50 (sB x7)) 51 (sB ((!x7)))) 52 (sB ((!x7)))) 53 (sB true)) 54 (sI x8)) 55 (sB ((x8 == 0)))) 56 (sB ((x8 == 0)))) 57 (sB true)) 58 (sB x10)) 59 (sB x10)) 60 (sB false)) 61 sU) 62 sU) 63 (sB false)) 64 (sB false)) 65 sU) 66 sU) 67 sU) 68 (sB false)) 69 (sB false)) 70 sU) 71 sU) 72 sU) 73 (sB false)) 74 (sB false)) 75 sU) 76 sU) 77 sU) 78 (sB false)) 0 (sB false)) (upd V0 9 (36, k9)) hp)) (K (upd (upd (upd (upd (upd (upd (upd (upd (upd (upd (upd (upd (upd (upd (upd (upd (upd (upd (upd (upd (upd (upd (upd (upd (upd (upd (upd (upd (upd (upd (upd (upd (upd (upd (upd (upd (upd (upd (upd (upd (upd (upd (upd (upd (upd e 11 (sI x11)) 10 (sB x10)) 9 (sR 9 0)) 8 (sI x8)) 7 (sB x7)) 5 (sI x5)) 4 (sB x4)) 1 (sP x1)) 43 (sB x4)) 44 (sB ((!x4)))) 45 (sB true)) 46 (sI x5)) 47 (sB ((x5 == 0)))) 48 (sB ((x5 == 0)))) 49 (sB true)) 50 (sB x7)) 51 (sB ((!x7)))) 52 (sB ((!x7)))) 53 (sB true)) 54 (sI x8)) 55 (sB ((x8 == 0)))) 56 (sB ((x8 == 0)))) 57 (sB false)) 58 sU) 59 (sB false)) 60 (sB false)) 61 sU) 62 sU) 63 (sB false)) 64 (sB false)) 65 sU) 66 sU) 67 sU) 68 (sB false)) 69 (sB false)) 70 sU) 71 sU) 72 sU) 73 (sB false)) 74 (sB false)) 75 sU) 76 sU) 77 sU) 78 (sB false)) 0 (sB false)) (upd V0 9 (36, k9)) hp)) (K (upd (upd (upd (upd (upd (upd (upd (upd (upd (upd (upd (upd (upd (upd (upd (upd (upd (upd (upd (upd (upd (upd (upd (upd (upd (upd (upd (upd (upd (upd (upd (upd (upd (upd (upd (upd (upd (upd (upd (upd (upd (upd (upd (upd (upd e 11 (sI x11)) 10 (sB x10)) 9 (sR 9 0)) 8 (sI x8)) 7 (sB x7)) 5 (sI x5)) 4 (sB x4)) 1 (sP x1)) 43 (sB x4)) 44 (sB ((!x4)))) 45 (sB true)) 46 (sI x5)) 47 (sB ((x5 == 0)))) 48 (sB ((x5 == 0)))) 49 (sB true)) 50 (sB x7)) 51 (sB ((!x7)))) 52 (sB ((!x7)))) 53 (sB false)) 54 sU) 55 sU) 56 (sB false)) 57 (sB false)) 58 sU) 59 (sB false)) 60 (sB false)) 61 sU) 62 sU) 63 (sB false)) 64 (sB false)) 65 sU) 66 sU) 67 sU) 68 (sB false)) 69 (sB false)) 70 sU) 71 sU) 72 sU) 73 (sB false)) 74 (sB false)) 75 sU) 76 sU) 77 sU) 78 (sB false)) 0 (sB false)) (upd V0 9 (36, k9)) hp)) (K (upd (upd (upd (upd (upd (upd (upd (upd (upd (upd (upd (upd (upd (upd (upd (upd (upd (upd (upd (upd (upd (upd (upd (upd (upd (upd (upd (upd (upd (upd (upd (upd (upd (upd (upd (upd (upd (upd (upd (upd (upd (upd (upd (upd (upd e 11 (sI x11)) 10 (sB x10)) 9 (sR 9 0)) 8 (sI x8)) 7 (sB x7)) 5 (sI x5)) 4 (sB x4)) 1 (sP x1)) 43 (sB x4)) 44 (sB ((!x4)))) 45 (sB true)) 46 (sI x5)) 47 (sB ((x5 == 0)))) 48 (sB ((x5 == 0)))) 49 (sB false)) 50 sU) 51 sU) 52 (sB false)) 53 (sB false)) 54 sU) 55 sU) 56 (sB false)) 57 (sB false)) 58 sU) 59 (sB false)) 60 (sB false)) 61 sU) 62 sU) 63 (sB false)) 64 (sB false)) 65 sU) 66 sU) 67 sU) 68 (sB false)) 69 (sB false)) 70 sU) 71 sU) 72 sU) 73 (sB false)) 74 (sB false)) 75 sU) 76 sU) 77 sU) 78 (sB false)) 0 (sB false)) (upd V0 9 (36, k9)) hp)) (K (upd (upd (upd (upd (upd (upd (upd (upd (upd (upd (upd (upd (upd (upd (upd (upd (upd (upd (upd (upd (upd (upd (upd (upd (upd (upd (upd (upd (upd (upd (upd (upd (upd (upd (upd (upd (upd (upd (upd (upd (upd (upd (upd (upd (upd e 11 (sI x11)) 10 (sB x10)) 9 (sR 9 0)) 8 (sI x8)) 7 (sB x7)) 5 (sI x5)) 4 (sB x4)) 1 (sP x1)) 43 (sB x4)) 44 (sB ((!x4)))) 45 (sB false)) 46 sU) 47 sU) 48 (sB false)) 49 (sB false)) 50 sU) 51 sU) 52 (sB false)) 53 (sB false)) 54 sU) 55 sU) 56 (sB false)) 57 (sB false)) 58 sU) 59 (sB false)) 60 (sB false)) 61 sU) 62 sU) 63 (sB false)) 64 (sB false)) 65 sU) 66 sU) 67 sU) 68 (sB false)) 69 (sB false)) 70 sU) 71 sU) 72 sU) 73 (sB false)) 74 (sB false)) 75 sU) 76 sU) 77 sU) 78 (sB false)) 0 (sB false)) (upd V0 9 (36, k9)) hp)) := by kernel_rfl
def F22_j1 (x1 : Option Addr) (x21 : Bool) (hp : HP) (K : Value → HP → Prop) : Prop :=
  (ite2 x21 (K (.bool false) hp) (CF Try.prog 72 [(.int .i64 8), .bool false, (.string (⟨#[97, 98]⟩ : ByteArray))] hp fun u_7 h_8 => (aggV u_7 fun l_9 => (CF Try.prog 26 [(.pointer x1), (.agg ⟨l_9⟩), (.int .i64 5)] h_8 fun u_10 h_11 => (tup3V u_10 fun u_12 u_13 u_14 => (aggV u_12 fun l_15 => (boolV u_13 fun q_16 => (intV u_14 .i64 fun i_17 => (if List.length l_15 = 4 then (if List.all l_15 one = true then (if 0 + List.length l_15 ≤ List.length [(Value.string ⟨#[]⟩), .string ⟨#[]⟩, .string ⟨#[]⟩, .int .i64 0] then (CF Try.prog 72 [(.int .i64 8), .bool false, (.string (⟨#[97, 98]⟩ : ByteArray))] h_11 fun u_18 h_19 => (aggV u_18 fun l_20 => (CF Try.prog 26 [(.pointer x1), (.agg ⟨l_20⟩), (.int .i64 9)] h_19 fun u_21 h_22 => (tup3V u_21 fun u_23 u_24 u_25 => (aggV u_23 fun l_26 => (boolV u_24 fun q_27 => (intV u_25 .i64 fun i_28 => (if List.length l_26 = 4 then (if List.all l_26 one = true then (if 0 + List.length l_26 ≤ List.length [(Value.string ⟨#[]⟩), .string ⟨#[]⟩, .string ⟨#[]⟩, .int .i64 0] then (CF Try.prog 72 [.int .i64 0, (.bool true), (.string (⟨#[49, 50, 51, 52, 53, 54, 55, 56]⟩ : ByteArray))] h_22 fun u_29 h_30 => (aggV u_29 fun l_31 => (CF Try.prog 26 [(.pointer x1), (.agg ⟨l_31⟩), (.int .i64 9)] h_30 fun u_32 h_33 => (tup3V u_32 fun u_34 u_35 u_36 => (aggV u_34 fun l_37 => (boolV u_35 fun q_38 => (intV u_36 .i64 fun i_39 => (if List.length l_37 = 4 then (if List.all l_37 one = true then (if 0 + List.length l_37 ≤ List.length [(Value.string ⟨#[]⟩), .string ⟨#[]⟩, .string ⟨#[]⟩, .int .i64 0] then (ite2 (!q_16) (ite2 (i_17 == 0) (ite2 (!q_27) (ite2 (i_28 == 0) (ite2 q_38 (ite2 (i_39 == 0) (ldV ((splice [.string ⟨#[]⟩, .string ⟨#[]⟩, .string ⟨#[]⟩, .int .i64 0] 0 l_37))[2]? fun v_40 => (strV v_40 fun s_41 => (ite2 ((ByteArray.toList s_41) == (ByteArray.toList (⟨#[49, 50, 51, 52, 53, 54, 55, 56, 97, 98]⟩ : ByteArray))) (ldV ((splice [.string ⟨#[]⟩, .string ⟨#[]⟩, .string ⟨#[]⟩, .int .i64 0] 0 l_37))[3]? fun v_42 => (intV v_42 .i64 fun i_43 => (ite2 (i_43 == 2) (CF Try.prog 27 [(.pointer x1)] h_33 fun u_44 h_45 => (intV u_44 .i64 fun i_46 => (K (.bool (i_46 == 0)) h_45))) (K (.bool false) h_33)))) (K (.bool false) h_33)))) (K (.bool false) h_33)) (K (.bool false) h_33)) (K (.bool false) h_33)) (K (.bool false) h_33)) (K (.bool false) h_33)) (K (.bool false) h_33)) else False) else False) else False)))))))) else False) else False) else False)))))))) else False) else False) else False)))))))))
theorem F22_r7 : R22 [1, 1, 0, 0] 6 (upd (upd e 2 (sI x2)) 1 (sP x1)) V0 hp K =
    (ite2 (x2 != 0) (K (upd (upd (upd (upd (upd (upd (upd (upd e 2 (sI x2)) 1 (sP x1)) 16 (sI x2)) 17 (sB ((x2 != 0)))) 18 (sB true)) 19 sU) 20 sU) 21 (sB true)) V0 hp) (K (upd (upd (upd (upd (upd (upd (upd (upd e 2 (sI x2)) 1 (sP x1)) 16 (sI x2)) 17 (sB ((x2 != 0)))) 18 (sB false)) 19 (sP x1)) 20 (sB ((Option.isNone x1)))) 21 (sB ((Option.isNone x1)))) V0 hp)) := by kernel_rfl
def F22 (hp : HP) (K : Value → HP → Prop) : Prop :=
  (CF Try.prog 25 [(.int .i64 4), (.int .i64 3)] hp fun u_1 h_2 => (tup2V u_1 fun u_3 u_4 => (ptrV u_3 fun p_5 => (intV u_4 .i64 fun i_6 => (ite2 (i_6 != 0) (F22_j1 p_5 true h_2  K) (F22_j1 p_5 (Option.isNone p_5) h_2  K))))))
noncomputable def F22_code : Code := (.seq (.region 0 (opsAt Try.f22 [0]) false) (.seq (.region 1 (opsAt Try.f22 [1, 0]) false) (.seq (.seq (.region 2 (opsAt Try.f22 [1, 1, 0, 0]) false) (.cond (.tmp 21) (.seq (.region 3 (opsAt Try.f22 [1, 1, 0, 1, 0, 0]) false) .ret) .skip)) (.seq (.region 4 (opsAt Try.f22 [1, 1, 1, 0]) false) (.seq (.region 5 (opsAt Try.f22 [1, 1, 1, 1, 0]) false) (.seq (.region 6 (opsAt Try.f22 [1, 1, 1, 1, 1, 0]) false) (.seq (.region 7 (opsAt Try.f22 [1, 1, 1, 1, 1, 1, 0]) false) .ret)))))))
theorem F22_body : Try.f22.body = some F22_code := by kernel_rfl
theorem F22_ok (hp : HP) (K : Value → HP → Prop) (h : F22  hp K) : CF Try.prog 22 [] hp K := by
 refine .inl ⟨by kernel_rfl, AC.intro (N := 79) Try.func22 F22_body rfl (Nat.le_of_ble_eq_true rfl) ?_⟩
 unfold F22 at h
 unfold F22_code
 refine AWP.seq' ?_
 refine AWP.rgn (F22_r0 E0  hp _) ?_ Rn Sn Sn
 refine AWP.seq' ?_
 refine AWP.rgn (F22_r1 E0  hp _) ?_ Rn Sn Sn
 refine mC h fun u_1 h_2 h => mT h fun u_3 u_4 h => mP h fun p_5 h => mI h fun i_6 h => ?_
 refine AWP.seq' ?_
 refine AWP.seq (fun env pv hp => ∃ (x1 : Option Addr) (x21 : Bool), Sub (upd (upd E0 21 (sB x21)) 1 (sP x1)) env ∧ Sub V0 pv ∧ (F22_j1 x1 x21 hp  K)) ?_ ?_
 ·refine AWP.rgn (F22_r7 E0 p_5 i_6 h_2 _) ?_ (Ru 1 (Ru 2 Rn)) (Sc rfl (Sc rfl Sn)) Sn
  refine mt h (fun h => ?_) (fun h => ?_)
  ·exact ⟨p_5, true, (Sc rfl (Sc rfl Sn)), Sn, h⟩
  ·exact ⟨p_5, (Option.isNone p_5), (Sc rfl (Sc rfl Sn)), Sn, h⟩
 ·rintro env pv hp ⟨x1, x21, he, hv, h⟩
  refine AWP.sub (env' := (upd (upd E0 21 (sB x21)) 1 (sP x1))) (pv' := V0) ?_ (Ru 1 (Ru 21 Rn)) he hv (HSub.refl _)
  clear he hv
  unfold F22_j1 at h
  refine AWP.cond (t := x21) rfl (fun e => ?_) (fun e => ?_)
  ·replace h := ite2_t h e
   refine AWP.seq' ?_
   refine AWP.rgn (F22_r2 E0  hp _) ?_ Rn Sn Sn
   refine AWP.ret ?_
   exact h
  ·replace h := ite2_f h e
   refine AWP.skip ?_
   refine AWP.seq' ?_
   refine AWP.rgn (F22_r3 E0 x1 hp _) ?_ (Ru 1 Rn) (Sc rfl Sn) Sn
   refine mC h fun u_7 h_8 h => mA h fun l_9 h => mC h fun u_10 h_11 h => mU h fun u_12 u_13 u_14 h => mA h fun l_15 h => mB h fun q_16 h => mI h fun i_17 h => mf h fun h => mf h fun h => mf h fun h => ?_
   refine AWP.seq' ?_
   refine AWP.rgn (F22_r4 (upd (upd E0 5 (sI i_17)) 4 (sB q_16)) x1 h_11 _) ?_ (Ru 1 (Ru 4 (Ru 5 Rn))) (Sc rfl (Sc rfl (Sc rfl Sn))) Sn
   refine mC h fun u_18 h_19 h => mA h fun l_20 h => mC h fun u_21 h_22 h => mU h fun u_23 u_24 u_25 h => mA h fun l_26 h => mB h fun q_27 h => mI h fun i_28 h => mf h fun h => mf h fun h => mf h fun h => ?_
   refine AWP.seq' ?_
   refine AWP.rgn (F22_r5 (upd (upd (upd (upd E0 8 (sI i_28)) 7 (sB q_27)) 5 (sI i_17)) 4 (sB q_16)) x1 h_22 _) ?_ (Ru 1 (Ru 4 (Ru 5 (Ru 7 (Ru 8 Rn))))) (Sc rfl (Sc rfl (Sc rfl (Sc rfl (Sc rfl Sn))))) Sn
   refine mC h fun u_29 h_30 h => mA h fun l_31 h => mC h fun u_32 h_33 h => mU h fun u_34 u_35 u_36 h => mA h fun l_37 h => mB h fun q_38 h => mI h fun i_39 h => mf h fun h => mf h fun h => mf h fun h => ?_
   refine AWP.seq' ?_
   refine AWP.rgn (F22_r6 E0 x1 q_16 i_17 q_27 i_28 q_38 i_39 (splice [.string ⟨#[]⟩, .string ⟨#[]⟩, .string ⟨#[]⟩, .int .i64 0] 0 l_37) h_33 _) ?_ (Ru 1 (Ru 4 (Ru 5 (Ru 7 (Ru 8 (RefOk.p 9 9 0 (Ru 10 (Ru 11 Rn)) (fun e => by cases e))))))) (Sc rfl (Sc rfl (Sc rfl (Sc rfl (Sc rfl (Sc rfl (Sc rfl (Sc rfl Sn)))))))) (Sc rfl Sn)
   refine mt h (fun h => ?_) (fun h => ?_)
   ·refine mt h (fun h => ?_) (fun h => ?_)
    ·refine mt h (fun h => ?_) (fun h => ?_)
     ·refine mt h (fun h => ?_) (fun h => ?_)
      ·refine mt h (fun h => ?_) (fun h => ?_)
       ·refine mt h (fun h => ?_) (fun h => ?_)
        ·refine mV h fun v_40 h => ms h fun s_41 h => ?_
         refine mt h (fun h => ?_) (fun h => ?_)
         ·refine mV h fun v_42 h => mI h fun i_43 h => ?_
          refine mt h (fun h => ?_) (fun h => ?_)
          ·refine mC h fun u_44 h_45 h => mI h fun i_46 h => ?_
           refine AWP.ret ?_
           exact h
          ·refine AWP.ret ?_
           exact h
         ·refine AWP.ret ?_
          exact h
        ·refine AWP.ret ?_
         exact h
       ·refine AWP.ret ?_
        exact h
      ·refine AWP.ret ?_
       exact h
     ·refine AWP.ret ?_
      exact h
    ·refine AWP.ret ?_
     exact h
   ·refine AWP.ret ?_
    exact h
end
-- 72 interpreter/interpreterlaw16.piece
section
variable (e : Env) (x0 : Int) (x1 : Bool) (x2 : ByteArray) (k6 : List Value) (hp : HP) (K : Env → PV → HP → Prop)
abbrev R72 (p : List Nat) (n : Nat) := RW Try.prog 11 [6] (opsAt Try.f72 p) (List.range n)
theorem F72_r0 : R72 [0] 1 e V0 hp K =
    (K (upd e 6 (sR 6 0)) (upd V0 6 (29, [.string ⟨#[]⟩, .string ⟨#[]⟩, .int .i64 0, .bool false, .string ⟨#[]⟩, .string ⟨#[]⟩])) hp) := by kernel_rfl
theorem F72_r1 : R72 [1, 0] 5 (upd (upd (upd (upd e 6 (sR 6 0)) 2 (sV (.string x2))) 1 (sB x1)) 0 (sI x0)) (upd V0 6 (29, k6)) hp K =
    (if List.length [(Value.string (⟨#[107]⟩ : ByteArray)), (.string (⟨#[115]⟩ : ByteArray)), (.int .i64 x0), (.bool x1), (.string x2), .string ⟨#[]⟩] = 6 then (if List.all [(Value.string (⟨#[107]⟩ : ByteArray)), (.string (⟨#[115]⟩ : ByteArray)), (.int .i64 x0), (.bool x1), (.string x2), .string ⟨#[]⟩] one = true then (if 0 + List.length [(Value.string (⟨#[107]⟩ : ByteArray)), (.string (⟨#[115]⟩ : ByteArray)), (.int .i64 x0), (.bool x1), (.string x2), .string ⟨#[]⟩] ≤ List.length k6 then (K (upd (upd (upd (upd (upd (upd (upd (upd e 6 (sR 6 0)) 2 (sV (.string x2))) 1 (sB x1)) 0 (sI x0)) 7 (sI x0)) 8 (sB x1)) 9 (sV (.string x2))) 10 (sV (.agg ⟨[(.string (⟨#[107]⟩ : ByteArray)), (.string (⟨#[115]⟩ : ByteArray)), (.int .i64 x0), (.bool x1), (.string x2), .string ⟨#[]⟩]⟩))) (upd (upd V0 6 (29, k6)) 6 (29, (splice k6 0 [(.string (⟨#[107]⟩ : ByteArray)), (.string (⟨#[115]⟩ : ByteArray)), (.int .i64 x0), (.bool x1), (.string x2), .string ⟨#[]⟩]))) hp) else False) else False) else False) := by kernel_rfl
def F72 (x0 : Int) (x1 : Bool) (x2 : ByteArray) (hp : HP) (K : Value → HP → Prop) : Prop :=
  (if List.length [(Value.string (⟨#[107]⟩ : ByteArray)), (.string (⟨#[115]⟩ : ByteArray)), (.int .i64 x0), (.bool x1), (.string x2), .string ⟨#[]⟩] = 6 then (if List.all [(Value.string (⟨#[107]⟩ : ByteArray)), (.string (⟨#[115]⟩ : ByteArray)), (.int .i64 x0), (.bool x1), (.string x2), .string ⟨#[]⟩] one = true then (if 0 + List.length [(Value.string (⟨#[107]⟩ : ByteArray)), (.string (⟨#[115]⟩ : ByteArray)), (.int .i64 x0), (.bool x1), (.string x2), .string ⟨#[]⟩] ≤ List.length [(Value.string ⟨#[]⟩), .string ⟨#[]⟩, .int .i64 0, .bool false, .string ⟨#[]⟩, .string ⟨#[]⟩] then (ldL (cellsN (splice [.string ⟨#[]⟩, .string ⟨#[]⟩, .int .i64 0, .bool false, .string ⟨#[]⟩, .string ⟨#[]⟩] 0 [(.string (⟨#[107]⟩ : ByteArray)), (.string (⟨#[115]⟩ : ByteArray)), (.int .i64 x0), (.bool x1), (.string x2), .string ⟨#[]⟩]) 0 6) fun l_1 => (K (.agg ⟨l_1⟩) hp)) else False) else False) else False)
noncomputable def F72_code : Code := (.seq (.region 0 (opsAt Try.f72 [0]) false) (.seq (.region 1 (opsAt Try.f72 [1, 0]) false) .ret))
theorem F72_body : Try.f72.body = some F72_code := by kernel_rfl
theorem F72_ok (x0 : Int) (x1 : Bool) (x2 : ByteArray) (hp : HP) (K : Value → HP → Prop) (h : F72 x0 x1 x2 hp K) : CF Try.prog 72 [(.int .i64 x0), (.bool x1), (.string x2)] hp K := by
 refine .inl ⟨by kernel_rfl, AC.intro (N := 11) Try.func72 F72_body rfl (Nat.le_of_ble_eq_true rfl) ?_⟩
 unfold F72 at h
 unfold F72_code
 refine AWP.seq' ?_
 refine AWP.rgn (F72_r0 (upd (upd (upd E0 2 (sV (.string x2))) 1 (sB x1)) 0 (sI x0))  hp _) ?_ (Ru 0 (Ru 1 (Ru 2 Rn))) (Sc rfl (Sc rfl (Sc rfl Sn))) Sn
 refine AWP.seq' ?_
 refine AWP.rgn (F72_r1 E0 x0 x1 x2 [.string ⟨#[]⟩, .string ⟨#[]⟩, .int .i64 0, .bool false, .string ⟨#[]⟩, .string ⟨#[]⟩] hp _) ?_ (Ru 0 (Ru 1 (Ru 2 (RefOk.p 6 6 0 Rn (fun e => by cases e))))) (Sc rfl (Sc rfl (Sc rfl (Sc rfl Sn)))) (Sc rfl Sn)
 refine mf h fun h => mf h fun h => mf h fun h => ?_
 refine AWP.ret ?_
 exact h
end
-- 66 interpreter/interpreterlaw16.given
section
variable (e : Env) (x0 k1 k2 : List Value) (hp : HP) (K : Env → PV → HP → Prop)
abbrev R66 (p : List Nat) (n : Nat) := RW Try.prog 16 [1, 2, 3, 5, 7, 9, 11, 13] (opsAt Try.f66 p) (List.range n)
theorem F66_r0 : R66 [0] 2 (upd e 0 (sA x0)) V0 hp K =
    (K (upd (upd (upd e 0 (sA x0)) 1 (sR 1 0)) 2 (sR 2 0)) (upd (upd V0 1 (29, x0)) 2 (118, [.string ⟨#[]⟩, .string ⟨#[]⟩, .int .i64 0, .bool false, .string ⟨#[]⟩, .string ⟨#[]⟩, .int .i64 0])) hp) := by kernel_rfl
theorem F66_r1 : R66 [1, 0] 14 (upd (upd e 2 (sR 2 0)) 1 (sR 1 0)) (upd (upd V0 2 (118, k2)) 1 (29, k1)) hp K =
    (ldV (k1)[0]? fun v1 => (strV v1 fun s2 => (ldV (k1)[1]? fun v3 => (strV v3 fun s4 => (ldV (k1)[2]? fun v5 => (intV v5 .i64 fun i6 => (ldV (k1)[3]? fun v7 => (boolV v7 fun q8 => (ldV (k1)[4]? fun v9 => (strV v9 fun s10 => (ldV (k1)[5]? fun v11 => (strV v11 fun s12 => (if List.length [(Value.string s2), (.string s4), (.int .i64 i6), (.bool q8), (.string s10), (.string s12), .int .i64 0] = 7 then (if List.all [(Value.string s2), (.string s4), (.int .i64 i6), (.bool q8), (.string s10), (.string s12), .int .i64 0] one = true then (if 0 + List.length [(Value.string s2), (.string s4), (.int .i64 i6), (.bool q8), (.string s10), (.string s12), .int .i64 0] ≤ List.length k2 then (K (upd (upd (upd (upd (upd (upd (upd (upd (upd (upd (upd (upd (upd (upd (upd e 2 (sR 2 0)) 1 (sR 1 0)) 3 (sR 1 0)) 4 (sV (.string s2))) 5 (sR 1 1)) 6 (sV (.string s4))) 7 (sR 1 2)) 8 (sI i6)) 9 (sR 1 3)) 10 (sB q8)) 11 (sR 1 4)) 12 (sV (.string s10))) 13 (sR 1 5)) 14 (sV (.string s12))) 15 (sV (.agg ⟨[(.string s2), (.string s4), (.int .i64 i6), (.bool q8), (.string s10), (.string s12), .int .i64 0]⟩))) (upd (upd (upd V0 2 (118, k2)) 1 (29, k1)) 2 (118, (splice k2 0 [(.string s2), (.string s4), (.int .i64 i6), (.bool q8), (.string s10), (.string s12), .int .i64 0]))) hp) else False) else False) else False))))))))))))) := by kernel_rfl
def F66 (x0 : List Value) (hp : HP) (K : Value → HP → Prop) : Prop :=
  (ldV (x0)[0]? fun v_1 => (strV v_1 fun s_2 => (ldV (x0)[1]? fun v_3 => (strV v_3 fun s_4 => (ldV (x0)[2]? fun v_5 => (intV v_5 .i64 fun i_6 => (ldV (x0)[3]? fun v_7 => (boolV v_7 fun q_8 => (ldV (x0)[4]? fun v_9 => (strV v_9 fun s_10 => (ldV (x0)[5]? fun v_11 => (strV v_11 fun s_12 => (if List.length [(Value.string s_2), (.string s_4), (.int .i64 i_6), (.bool q_8), (.string s_10), (.string s_12), .int .i64 0] = 7 then (if List.all [(Value.string s_2), (.string s_4), (.int .i64 i_6), (.bool q_8), (.string s_10), (.string s_12), .int .i64 0] one = true then (if 0 + List.length [(Value.string s_2), (.string s_4), (.int .i64 i_6), (.bool q_8), (.string s_10), (.string s_12), .int .i64 0] ≤ List.length [(Value.string ⟨#[]⟩), .string ⟨#[]⟩, .int .i64 0, .bool false, .string ⟨#[]⟩, .string ⟨#[]⟩, .int .i64 0] then (ldL (cellsN (splice [.string ⟨#[]⟩, .string ⟨#[]⟩, .int .i64 0, .bool false, .string ⟨#[]⟩, .string ⟨#[]⟩, .int .i64 0] 0 [(.string s_2), (.string s_4), (.int .i64 i_6), (.bool q_8), (.string s_10), (.string s_12), .int .i64 0]) 0 7) fun l_13 => (K (.agg ⟨l_13⟩) hp)) else False) else False) else False)))))))))))))
noncomputable def F66_code : Code := (.seq (.region 0 (opsAt Try.f66 [0]) false) (.seq (.region 1 (opsAt Try.f66 [1, 0]) false) .ret))
theorem F66_body : Try.f66.body = some F66_code := by kernel_rfl
theorem F66_ok (x0 : List Value) (hp : HP) (K : Value → HP → Prop) (h : F66 x0 hp K) : CF Try.prog 66 [(.agg ⟨x0⟩)] hp K := by
 refine .inl ⟨by kernel_rfl, AC.intro (N := 16) Try.func66 F66_body rfl (Nat.le_of_ble_eq_true rfl) ?_⟩
 unfold F66 at h
 unfold F66_code
 refine AWP.seq' ?_
 refine AWP.rgn (F66_r0 E0 x0 hp _) ?_ (Ru 0 Rn) (Sc rfl Sn) Sn
 refine AWP.seq' ?_
 refine AWP.rgn (F66_r1 E0 x0 [.string ⟨#[]⟩, .string ⟨#[]⟩, .int .i64 0, .bool false, .string ⟨#[]⟩, .string ⟨#[]⟩, .int .i64 0] hp _) ?_ (RefOk.p 1 1 0 (RefOk.p 2 2 0 Rn (fun e => by cases e)) (fun e => by cases e)) (Sc rfl (Sc rfl Sn)) (Sc rfl (Sc rfl Sn))
 refine mV h fun v_1 h => ms h fun s_2 h => mV h fun v_3 h => ms h fun s_4 h => mV h fun v_5 h => mI h fun i_6 h => mV h fun v_7 h => mB h fun q_8 h => mV h fun v_9 h => ms h fun s_10 h => mV h fun v_11 h => ms h fun s_12 h => mf h fun h => mf h fun h => mf h fun h => ?_
 refine AWP.ret ?_
 exact h
end
-- 68 interpreter/interpreterref16.Right
section
variable (e : Env) (x0 k1 : List Value) (hp : HP) (K : Env → PV → HP → Prop)
abbrev R68 (p : List Nat) (n : Nat) := RW Try.prog 39 [1, 3, 7, 12, 17, 20, 25, 32, 34] (opsAt Try.f68 p) (List.range n)
theorem F68_r0 : R68 [0] 2 (upd e 0 (sA x0)) V0 hp K =
    (K (upd (upd (upd e 0 (sA x0)) 1 (sR 1 0)) 2 (sB false)) (upd V0 1 (118, x0)) hp) := by kernel_rfl
theorem F68_r1 : R68 [1, 0, 1, 0, 0] 1 e V0 hp K =
    (K (upd e 2 (sB false)) V0 hp) := by kernel_rfl
theorem F68_r2 : R68 [1, 1, 0, 1, 0, 0] 1 e V0 hp K =
    (K (upd e 2 (sB false)) V0 hp) := by kernel_rfl
theorem F68_r3 : R68 [1, 1, 1, 0] 8 (upd e 1 (sR 1 0)) (upd V0 1 (118, k1)) hp K =
    (ldV (k1)[2]? fun v1 => (intV v1 .i64 fun i2 => (ldV (k1)[4]? fun v3 => (strV v3 fun s4 => (K (upd (upd (upd (upd (upd (upd (upd (upd (upd e 1 (sR 1 0)) 32 (sR 1 2)) 33 (sI i2)) 34 (sR 1 4)) 35 (sV (.string s4))) 36 (sI ((ByteArray.size s4 : Nat)))) 37 (sI ((wr (i2 + (ByteArray.size s4 : Nat)))))) 38 (sB ((decide (((wr (i2 + (ByteArray.size s4 : Nat))) : Int) ≤ 65535))))) 2 (sB ((decide (((wr (i2 + (ByteArray.size s4 : Nat))) : Int) ≤ 65535))))) (upd V0 1 (118, k1)) hp))))) := by kernel_rfl
def F68_j2 (x31 : Bool) (k1 : List Value) (hp : HP) (K : Value → HP → Prop) : Prop :=
  (ite2 x31 (K (.bool false) hp) (ldV (k1)[2]? fun v_1 => (intV v_1 .i64 fun i_2 => (ldV (k1)[4]? fun v_3 => (strV v_3 fun s_4 => (K (.bool (decide (((IntKind.wrap .i64 (i_2 + (ByteArray.size s_4 : Nat))) : Int) ≤ 65535))) hp))))))
theorem F68_r4 : R68 [1, 1, 0, 0] 15 (upd e 1 (sR 1 0)) (upd V0 1 (118, k1)) hp K =
    (ldV (k1)[3]? fun v1 => (boolV v1 fun q2 => (ite2 q2 (ldV (k1)[4]? fun v3 => (strV v3 fun s4 => (ite2 (((ByteArray.size s4 : Nat) : Int) == 0) (K (upd (upd (upd (upd (upd (upd (upd (upd (upd (upd (upd (upd (upd (upd (upd (upd e 1 (sR 1 0)) 17 (sR 1 3)) 18 (sB q2)) 19 (sB true)) 20 (sR 1 4)) 21 (sV (.string s4))) 22 (sI ((ByteArray.size s4 : Nat)))) 23 (sB ((((ByteArray.size s4 : Nat) : Int) == 0)))) 24 (sB true)) 25 sU) 26 sU) 27 sU) 28 sU) 29 sU) 30 (sB true)) 31 (sB true)) (upd V0 1 (118, k1)) hp) (ldV (k1)[4]? fun v5 => (strV v5 fun s6 => (((8 : Int) ≠ 0) ∧ (K (upd (upd (upd (upd (upd (upd (upd (upd (upd (upd (upd (upd (upd (upd (upd (upd e 1 (sR 1 0)) 17 (sR 1 3)) 18 (sB q2)) 19 (sB true)) 20 (sR 1 4)) 21 (sV (.string s4))) 22 (sI ((ByteArray.size s4 : Nat)))) 23 (sB ((((ByteArray.size s4 : Nat) : Int) == 0)))) 24 (sB false)) 25 (sR 1 4)) 26 (sV (.string s6))) 27 (sI ((ByteArray.size s6 : Nat)))) 28 (sI ((Int.tmod (ByteArray.size s6 : Nat) 8)))) 29 (sB ((((Int.tmod (ByteArray.size s6 : Nat) 8) : Int) != 0)))) 30 (sB ((((Int.tmod (ByteArray.size s6 : Nat) 8) : Int) != 0)))) 31 (sB ((((Int.tmod (ByteArray.size s6 : Nat) 8) : Int) != 0)))) (upd V0 1 (118, k1)) hp))))))) (K (upd (upd (upd (upd (upd (upd (upd (upd (upd (upd (upd (upd (upd (upd (upd (upd e 1 (sR 1 0)) 17 (sR 1 3)) 18 (sB q2)) 19 (sB false)) 20 sU) 21 sU) 22 sU) 23 sU) 24 sU) 25 sU) 26 sU) 27 sU) 28 sU) 29 sU) 30 sU) 31 (sB false)) (upd V0 1 (118, k1)) hp)))) := by kernel_rfl
def F68_j1 (x16 : Bool) (k1 : List Value) (hp : HP) (K : Value → HP → Prop) : Prop :=
  (ite2 x16 (K (.bool false) hp) (ldV (k1)[3]? fun v_5 => (boolV v_5 fun q_6 => (ite2 q_6 (ldV (k1)[4]? fun v_7 => (strV v_7 fun s_8 => (ite2 (((ByteArray.size s_8 : Nat) : Int) == 0) (F68_j2 true k1 hp  K) (ldV (k1)[4]? fun v_9 => (strV v_9 fun s_10 => (((8 : Int) ≠ 0) ∧ (F68_j2 (((Int.tmod (ByteArray.size s_10 : Nat) 8) : Int) != 0) k1 hp  K))))))) (F68_j2 false k1 hp  K)))))
theorem F68_r5 : R68 [1, 0, 0] 14 (upd e 1 (sR 1 0)) (upd V0 1 (118, k1)) hp K =
    (ldV (k1)[2]? fun v1 => (intV v1 .i64 fun i2 => (ite2 (decide (i2 < 0)) (K (upd (upd (upd (upd (upd (upd (upd (upd (upd (upd (upd (upd (upd (upd (upd e 1 (sR 1 0)) 3 (sR 1 2)) 4 (sI i2)) 5 (sB (decide (i2 < 0)))) 6 (sB true)) 7 sU) 8 sU) 9 sU) 10 (sB true)) 11 (sB true)) 12 sU) 13 sU) 14 sU) 15 sU) 16 (sB true)) (upd V0 1 (118, k1)) hp) (ldV (k1)[2]? fun v3 => (intV v3 .i64 fun i4 => (ite2 (decide (i4 > 65535)) (K (upd (upd (upd (upd (upd (upd (upd (upd (upd (upd (upd (upd (upd (upd (upd e 1 (sR 1 0)) 3 (sR 1 2)) 4 (sI i2)) 5 (sB (decide (i2 < 0)))) 6 (sB false)) 7 (sR 1 2)) 8 (sI i4)) 9 (sB (decide (i4 > 65535)))) 10 (sB (decide (i4 > 65535)))) 11 (sB true)) 12 sU) 13 sU) 14 sU) 15 sU) 16 (sB true)) (upd V0 1 (118, k1)) hp) (ldV (k1)[2]? fun v5 => (intV v5 .i64 fun i6 => (((8 : Int) ≠ 0) ∧ (K (upd (upd (upd (upd (upd (upd (upd (upd (upd (upd (upd (upd (upd (upd (upd e 1 (sR 1 0)) 3 (sR 1 2)) 4 (sI i2)) 5 (sB (decide (i2 < 0)))) 6 (sB false)) 7 (sR 1 2)) 8 (sI i4)) 9 (sB (decide (i4 > 65535)))) 10 (sB (decide (i4 > 65535)))) 11 (sB false)) 12 (sR 1 2)) 13 (sI i6)) 14 (sI ((Int.tmod i6 8)))) 15 (sB ((((Int.tmod i6 8) : Int) != 0)))) 16 (sB ((((Int.tmod i6 8) : Int) != 0)))) (upd V0 1 (118, k1)) hp)))))))))) := by kernel_rfl
def F68 (x0 : List Value) (hp : HP) (K : Value → HP → Prop) : Prop :=
  (ldV (x0)[2]? fun v_11 => (intV v_11 .i64 fun i_12 => (ite2 (decide (i_12 < 0)) (F68_j1 true x0 hp  K) (ldV (x0)[2]? fun v_13 => (intV v_13 .i64 fun i_14 => (ite2 (decide (i_14 > 65535)) (F68_j1 true x0 hp  K) (ldV (x0)[2]? fun v_15 => (intV v_15 .i64 fun i_16 => (((8 : Int) ≠ 0) ∧ (F68_j1 (((Int.tmod i_16 8) : Int) != 0) x0 hp  K))))))))))
noncomputable def F68_code : Code := (.seq (.region 0 (opsAt Try.f68 [0]) false) (.seq (.seq (.region 1 (opsAt Try.f68 [1, 0, 0]) false) (.cond (.tmp 16) (.seq (.region 2 (opsAt Try.f68 [1, 0, 1, 0, 0]) false) .ret) .skip)) (.seq (.seq (.region 3 (opsAt Try.f68 [1, 1, 0, 0]) false) (.cond (.tmp 31) (.seq (.region 4 (opsAt Try.f68 [1, 1, 0, 1, 0, 0]) false) .ret) .skip)) (.seq (.region 5 (opsAt Try.f68 [1, 1, 1, 0]) false) .ret))))
theorem F68_body : Try.f68.body = some F68_code := by kernel_rfl
theorem F68_ok (x0 : List Value) (hp : HP) (K : Value → HP → Prop) (h : F68 x0 hp K) : CF Try.prog 68 [(.agg ⟨x0⟩)] hp K := by
 refine .inl ⟨by kernel_rfl, AC.intro (N := 39) Try.func68 F68_body rfl (Nat.le_of_ble_eq_true rfl) ?_⟩
 unfold F68 at h
 unfold F68_code
 refine AWP.seq' ?_
 refine AWP.rgn (F68_r0 E0 x0 hp _) ?_ (Ru 0 Rn) (Sc rfl Sn) Sn
 refine AWP.seq' ?_
 refine AWP.seq (fun env pv hp => ∃ (x16 : Bool) (k1 : List Value), Sub (upd (upd E0 16 (sB x16)) 1 (sR 1 0)) env ∧ Sub (upd V0 1 (118, k1)) pv ∧ (F68_j1 x16 k1 hp  K)) ?_ ?_
 ·refine AWP.rgn (F68_r5 E0 x0 hp _) ?_ (RefOk.p 1 1 0 Rn (fun e => by cases e)) (Sc rfl Sn) (Sc rfl Sn)
  refine mV h fun v_11 h => mI h fun i_12 h => ?_
  refine mt h (fun h => ?_) (fun h => ?_)
  ·exact ⟨true, x0, (Sc rfl (Sc rfl Sn)), (Sc rfl Sn), h⟩
  ·refine mV h fun v_13 h => mI h fun i_14 h => ?_
   refine mt h (fun h => ?_) (fun h => ?_)
   ·exact ⟨true, x0, (Sc rfl (Sc rfl Sn)), (Sc rfl Sn), h⟩
   ·refine mV h (fun v_15 h => mI h (fun i_16 h => ⟨h.1, ?_⟩))
    replace h := h.2
    exact ⟨(((Int.tmod i_16 8) : Int) != 0), x0, (Sc rfl (Sc rfl Sn)), (Sc rfl Sn), h⟩
 ·rintro env pv hp ⟨x16, k1, he, hv, h⟩
  refine AWP.sub (env' := (upd (upd E0 16 (sB x16)) 1 (sR 1 0))) (pv' := (upd V0 1 (118, k1))) ?_ (RefOk.p 1 1 0 (Ru 16 Rn) (fun e => by cases e)) he hv (HSub.refl _)
  clear he hv
  unfold F68_j1 at h
  refine AWP.cond (t := x16) rfl (fun e => ?_) (fun e => ?_)
  ·replace h := ite2_t h e
   refine AWP.seq' ?_
   refine AWP.rgn (F68_r1 E0  hp _) ?_ Rn Sn Sn
   refine AWP.ret ?_
   exact h
  ·replace h := ite2_f h e
   refine AWP.skip ?_
   refine AWP.seq' ?_
   refine AWP.seq (fun env pv hp => ∃ (x31 : Bool) (k1 : List Value), Sub (upd (upd E0 31 (sB x31)) 1 (sR 1 0)) env ∧ Sub (upd V0 1 (118, k1)) pv ∧ (F68_j2 x31 k1 hp  K)) ?_ ?_
   ·refine AWP.rgn (F68_r4 E0 k1 hp _) ?_ (RefOk.p 1 1 0 Rn (fun e => by cases e)) (Sc rfl Sn) (Sc rfl Sn)
    refine mV h fun v_5 h => mB h fun q_6 h => ?_
    refine mt h (fun h => ?_) (fun h => ?_)
    ·refine mV h fun v_7 h => ms h fun s_8 h => ?_
     refine mt h (fun h => ?_) (fun h => ?_)
     ·exact ⟨true, k1, (Sc rfl (Sc rfl Sn)), (Sc rfl Sn), h⟩
     ·refine mV h (fun v_9 h => ms h (fun s_10 h => ⟨h.1, ?_⟩))
      replace h := h.2
      exact ⟨(((Int.tmod (ByteArray.size s_10 : Nat) 8) : Int) != 0), k1, (Sc rfl (Sc rfl Sn)), (Sc rfl Sn), h⟩
    ·exact ⟨false, k1, (Sc rfl (Sc rfl Sn)), (Sc rfl Sn), h⟩
   ·rintro env pv hp ⟨x31, k1, he, hv, h⟩
    refine AWP.sub (env' := (upd (upd E0 31 (sB x31)) 1 (sR 1 0))) (pv' := (upd V0 1 (118, k1))) ?_ (RefOk.p 1 1 0 (Ru 31 Rn) (fun e => by cases e)) he hv (HSub.refl _)
    clear he hv
    unfold F68_j2 at h
    refine AWP.cond (t := x31) rfl (fun e => ?_) (fun e => ?_)
    ·replace h := ite2_t h e
     refine AWP.seq' ?_
     refine AWP.rgn (F68_r2 E0  hp _) ?_ Rn Sn Sn
     refine AWP.ret ?_
     exact h
    ·replace h := ite2_f h e
     refine AWP.skip ?_
     refine AWP.seq' ?_
     refine AWP.rgn (F68_r3 E0 k1 hp _) ?_ (RefOk.p 1 1 0 Rn (fun e => by cases e)) (Sc rfl Sn) (Sc rfl Sn)
     refine mV h fun v_1 h => mI h fun i_2 h => mV h fun v_3 h => ms h fun s_4 h => ?_
     refine AWP.ret ?_
     exact h
end
-- 62 (*interpreter/frag.Store).Pop
section
variable (e : Env) (x0 : Option Addr) (x1 : Int) (x5a : Option Addr) (x5n x5c : Nat) (x7 : ByteArray) (x8 x12a : Option Addr) (x12n x12c : Nat) (x13 x14 : Int) (hp : HP) (K : Env → PV → HP → Prop)
abbrev R62 (p : List Nat) (n : Nat) := RW Try.prog 47 [] (opsAt Try.f62 p) (List.range n)
theorem F62_r0 : R62 [0] 1 e V0 hp K =
    (K (upd e 4 (sS none 0 0)) V0 hp) := by kernel_rfl
theorem F62_r1 : R62 [1, 0, 0] 2 (upd e 0 (sP x0)) V0 hp K =
    (CF Try.prog 75 [(.pointer x0)] hp fun u1 h2 => (boolV u1 fun q3 => (K (upd (upd (upd e 0 (sP x0)) 9 (sP x0)) 10 (sB q3)) V0 h2))) := by kernel_rfl
theorem F62_r2 : R62 [1, 0, 1, 0, 0] 1 e V0 hp K =
    (K (upd e 4 (sS none 0 0)) V0 hp) := by kernel_rfl
theorem F62_r3 : R62 [1, 1, 0] 1 e V0 hp K =
    (K (upd e 5 (sS none 0 0)) V0 hp) := by kernel_rfl
theorem F62_r4 : R62 [1, 1, 1, 1, 0] 2 (upd e 5 (sS x5a x5n x5c)) V0 hp K =
    (K (upd (upd (upd e 5 (sS x5a x5n x5c)) 46 (sS x5a x5n x5c)) 4 (sS x5a x5n x5c)) V0 hp) := by kernel_rfl
def F62_j1 (x5a : Option Addr) (x5n : Nat) (x5c : Nat) (hp : HP) (K : Value → HP → Prop) : Prop :=
  (K (.slice x5a x5n x5c) hp)
theorem F62_r5 : R62 [1, 1, 1, 0, 1, 0, 0, 0] 1 (upd (upd e 14 (sI x14)) 13 (sI x13)) V0 hp K =
    (K (upd (upd (upd e 14 (sI x14)) 13 (sI x13)) 15 (sB (decide (x14 < x13)))) V0 hp) := by kernel_rfl
theorem F62_r6 : R62 [1, 1, 1, 0, 1, 0, 0, 1, 1, 1] 2 (upd e 14 (sI x14)) V0 hp K =
    (K (upd (upd (upd e 14 (sI x14)) 45 (sI ((wr (x14 + 1))))) 14 (sI ((wr (x14 + 1))))) V0 hp) := by kernel_rfl
def F62_j4 (x0 : Option Addr) (x1 : Int) (x5a : Option Addr) (x5n : Nat) (x5c : Nat) (x12a : Option Addr) (x12n : Nat) (x12c : Nat) (x13 : Int) (x14 : Int) (hp : HP) (I3 : ((Option Addr) × Nat × Nat × Int) → HP → Prop) (K : Value → HP → Prop) : Prop :=
  (I3 (x5a, x5n, x5c, (IntKind.wrap .i64 (x14 + 1))) hp)
theorem F62_r7 : R62 [1, 1, 1, 0, 1, 0, 0, 1, 1, 0, 0, 0] 3 (upd (upd e 14 (sI x14)) 12 (sS x12a x12n x12c)) V0 hp K =
    ((0 ≤ x14) ∧ (x14 < x12n) ∧ (ptrN x12a fun b1 o2 => (ldV (HP.cell hp b1 (o2 + Int.toNat x14 * 1)) fun v3 => (strV v3 fun s4 => (K (upd (upd (upd (upd (upd e 14 (sI x14)) 12 (sS x12a x12n x12c)) 16 (sQ b1 (o2 + Int.toNat x14 * 1))) 17 (sV (.string s4))) 7 (sV (.string s4))) V0 hp))))) := by kernel_rfl
theorem F62_r8 : R62 [1, 1, 1, 0, 1, 0, 0, 1, 1, 0, 0, 1, 0] 7 (upd (upd e 7 (sV (.string x7))) 0 (sP x0)) V0 hp K =
    (ptrN x0 fun b1 o2 => (ldV (HP.cell hp b1 (o2 + 4)) fun v3 => (mapV v3 fun m4 => (rdS Try.prog (Instr.lookup 128 (.map m4) (.string x7) false) hp fun u5 => (ptrV u5 fun p6 => (K (upd (upd (upd (upd (upd (upd (upd (upd (upd e 7 (sV (.string x7))) 0 (sP x0)) 18 (sP x0)) 19 (sQ b1 o2)) 20 (sQ b1 (o2 + 4))) 21 (sV (.map m4))) 22 (sV (.string x7))) 23 (sP p6)) 8 (sP p6)) V0 hp)))))) := by kernel_rfl
theorem F62_r9 : R62 [1, 1, 1, 0, 1, 0, 0, 1, 1, 0, 0, 1, 1, 0] 6 (upd (upd e 8 (sP x8)) 1 (sI x1)) V0 hp K =
    (ptrN x8 fun b1 o2 => (ldV (HP.cell hp b1 (o2 + 1)) fun v3 => (intV v3 .i64 fun i4 => (K (upd (upd (upd (upd (upd (upd (upd (upd e 8 (sP x8)) 1 (sI x1)) 24 (sP x8)) 25 (sQ b1 o2)) 26 (sQ b1 (o2 + 1))) 27 (sI i4)) 28 (sI x1)) 29 (sB (decide (i4 ≤ x1)))) V0 hp)))) := by kernel_rfl
theorem F62_r10 : R62 [1, 1, 1, 0, 1, 0, 0, 1, 1, 0, 0, 1, 1, 1, 0, 1] 3 (upd (upd e 7 (sV (.string x7))) 0 (sP x0)) V0 hp K =
    (CF Try.prog 79 [(.pointer x0), (.string x7)] hp fun u1 h2 => (K (upd (upd (upd (upd (upd e 7 (sV (.string x7))) 0 (sP x0)) 42 (sP x0)) 43 (sV (.string x7))) 44 (sV u1)) V0 h2)) := by kernel_rfl
def F62_j5 (x0 : Option Addr) (x1 : Int) (x5a : Option Addr) (x5n : Nat) (x5c : Nat) (x7 : ByteArray) (x12a : Option Addr) (x12n : Nat) (x12c : Nat) (x13 : Int) (x14 : Int) (hp : HP) (I3 : ((Option Addr) × Nat × Nat × Int) → HP → Prop) (K : Value → HP → Prop) : Prop :=
  (CF Try.prog 79 [(.pointer x0), (.string x7)] hp fun u_18 h_19 => (F62_j4 x0 x1 x5a x5n x5c x12a x12n x12c x13 x14 h_19 I3 K))
theorem F62_r11 (e : Env) (x5a : Option Addr) (x5n : Nat) (x5c : Nat) (x7 : ByteArray) (x8 : Option Addr) (hp : HP) (K : Env → PV → HP → Prop) : RW Try.prog 47 [] (opsAt Try.f62 [1, 1, 1, 0, 1, 0, 0, 1, 1, 0, 0, 1, 1, 1, 0, 0]) [0, 1, 2, 3, 4, 5, 6, 7, 8, 9, 10, 11, 12] (upd (upd (upd e 8 (sP x8)) 7 (sV (.string x7))) 5 (sS x5a x5n x5c)) V0 hp K =
    (CF Try.prog 110 [(.pointer x8)] hp fun u1 h2 => (strV u1 fun s3 => (ptrN x8 fun b4 o5 => (ldV (HP.cell h2 b4 (o5 + 3)) fun v6 => (slcV v6 fun a7 n8 c9 => (if List.length [(Value.string x7), (.string s3), .string ⟨#[]⟩, (.int .i64 (n8 : Nat))] = 4 then (∀ b10 : Nat, h2 b10 = .none → (opS Try.prog (Builtin.append_ #[109, 109] 109 ⟨[(.slice x5a x5n x5c), (.slice (some ⟨b10, 0, none⟩) 1 1)]⟩) (HP.set h2 b10 (.cells 36 (splice [.string ⟨#[]⟩, .string ⟨#[]⟩, .string ⟨#[]⟩, .int .i64 0] 0 [(.string x7), (.string s3), .string ⟨#[]⟩, (.int .i64 (n8 : Nat))]) 0)) fun u11 h12 => (slcV u11 fun a13 n14 c15 => (K (upd (upd (upd (upd (upd (upd (upd (upd (upd (upd (upd (upd (upd (upd (upd (upd e 8 (sP x8)) 7 (sV (.string x7))) 5 (sS x5a x5n x5c)) 30 (sS x5a x5n x5c)) 31 (sV (.string x7))) 32 (sP x8)) 33 (sV (.string s3))) 34 (sP x8)) 35 (sQ b4 o5)) 36 (sQ b4 (o5 + 3))) 37 (sS a7 n8 c9)) 38 (sI ((n8 : Nat)))) 39 (sV (.agg ⟨[(.string x7), (.string s3), .string ⟨#[]⟩, (.int .i64 (n8 : Nat))]⟩))) 40 (sV (.slice (some ⟨b10, 0, none⟩) 1 1))) 41 (sS a13 n14 c15)) 5 (sS a13 n14 c15)) V0 h12)))) else False)))))) := by kernel_rfl
theorem F62_r12 (e : Env) (x5a : Option Addr) (x5n : Nat) (x5c : Nat) (x7 : ByteArray) (x8 : Option Addr) (hp : HP) (K : Env → PV → HP → Prop) : RW Try.prog 47 [] (opsAt Try.f62 [1, 1, 1, 0, 1, 0, 0, 1, 1, 0, 0, 1, 1, 1, 0, 0]) [0, 1, 2, 4, 5, 6, 7, 3, 8, 9, 10, 11, 12] (upd (upd (upd e 8 (sP x8)) 7 (sV (.string x7))) 5 (sS x5a x5n x5c)) V0 hp K =
    (ptrN x8 fun b1 o2 => (ldV (HP.cell hp b1 (o2 + 3)) fun v3 => (slcV v3 fun a4 n5 c6 => (CF Try.prog 110 [(.pointer x8)] hp fun u7 h8 => (strV u7 fun s9 => (if List.length [(Value.string x7), (.string s9), .string ⟨#[]⟩, (.int .i64 (n5 : Nat))] = 4 then (∀ b10 : Nat, h8 b10 = .none → (opS Try.prog (Builtin.append_ #[109, 109] 109 ⟨[(.slice x5a x5n x5c), (.slice (some ⟨b10, 0, none⟩) 1 1)]⟩) (HP.set h8 b10 (.cells 36 (splice [.string ⟨#[]⟩, .string ⟨#[]⟩, .string ⟨#[]⟩, .int .i64 0] 0 [(.string x7), (.string s9), .string ⟨#[]⟩, (.int .i64 (n5 : Nat))]) 0)) fun u11 h12 => (slcV u11 fun a13 n14 c15 => (K (upd (upd (upd (upd (upd (upd (upd (upd (upd (upd (upd (upd (upd (upd (upd (upd e 8 (sP x8)) 7 (sV (.string x7))) 5 (sS x5a x5n x5c)) 30 (sS x5a x5n x5c)) 31 (sV (.string x7))) 32 (sP x8)) 34 (sP x8)) 35 (sQ b1 o2)) 36 (sQ b1 (o2 + 3))) 37 (sS a4 n5 c6)) 33 (sV (.string s9))) 38 (sI ((n5 : Nat)))) 39 (sV (.agg ⟨[(.string x7), (.string s9), .string ⟨#[]⟩, (.int .i64 (n5 : Nat))]⟩))) 40 (sV (.slice (some ⟨b10, 0, none⟩) 1 1))) 41 (sS a13 n14 c15)) 5 (sS a13 n14 c15)) V0 h12)))) else False)))))) := by kernel_rfl
def F62_l3 (x0 : Option Addr) (x1 : Int) (x12a : Option Addr) (x12n : Nat) (x12c : Nat) (x13 : Int) (K : Value → HP → Prop) (I3 : ((Option Addr) × Nat × Nat × Int) → HP → Prop) (x5a : Option Addr) (x5n : Nat) (x5c : Nat) (x14 : Int) (hp : HP) : Prop :=
  (ite2 (decide (x14 < x13)) ((0 ≤ x14) ∧ (x14 < x12n) ∧ (ptrN x12a fun b_4 o_5 => (ldV (HP.cell hp b_4 (o_5 + Int.toNat x14 * 1)) fun v_6 => (strV v_6 fun s_7 => (ptrN x0 fun b_8 o_9 => (ldV (HP.cell hp b_8 (o_9 + 4)) fun v_10 => (mapV v_10 fun m_11 => (rdS Try.prog (Instr.lookup 128 (.map m_11) (.string s_7) false) hp fun u_12 => (ptrV u_12 fun p_13 => (ptrN p_13 fun b_14 o_15 => (ldV (HP.cell hp b_14 (o_15 + 1)) fun v_16 => (intV v_16 .i64 fun i_17 => (ite2 (decide (i_17 ≤ x1)) ((CF Try.prog 110 [(.pointer p_13)] hp fun u_20 h_21 => (strV u_20 fun s_22 => (ptrN p_13 fun b_23 o_24 => (ldV (HP.cell h_21 b_23 (o_24 + 3)) fun v_25 => (slcV v_25 fun a_26 n_27 c_28 => (if List.length [(Value.string s_7), (.string s_22), .string ⟨#[]⟩, (.int .i64 (n_27 : Nat))] = 4 then (∀ b_29 : Nat, h_21 b_29 = .none → (opS Try.prog (Builtin.append_ #[109, 109] 109 ⟨[(.slice x5a x5n x5c), (.slice (some ⟨b_29, 0, none⟩) 1 1)]⟩) (HP.set h_21 b_29 (.cells 36 (splice [.string ⟨#[]⟩, .string ⟨#[]⟩, .string ⟨#[]⟩, .int .i64 0] 0 [(.string s_7), (.string s_22), .string ⟨#[]⟩, (.int .i64 (n_27 : Nat))]) 0)) fun u_30 h_31 => (slcV u_30 fun a_32 n_33 c_34 => (F62_j5 x0 x1 a_32 n_33 c_34 s_7 x12a x12n x12c x13 x14 h_31 I3 K)))) else False)))))) ∧ (ptrN p_13 fun b_35 o_36 => (ldV (HP.cell hp b_35 (o_36 + 3)) fun v_37 => (slcV v_37 fun a_38 n_39 c_40 => (CF Try.prog 110 [(.pointer p_13)] hp fun u_41 h_42 => (strV u_41 fun s_43 => (if List.length [(Value.string s_7), (.string s_43), .string ⟨#[]⟩, (.int .i64 (n_39 : Nat))] = 4 then (∀ b_44 : Nat, h_42 b_44 = .none → (opS Try.prog (Builtin.append_ #[109, 109] 109 ⟨[(.slice x5a x5n x5c), (.slice (some ⟨b_44, 0, none⟩) 1 1)]⟩) (HP.set h_42 b_44 (.cells 36 (splice [.string ⟨#[]⟩, .string ⟨#[]⟩, .string ⟨#[]⟩, .int .i64 0] 0 [(.string s_7), (.string s_43), .string ⟨#[]⟩, (.int .i64 (n_39 : Nat))]) 0)) fun u_45 h_46 => (slcV u_45 fun a_47 n_48 c_49 => (F62_j5 x0 x1 a_47 n_48 c_49 s_7 x12a x12n x12c x13 x14 h_46 I3 K)))) else False))))))) (F62_j4 x0 x1 x5a x5n x5c x12a x12n x12c x13 x14 hp I3 K)))))))))))))) (F62_j1 x5a x5n x5c hp  K))
def F62_j2 (x0 : Option Addr) (x1 : Int) (x5a : Option Addr) (x5n : Nat) (x5c : Nat) (x12a : Option Addr) (x12n : Nat) (x12c : Nat) (x13 : Int) (x14 : Int) (hp : HP) (K : Value → HP → Prop) : Prop :=
  (LoopP (σ := (Option Addr) × Nat × Nat × Int) (fun I s hp => F62_l3 x0 x1 x12a x12n x12c x13  K I s.1 s.2.1 s.2.2.1 s.2.2.2 hp) (x5a, x5n, x5c, x14) hp)
theorem F62_r13 : R62 [1, 1, 1, 0, 0] 4 (upd e 0 (sP x0)) V0 hp K =
    (CF Try.prog 107 [(.pointer x0), (.func (.func 109) ⟨[]⟩ ⟨[]⟩)] hp fun u1 h2 => (slcV u1 fun a3 n4 c5 => (K (upd (upd (upd (upd (upd e 0 (sP x0)) 11 (sP x0)) 12 (sS a3 n4 c5)) 13 (sI ((n4 : Nat)))) 14 (sI 0)) V0 h2))) := by kernel_rfl
def F62 (x0 : Option Addr) (x1 : Int) (hp : HP) (K : Value → HP → Prop) : Prop :=
  (CF Try.prog 75 [(.pointer x0)] hp fun u_1 h_2 => (boolV u_1 fun q_3 => (ite2 q_3 (K (.slice none 0 0) h_2) (CF Try.prog 107 [(.pointer x0), (.func (.func 109) ⟨[]⟩ ⟨[]⟩)] h_2 fun u_50 h_51 => (slcV u_50 fun a_52 n_53 c_54 => (F62_j2 x0 x1 none 0 0 a_52 n_53 c_54 (n_53 : Nat) 0 h_51  K))))))
noncomputable def F62_code : Code := (.seq (.region 0 (opsAt Try.f62 [0]) false) (.seq (.seq (.region 1 (opsAt Try.f62 [1, 0, 0]) false) (.cond (.tmp 10) (.seq (.region 2 (opsAt Try.f62 [1, 0, 1, 0, 0]) false) .ret) .skip)) (.seq (.region 3 (opsAt Try.f62 [1, 1, 0]) false) (.seq (.seq (.region 4 (opsAt Try.f62 [1, 1, 1, 0, 0]) false) (.block 0 (.loop (.seq (.region 5 (opsAt Try.f62 [1, 1, 1, 0, 1, 0, 0, 0]) false) (.seq (.cond (.tmp 15) .skip (.exit 0)) (.seq (.block 1 (.seq (.region 6 (opsAt Try.f62 [1, 1, 1, 0, 1, 0, 0, 1, 1, 0, 0, 0]) false) (.seq (.region 7 (opsAt Try.f62 [1, 1, 1, 0, 1, 0, 0, 1, 1, 0, 0, 1, 0]) false) (.seq (.region 8 (opsAt Try.f62 [1, 1, 1, 0, 1, 0, 0, 1, 1, 0, 0, 1, 1, 0]) false) (.cond (.tmp 29) (.seq (.region 9 (opsAt Try.f62 [1, 1, 1, 0, 1, 0, 0, 1, 1, 0, 0, 1, 1, 1, 0, 0]) true) (.region 10 (opsAt Try.f62 [1, 1, 1, 0, 1, 0, 0, 1, 1, 0, 0, 1, 1, 1, 0, 1]) false)) .skip))))) (.region 11 (opsAt Try.f62 [1, 1, 1, 0, 1, 0, 0, 1, 1, 1]) false))))))) (.seq (.region 12 (opsAt Try.f62 [1, 1, 1, 1, 0]) false) .ret)))))
theorem F62_body : Try.f62.body = some F62_code := by kernel_rfl
theorem F62_ok (x0 : Option Addr) (x1 : Int) (hp : HP) (K : Value → HP → Prop) (h : F62 x0 x1 hp K) : CF Try.prog 62 [(.pointer x0), (.int .i64 x1)] hp K := by
 refine .inl ⟨by kernel_rfl, AC.intro (N := 47) Try.func62 F62_body rfl (Nat.le_of_ble_eq_true rfl) ?_⟩
 unfold F62 at h
 unfold F62_code
 refine AWP.seq' ?_
 refine AWP.rgn (F62_r0 (upd (upd E0 1 (sI x1)) 0 (sP x0))  hp _) ?_ (Ru 0 (Ru 1 Rn)) (Sc rfl (Sc rfl Sn)) Sn
 refine AWP.seq' ?_
 refine AWP.seq' ?_
 refine AWP.rgn (F62_r1 (upd E0 1 (sI x1)) x0 hp _) ?_ (Ru 0 (Ru 1 Rn)) (Sc rfl (Sc rfl Sn)) Sn
 refine mC h fun u_1 h_2 h => mB h fun q_3 h => ?_
 refine AWP.cond (t := q_3) rfl (fun e => ?_) (fun e => ?_)
 ·replace h := ite2_t h e
  refine AWP.seq' ?_
  refine AWP.rgn (F62_r2 E0  h_2 _) ?_ Rn Sn Sn
  refine AWP.ret ?_
  exact h
 ·replace h := ite2_f h e
  refine AWP.skip ?_
  refine AWP.seq' ?_
  refine AWP.rgn (F62_r3 (upd (upd E0 1 (sI x1)) 0 (sP x0))  h_2 _) ?_ (Ru 0 (Ru 1 Rn)) (Sc rfl (Sc rfl Sn)) Sn
  refine AWP.seq (fun env pv hp => ∃ (x5a : Option Addr) (x5n : Nat) (x5c : Nat), Sub (upd E0 5 (sS x5a x5n x5c)) env ∧ Sub V0 pv ∧ (F62_j1 x5a x5n x5c hp  K)) ?_ ?_
  ·refine AWP.seq (fun env pv hp => ∃ (x0 : Option Addr) (x1 : Int) (x5a : Option Addr) (x5n : Nat) (x5c : Nat) (x12a : Option Addr) (x12n : Nat) (x12c : Nat) (x13 : Int) (x14 : Int), Sub (upd (upd (upd (upd (upd (upd E0 14 (sI x14)) 13 (sI x13)) 12 (sS x12a x12n x12c)) 5 (sS x5a x5n x5c)) 1 (sI x1)) 0 (sP x0)) env ∧ Sub V0 pv ∧ (F62_j2 x0 x1 x5a x5n x5c x12a x12n x12c x13 x14 hp  K)) ?_ ?_
   ·refine AWP.rgn (F62_r13 (upd (upd E0 5 (sS none 0 0)) 1 (sI x1)) x0 h_2 _) ?_ (Ru 0 (Ru 1 (Ru 5 Rn))) (Sc rfl (Sc rfl (Sc rfl Sn))) Sn
    refine mC h fun u_50 h_51 h => mS h fun a_52 n_53 c_54 h => ?_
    exact ⟨x0, x1, none, 0, 0, a_52, n_53, c_54, (n_53 : Nat), 0, (Sc rfl (Sc rfl (Sc rfl (Sc rfl (Sc rfl (Sc rfl Sn)))))), Sn, h⟩
   ·rintro env pv hp ⟨x0, x1, x5a, x5n, x5c, x12a, x12n, x12c, x13, x14, he, hv, h⟩
    refine AWP.sub (env' := (upd (upd (upd (upd (upd (upd E0 14 (sI x14)) 13 (sI x13)) 12 (sS x12a x12n x12c)) 5 (sS x5a x5n x5c)) 1 (sI x1)) 0 (sP x0))) (pv' := V0) ?_ (Ru 0 (Ru 1 (Ru 5 (Ru 12 (Ru 13 (Ru 14 Rn)))))) he hv (HSub.refl _)
    clear he hv
    unfold F62_j2 at h
    refine AWP.block ?_
    refine AWP.loop (σ := (Option Addr) × Nat × Nat × Int) (fun I s hp => F62_l3 x0 x1 x12a x12n x12c x13  K I s.1 s.2.1 s.2.2.1 s.2.2.2 hp) (fun s => (upd (upd (upd (upd (upd (upd E0 14 (sI (s.2.2.2))) 13 (sI x13)) 12 (sS x12a x12n x12c)) 5 (sV (.slice s.1 s.2.1 s.2.2.1))) 1 (sI x1)) 0 (sP x0))) (fun s => V0) (x5a, x5n, x5c, x14) h (fun s => (Ru 0 (Ru 1 (Ru 5 (Ru 12 (Ru 13 (Ru 14 Rn))))))) (Sc rfl (Sc rfl (Sc rfl (Sc rfl (Sc rfl (Sc rfl Sn)))))) Sn ?_
    intro I3 s hp h
    obtain ⟨x5a, x5n, x5c, x14⟩ := s
    replace h : F62_l3 x0 x1 x12a x12n x12c x13  K I3 x5a x5n x5c x14 hp := h
    unfold F62_l3 at h
    refine AWP.seq' ?_
    refine AWP.rgn (F62_r5 (upd (upd (upd (upd E0 12 (sS x12a x12n x12c)) 5 (sS x5a x5n x5c)) 1 (sI x1)) 0 (sP x0)) x13 x14 hp _) ?_ (Ru 13 (Ru 14 (Ru 0 (Ru 1 (Ru 5 (Ru 12 Rn)))))) (Sc rfl (Sc rfl (Sc rfl (Sc rfl (Sc rfl (Sc rfl Sn)))))) Sn
    refine AWP.seq' ?_
    refine AWP.cond (t := (decide (x14 < x13))) rfl (fun e => ?_) (fun e => ?_)
    ·replace h := ite2_t h e
     refine AWP.skip ?_
     refine AWP.seq (fun env pv hp => ∃ (x5a : Option Addr) (x5n : Nat) (x5c : Nat) (x14 : Int), Sub (upd (upd (upd (upd (upd (upd E0 14 (sI x14)) 13 (sI x13)) 12 (sS x12a x12n x12c)) 5 (sS x5a x5n x5c)) 1 (sI x1)) 0 (sP x0)) env ∧ Sub V0 pv ∧ (F62_j4 x0 x1 x5a x5n x5c x12a x12n x12c x13 x14 hp I3 K)) ?_ ?_
     ·refine AWP.block ?_
      refine AWP.seq' ?_
      refine AWP.rgn (F62_r7 (upd (upd (upd (upd E0 13 (sI x13)) 5 (sS x5a x5n x5c)) 1 (sI x1)) 0 (sP x0)) x12a x12n x12c x14 hp _) ?_ (Ru 12 (Ru 14 (Ru 0 (Ru 1 (Ru 5 (Ru 13 Rn)))))) (Sc rfl (Sc rfl (Sc rfl (Sc rfl (Sc rfl (Sc rfl Sn)))))) Sn
      refine ⟨h.1, h.2.1, mN h.2.2 fun b_4 o_5 h => mV h fun v_6 h => ms h fun s_7 h => ?_⟩
      refine AWP.seq' ?_
      refine AWP.rgn (F62_r8 (upd (upd (upd (upd (upd E0 14 (sI x14)) 13 (sI x13)) 12 (sS x12a x12n x12c)) 5 (sS x5a x5n x5c)) 1 (sI x1)) x0 s_7 hp _) ?_ (Ru 0 (Ru 7 (Ru 1 (Ru 5 (Ru 12 (Ru 13 (Ru 14 Rn))))))) (Sc rfl (Sc rfl (Sc rfl (Sc rfl (Sc rfl (Sc rfl (Sc rfl Sn))))))) Sn
      refine mN h fun b_8 o_9 h => mV h fun v_10 h => mM h fun m_11 h => mR h fun u_12 h => mP h fun p_13 h => ?_
      refine AWP.seq' ?_
      refine AWP.rgn (F62_r9 (upd (upd (upd (upd (upd (upd E0 14 (sI x14)) 13 (sI x13)) 12 (sS x12a x12n x12c)) 7 (sV (.string s_7))) 5 (sS x5a x5n x5c)) 0 (sP x0)) x1 p_13 hp _) ?_ (Ru 1 (Ru 8 (Ru 0 (Ru 5 (Ru 7 (Ru 12 (Ru 13 (Ru 14 Rn)))))))) (Sc rfl (Sc rfl (Sc rfl (Sc rfl (Sc rfl (Sc rfl (Sc rfl (Sc rfl Sn)))))))) Sn
      refine mN h fun b_14 o_15 h => mV h fun v_16 h => mI h fun i_17 h => ?_
      refine AWP.cond (t := (decide (i_17 ≤ x1))) rfl (fun e => ?_) (fun e => ?_)
      ·replace h := ite2_t h e
       refine AWP.seq (fun env pv hp => ∃ (x5a : Option Addr) (x5n : Nat) (x5c : Nat) (x7 : ByteArray) (x14 : Int), Sub (upd (upd (upd (upd (upd (upd (upd E0 14 (sI x14)) 13 (sI x13)) 12 (sS x12a x12n x12c)) 7 (sV (.string x7))) 5 (sS x5a x5n x5c)) 1 (sI x1)) 0 (sP x0)) env ∧ Sub V0 pv ∧ (F62_j5 x0 x1 x5a x5n x5c x7 x12a x12n x12c x13 x14 hp I3 K)) ?_ ?_
       ·refine AWP.rgnC (cf := [(3, 7)]) (c := [([true], true, [0, 1, 2, 3, 4, 5, 6, 7, 8, 9, 10, 11, 12]), ([false], true, [0, 1, 2, 4, 5, 6, 7, 3, 8, 9, 10, 11, 12])]) (by kernel_rfl) (by kernel_rfl) (by kernel_rfl) (by kernel_rfl) (allO_t (Eq.mpr (F62_r11 (upd (upd (upd (upd (upd E0 14 (sI x14)) 13 (sI x13)) 12 (sS x12a x12n x12c)) 1 (sI x1)) 0 (sP x0)) x5a x5n x5c s_7 p_13 hp _) ?_) (allO_t (Eq.mpr (F62_r12 (upd (upd (upd (upd (upd E0 14 (sI x14)) 13 (sI x13)) 12 (sS x12a x12n x12c)) 1 (sI x1)) 0 (sP x0)) x5a x5n x5c s_7 p_13 hp _) ?_) trivial)) (Ru 5 (Ru 7 (Ru 8 (Ru 0 (Ru 1 (Ru 12 (Ru 13 (Ru 14 Rn)))))))) (Sc rfl (Sc rfl (Sc rfl (Sc rfl (Sc rfl (Sc rfl (Sc rfl (Sc rfl Sn)))))))) Sn
        ·replace h := h.1
         refine mC h fun u_20 h_21 h => ms h fun s_22 h => mN h fun b_23 o_24 h => mV h fun v_25 h => mS h fun a_26 n_27 c_28 h => mf h fun h => ?_
         refine fun b_29 hb_b_29 => ?_
         replace h := h b_29 hb_b_29
         refine mO h fun u_30 h_31 h => mS h fun a_32 n_33 c_34 h => ?_
         exact ⟨a_32, n_33, c_34, s_7, x14, (Sc rfl (Sc rfl (Sc rfl (Sc rfl (Sc rfl (Sc rfl (Sc rfl Sn))))))), Sn, h⟩
        ·replace h := h.2
         refine mN h fun b_35 o_36 h => mV h fun v_37 h => mS h fun a_38 n_39 c_40 h => mC h fun u_41 h_42 h => ms h fun s_43 h => mf h fun h => ?_
         refine fun b_44 hb_b_44 => ?_
         replace h := h b_44 hb_b_44
         refine mO h fun u_45 h_46 h => mS h fun a_47 n_48 c_49 h => ?_
         exact ⟨a_47, n_48, c_49, s_7, x14, (Sc rfl (Sc rfl (Sc rfl (Sc rfl (Sc rfl (Sc rfl (Sc rfl Sn))))))), Sn, h⟩
       ·rintro env pv hp ⟨x5a, x5n, x5c, x7, x14, he, hv, h⟩
        refine AWP.sub (env' := (upd (upd (upd (upd (upd (upd (upd E0 14 (sI x14)) 13 (sI x13)) 12 (sS x12a x12n x12c)) 7 (sV (.string x7))) 5 (sS x5a x5n x5c)) 1 (sI x1)) 0 (sP x0))) (pv' := V0) ?_ (Ru 0 (Ru 1 (Ru 5 (Ru 7 (Ru 12 (Ru 13 (Ru 14 Rn))))))) he hv (HSub.refl _)
        clear he hv
        unfold F62_j5 at h
        refine AWP.rgn (F62_r10 (upd (upd (upd (upd (upd E0 14 (sI x14)) 13 (sI x13)) 12 (sS x12a x12n x12c)) 5 (sS x5a x5n x5c)) 1 (sI x1)) x0 x7 hp _) ?_ (Ru 0 (Ru 7 (Ru 1 (Ru 5 (Ru 12 (Ru 13 (Ru 14 Rn))))))) (Sc rfl (Sc rfl (Sc rfl (Sc rfl (Sc rfl (Sc rfl (Sc rfl Sn))))))) Sn
        refine mC h fun u_18 h_19 h => ?_
        exact ⟨x5a, x5n, x5c, x14, (Sc rfl (Sc rfl (Sc rfl (Sc rfl (Sc rfl (Sc rfl Sn)))))), Sn, h⟩
      ·replace h := ite2_f h e
       refine AWP.skip ?_
       exact ⟨x5a, x5n, x5c, x14, (Sc rfl (Sc rfl (Sc rfl (Sc rfl (Sc rfl (Sc rfl Sn)))))), Sn, h⟩
     ·rintro env pv hp ⟨x5a, x5n, x5c, x14, he, hv, h⟩
      refine AWP.sub (env' := (upd (upd (upd (upd (upd (upd E0 14 (sI x14)) 13 (sI x13)) 12 (sS x12a x12n x12c)) 5 (sS x5a x5n x5c)) 1 (sI x1)) 0 (sP x0))) (pv' := V0) ?_ (Ru 0 (Ru 1 (Ru 5 (Ru 12 (Ru 13 (Ru 14 Rn)))))) he hv (HSub.refl _)
      clear he hv
      unfold F62_j4 at h
      refine AWP.rgn (F62_r6 (upd (upd (upd (upd (upd E0 13 (sI x13)) 12 (sS x12a x12n x12c)) 5 (sS x5a x5n x5c)) 1 (sI x1)) 0 (sP x0)) x14 hp _) ?_ (Ru 14 (Ru 0 (Ru 1 (Ru 5 (Ru 12 (Ru 13 Rn)))))) (Sc rfl (Sc rfl (Sc rfl (Sc rfl (Sc rfl (Sc rfl Sn)))))) Sn
      exact ⟨(x5a, x5n, x5c, (wr (x14 + 1))), (Sc rfl (Sc rfl (Sc rfl (Sc rfl (Sc rfl (Sc rfl Sn)))))), Sn, h⟩
    ·replace h := ite2_f h e
     refine AWP.exit ?_
     exact ⟨x5a, x5n, x5c, (Sc rfl Sn), Sn, h⟩
  ·rintro env pv hp ⟨x5a, x5n, x5c, he, hv, h⟩
   refine AWP.sub (env' := (upd E0 5 (sS x5a x5n x5c))) (pv' := V0) ?_ (Ru 5 Rn) he hv (HSub.refl _)
   clear he hv
   unfold F62_j1 at h
   refine AWP.seq' ?_
   refine AWP.rgn (F62_r4 E0 x5a x5n x5c hp _) ?_ (Ru 5 Rn) (Sc rfl Sn) Sn
   refine AWP.ret ?_
   exact h
end
-- 60 (*interpreter/frag.Store).Keys
section
variable (e : Env) (x0 : Option Addr) (hp : HP) (K : Env → PV → HP → Prop)
abbrev R60 (p : List Nat) (n : Nat) := RW Try.prog 7 [] (opsAt Try.f60 p) (List.range n)
theorem F60_r0 : R60 [0] 1 e V0 hp K =
    (K (upd e 2 (sS none 0 0)) V0 hp) := by kernel_rfl
theorem F60_r1 : R60 [1, 0, 0] 2 (upd e 0 (sP x0)) V0 hp K =
    (CF Try.prog 75 [(.pointer x0)] hp fun u1 h2 => (boolV u1 fun q3 => (K (upd (upd (upd e 0 (sP x0)) 3 (sP x0)) 4 (sB q3)) V0 h2))) := by kernel_rfl
theorem F60_r2 : R60 [1, 0, 1, 0, 0] 1 e V0 hp K =
    (K (upd e 2 (sS none 0 0)) V0 hp) := by kernel_rfl
theorem F60_r3 : R60 [1, 1, 0] 3 (upd e 0 (sP x0)) V0 hp K =
    (CF Try.prog 107 [(.pointer x0), (.func (.func 108) ⟨[]⟩ ⟨[]⟩)] hp fun u1 h2 => (slcV u1 fun a3 n4 c5 => (K (upd (upd (upd (upd e 0 (sP x0)) 5 (sP x0)) 6 (sS a3 n4 c5)) 2 (sS a3 n4 c5)) V0 h2))) := by kernel_rfl
def F60 (x0 : Option Addr) (hp : HP) (K : Value → HP → Prop) : Prop :=
  (CF Try.prog 75 [(.pointer x0)] hp fun u_1 h_2 => (boolV u_1 fun q_3 => (ite2 q_3 (K (.slice none 0 0) h_2) (CF Try.prog 107 [(.pointer x0), (.func (.func 108) ⟨[]⟩ ⟨[]⟩)] h_2 fun u_4 h_5 => (slcV u_4 fun a_6 n_7 c_8 => (K (.slice a_6 n_7 c_8) h_5))))))
noncomputable def F60_code : Code := (.seq (.region 0 (opsAt Try.f60 [0]) false) (.seq (.seq (.region 1 (opsAt Try.f60 [1, 0, 0]) false) (.cond (.tmp 4) (.seq (.region 2 (opsAt Try.f60 [1, 0, 1, 0, 0]) false) .ret) .skip)) (.seq (.region 3 (opsAt Try.f60 [1, 1, 0]) false) .ret)))
theorem F60_body : Try.f60.body = some F60_code := by kernel_rfl
theorem F60_ok (x0 : Option Addr) (hp : HP) (K : Value → HP → Prop) (h : F60 x0 hp K) : CF Try.prog 60 [(.pointer x0)] hp K := by
 refine .inl ⟨by kernel_rfl, AC.intro (N := 7) Try.func60 F60_body rfl (Nat.le_of_ble_eq_true rfl) ?_⟩
 unfold F60 at h
 unfold F60_code
 refine AWP.seq' ?_
 refine AWP.rgn (F60_r0 (upd E0 0 (sP x0))  hp _) ?_ (Ru 0 Rn) (Sc rfl Sn) Sn
 refine AWP.seq' ?_
 refine AWP.seq' ?_
 refine AWP.rgn (F60_r1 E0 x0 hp _) ?_ (Ru 0 Rn) (Sc rfl Sn) Sn
 refine mC h fun u_1 h_2 h => mB h fun q_3 h => ?_
 refine AWP.cond (t := q_3) rfl (fun e => ?_) (fun e => ?_)
 ·replace h := ite2_t h e
  refine AWP.seq' ?_
  refine AWP.rgn (F60_r2 E0  h_2 _) ?_ Rn Sn Sn
  refine AWP.ret ?_
  exact h
 ·replace h := ite2_f h e
  refine AWP.skip ?_
  refine AWP.seq' ?_
  refine AWP.rgn (F60_r3 E0 x0 h_2 _) ?_ (Ru 0 Rn) (Sc rfl Sn) Sn
  refine mC h fun u_4 h_5 h => mS h fun a_6 n_7 c_8 h => ?_
  refine AWP.ret ?_
  exact h
end
-- 70 (*interpreter/frag.Store).Of
section
variable (e : Env) (x0 : Option Addr) (x1 : ByteArray) (hp : HP) (K : Env → PV → HP → Prop)
abbrev R70 (p : List Nat) (n : Nat) := RW Try.prog 13 [] (opsAt Try.f70 p) (List.range n)
theorem F70_r0 : R70 [0] 1 e V0 hp K =
    (K (upd e 4 (sI 0)) V0 hp) := by kernel_rfl
theorem F70_r1 : R70 [1, 0, 0] 2 (upd e 0 (sP x0)) V0 hp K =
    (CF Try.prog 75 [(.pointer x0)] hp fun u1 h2 => (boolV u1 fun q3 => (K (upd (upd (upd e 0 (sP x0)) 5 (sP x0)) 6 (sB q3)) V0 h2))) := by kernel_rfl
theorem F70_r2 : R70 [1, 0, 1, 0, 0] 1 e V0 hp K =
    (K (upd e 4 (sI 0)) V0 hp) := by kernel_rfl
theorem F70_r3 : R70 [1, 1, 0] 7 (upd (upd e 1 (sV (.string x1))) 0 (sP x0)) V0 hp K =
    (ptrN x0 fun b1 o2 => (ldV (HP.cell hp b1 (o2 + 5)) fun v3 => (mapV v3 fun m4 => (rdS Try.prog (Instr.lookup 97 (.map m4) (.string x1) false) hp fun u5 => (intV u5 .i64 fun i6 => (K (upd (upd (upd (upd (upd (upd (upd (upd (upd e 1 (sV (.string x1))) 0 (sP x0)) 7 (sP x0)) 8 (sQ b1 o2)) 9 (sQ b1 (o2 + 5))) 10 (sV (.map m4))) 11 (sV (.string x1))) 12 (sI i6)) 4 (sI i6)) V0 hp)))))) := by kernel_rfl
def F70 (x0 : Option Addr) (x1 : ByteArray) (hp : HP) (K : Value → HP → Prop) : Prop :=
  (CF Try.prog 75 [(.pointer x0)] hp fun u_1 h_2 => (boolV u_1 fun q_3 => (ite2 q_3 (K (.int .i64 0) h_2) (ptrN x0 fun b_4 o_5 => (ldV (HP.cell h_2 b_4 (o_5 + 5)) fun v_6 => (mapV v_6 fun m_7 => (rdS Try.prog (Instr.lookup 97 (.map m_7) (.string x1) false) h_2 fun u_8 => (intV u_8 .i64 fun i_9 => (K (.int .i64 i_9) h_2)))))))))
noncomputable def F70_code : Code := (.seq (.region 0 (opsAt Try.f70 [0]) false) (.seq (.seq (.region 1 (opsAt Try.f70 [1, 0, 0]) false) (.cond (.tmp 6) (.seq (.region 2 (opsAt Try.f70 [1, 0, 1, 0, 0]) false) .ret) .skip)) (.seq (.region 3 (opsAt Try.f70 [1, 1, 0]) false) .ret)))
theorem F70_body : Try.f70.body = some F70_code := by kernel_rfl
theorem F70_ok (x0 : Option Addr) (x1 : ByteArray) (hp : HP) (K : Value → HP → Prop) (h : F70 x0 x1 hp K) : CF Try.prog 70 [(.pointer x0), (.string x1)] hp K := by
 refine .inl ⟨by kernel_rfl, AC.intro (N := 13) Try.func70 F70_body rfl (Nat.le_of_ble_eq_true rfl) ?_⟩
 unfold F70 at h
 unfold F70_code
 refine AWP.seq' ?_
 refine AWP.rgn (F70_r0 (upd (upd E0 1 (sV (.string x1))) 0 (sP x0))  hp _) ?_ (Ru 0 (Ru 1 Rn)) (Sc rfl (Sc rfl Sn)) Sn
 refine AWP.seq' ?_
 refine AWP.seq' ?_
 refine AWP.rgn (F70_r1 (upd E0 1 (sV (.string x1))) x0 hp _) ?_ (Ru 0 (Ru 1 Rn)) (Sc rfl (Sc rfl Sn)) Sn
 refine mC h fun u_1 h_2 h => mB h fun q_3 h => ?_
 refine AWP.cond (t := q_3) rfl (fun e => ?_) (fun e => ?_)
 ·replace h := ite2_t h e
  refine AWP.seq' ?_
  refine AWP.rgn (F70_r2 E0  h_2 _) ?_ Rn Sn Sn
  refine AWP.ret ?_
  exact h
 ·replace h := ite2_f h e
  refine AWP.skip ?_
  refine AWP.seq' ?_
  refine AWP.rgn (F70_r3 E0 x0 x1 h_2 _) ?_ (Ru 0 (Ru 1 Rn)) (Sc rfl (Sc rfl Sn)) Sn
  refine mN h fun b_4 o_5 h => mV h fun v_6 h => mM h fun m_7 h => mR h fun u_8 h => mI h fun i_9 h => ?_
  refine AWP.ret ?_
  exact h
end
end Go.Proofs

set_option linter.unusedVariables false
set_option maxRecDepth 20000
namespace Go.Proofs
open Go Go.HL

theorem C72 {x : Int} {b : Bool} {s : ByteArray} {hp : HP} {K : Value → HP → Prop} (h : K (.agg ⟨pc ⟨⟨#[107]⟩, ⟨#[115]⟩, x, b, s, ⟨#[]⟩⟩⟩) hp) : CF Try.prog 72 [.int .i64 x, .bool b, .string s] hp K := by
  refine F72_ok x b s hp K ?_
  unfold F72
  exact ifI rfl (ifI rfl (ifI (Nat.le_refl 6) h))

def pA : Pc := ⟨⟨#[107]⟩, ⟨#[115]⟩, 8, false, ⟨#[97, 98]⟩, ⟨#[]⟩⟩
def pB : Pc := ⟨⟨#[107]⟩, ⟨#[115]⟩, 0, true, ⟨#[49, 50, 51, 52, 53, 54, 55, 56]⟩, ⟨#[]⟩⟩
def stA (d : Dg) : Stt := ⟨4, 3, 1, 1, [(pA.key, d)], [(pA.src, 1)]⟩

theorem put1 {w : List Value} {b : Bool} {e : Int} {S' : Stt} (h : PutR ⟨4, 3, 0, 0, [], []⟩ pA 5 w b e S') : w = zeroW ∧ b = false ∧ e = 0 ∧ ∃ d : Dg, d.fin = 10 ∧ d.l = [pA] ∧ S' = stA d := by
  have hr : rightP pA = true := by decide
  have ht : pA.toW = 10 := by decide
  cases h with
  | arg h => exact absurd ⟨by decide, by decide⟩ h
  | form _ h => rw [hr] at h; cases h
  | again d _ _ h => cases h
  | clash d _ _ h => cases h
  | alone _ _ _ h => exact absurd h (by decide)
  | full _ _ _ h => exact absurd h (by decide)
  | state _ _ _ _ h => exact absurd h (by decide)
  | part d' last' _ _ _ _ _ htk hn =>
    rcases htk with ⟨_, _, _, _, hf, _⟩ | ⟨d, hg, _⟩
    · have : d'.fin = 10 := hf.trans ht
      omega
    · cases hg
  | none d' last' l' _ _ _ _ _ htk hp hperm hs hw =>
    rcases htk with ⟨_, h1, _, _, hf, hl⟩ | ⟨d, hg, _⟩
    · have hf' : d'.fin = 10 := hf.trans ht
      rw [hl] at hperm
      have hl' := List.perm_singleton.1 hperm
      subst h1
      exact ⟨rfl, rfl, rfl, { d' with l := l' }, hf', hl', rfl⟩
    · cases hg
  | whole d' last' l' w _ _ _ _ _ htk hp hperm hs hw =>
    rcases htk with ⟨_, h1, _, _, hf, hl⟩ | ⟨d, hg, _⟩
    · have hf' : d'.fin = 10 := hf.trans ht
      rw [hl] at hperm
      have hl' := List.perm_singleton.1 hperm
      rw [hl', hf'] at hw
      have : wholeQ 10 [pA] = none := by decide
      rw [this] at hw; cases hw
    · cases hg

theorem put2 {d : Dg} (hd : d.fin = 10) (hl : d.l = [pA]) {w : List Value} {b : Bool} {e : Int} {S' : Stt} (h : PutR (stA d) pA 9 w b e S') : w = zeroW ∧ b = false ∧ e = 0 ∧ S' = stA d := by
  have hr : rightP pA = true := by decide
  have hg : getL pA.key (stA d).D = some d := by unfold stA; simp [getL]
  have hs : d.l.any (sameP pA) = true := by rw [hl]; decide
  have no : ¬ Room (stA d) pA := by
    unfold Room; rw [hg]; simp only; rw [hs]; simp
  cases h with
  | arg h => exact absurd ⟨by decide, by decide⟩ h
  | form _ h => rw [hr] at h; cases h
  | again => exact ⟨rfl, rfl, rfl, rfl⟩
  | clash d' _ _ h h' => rw [hg] at h; cases h; rw [hs] at h'; cases h'
  | alone _ _ h => rw [hg] at h; cases h
  | full _ _ h => exact absurd h no
  | state _ _ h => exact absurd h no
  | part _ _ _ _ h => exact absurd h no
  | none _ _ _ _ _ h => exact absurd h no
  | whole _ _ _ _ _ _ h => exact absurd h no

theorem put3 {d : Dg} (hd : d.fin = 10) (hl : d.l = [pA]) {w : List Value} {b : Bool} {e : Int} {S' : Stt} (h : PutR (stA d) pB 9 w b e S') : (∃ head : ByteArray, w = wh pB.key head ⟨#[49, 50, 51, 52, 53, 54, 55, 56, 97, 98]⟩ 2) ∧ b = true ∧ e = 0 ∧ S'.n = 0 := by
  have hr : rightP pB = true := by decide
  have hg : getL pB.key (stA d).D = some d := by
    have : pB.key = pA.key := rfl
    rw [this]; unfold stA; simp [getL]
  have hs : d.l.any (sameP pB) = false := by rw [hl]; decide
  have hfit : fitsQ d.fin d.l pB = true := by rw [hl, hd]; decide
  have took : ∀ {last' : Int} {d' : Dg}, Took (stA d) pB 9 last' d' → d'.fin = 10 ∧ d'.l = [pA, pB] := by
    intro last' d' htk
    rcases htk with ⟨h, _⟩ | ⟨d2, h, _, _, _, hf, hl2⟩
    · rw [hg] at h; cases h
    · rw [hg] at h; cases h
      exact ⟨hf.trans hd, by rw [hl2, hl]; rfl⟩
  have sorted : ∀ {l' : List Pc}, l'.Perm [pA, pB] → l'.Pairwise (fun x y => ltC cfP y x = false) → l' = [pB, pA] := by
    intro l' hp hs
    have hlen := hp.length_eq
    match l', hlen with
    | [x, y], _ =>
      have hx : x = pA ∨ x = pB := by simpa using hp.mem_iff.1 (List.mem_cons_self)
      rcases hx with rfl | rfl
      · have := List.perm_singleton.1 hp.cons_inv
        simp only [List.cons.injEq, and_true] at this
        subst this
        rw [List.pairwise_cons] at hs
        have := hs.1 pB (by simp)
        have h2 : ltC cfP pB pA = true := by decide
        rw [h2] at this; cases this
      · have hp2 := hp.trans (List.Perm.swap pB pA [])
        have := List.perm_singleton.1 hp2.cons_inv
        rw [this]
  have hwq : wholeQ 10 [pB, pA] = some ⟨#[49, 50, 51, 52, 53, 54, 55, 56, 97, 98]⟩ := by decide
  cases h with
  | arg h => exact absurd ⟨by decide, by decide⟩ h
  | form _ h => rw [hr] at h; cases h
  | again d' _ _ h h' => rw [hg] at h; cases h; rw [hs] at h'; cases h'
  | clash d' _ _ h _ h' => rw [hg] at h; cases h; rw [hfit] at h'; cases h'
  | alone _ _ h => rw [hg] at h; cases h
  | full _ _ _ h =>
    have h1 : (1 : Int) ≥ 4 := h
    omega
  | state _ _ _ _ h =>
    have h0 : (getL pB.src (stA d).of).getD 0 = 1 := by
      have e : pB.src = pA.src := rfl
      rw [e]; unfold stA; simp [getL]
    rw [h0] at h
    have h1 : (1 : Int) ≥ 3 := h
    omega
  | part d' last' _ _ _ _ _ htk hn => have := (took htk).1; omega
  | none d' last' l' _ _ _ _ _ htk hp hperm hso hw =>
    obtain ⟨t1, t2⟩ := took htk
    rw [t2] at hperm
    rw [sorted hperm hso, t1, hwq] at hw; cases hw
  | whole d' last' l' w _ _ _ _ _ htk hp hperm hso hw =>
    obtain ⟨t1, t2⟩ := took htk
    rw [t2] at hperm
    have hl' := sorted hperm hso
    rw [hl', t1, hwq] at hw
    cases hw
    refine ⟨⟨headQ d'.l, by rw [t2]; rfl⟩, rfl, rfl, ?_⟩
    unfold cutS setS takeS stA
    simp only [hl']
    decide

theorem C22 {hp : HP} {K : Value → HP → Prop} (h : K (.bool true) hp) : CF Try.prog 22 [] hp K := by
  refine CF.drop (F22_ok hp _ ?_)
  unfold F22
  refine C25 (fun hn => absurd (by omega) hn) ?_
  intro _ q m mo hp1 hst
  have g1 := hst hp (HSub.refl _)
  have pp : ∀ c : Option Addr → Prop, ptrV (ptr q 0) c = c (some ⟨q, 0, none⟩) := fun _ => rfl
  simp only [tup2V_mk, intV_int, pp]
  show ite2 false _ (F22_j1 _ false _ _)
  rw [ite2_false]
  unfold F22_j1
  rw [ite2_false]
  have whl : ∀ a b c d, (wh a b c d).length = 4 := fun _ _ _ _ => rfl
  have who : ∀ a b c d, (wh a b c d).all one = true := fun _ _ _ _ => rfl
  have hz0 : [(Value.string ⟨#[]⟩), (Value.string ⟨#[]⟩), (Value.string ⟨#[]⟩), (Value.int .i64 0)] = wh e0s e0s e0s 0 := rfl
  have hsp : ∀ a b c d a' b' c' d', splice (wh a b c d) 0 (wh a' b' c' d') = wh a' b' c' d' := fun _ _ _ _ _ _ _ _ => splice_all rfl
  refine C72 ?_
  rw [aggV_agg]
  refine C26 (p := pA) g1 ⟨by decide, by decide⟩ (fun d hd => by cases hd) (fun d hd => by cases hd) ?_
  intro hp2 w b e S1 hput s1
  obtain ⟨rfl, rfl, rfl, d, hd, hl, rfl⟩ := put1 hput
  have g2 := s1 hp g1
  have hgd : ∀ {k : ByteArray} {d2 : Dg}, getL k (stA d).D = some d2 → d2 = d := by
    intro k d2 h2
    unfold stA at h2
    simp only [getL] at h2
    split at h2
    · cases h2; rfl
    · cases h2
  simp only [tup3V_mk, aggV_agg, boolV_bool, intV_int, zeroW, whl, who, if_true, hz0, Nat.zero_add]
  refine ifI (Nat.le_refl _) ?_
  refine C72 ?_
  rw [aggV_agg]
  have len1 : ∀ {k : ByteArray} (d2 : Dg), getL k (stA d).D = some d2 → d2.l.length < 19 := fun d2 h2 => by rw [hgd h2, hl]; decide
  have ri1 : ∀ {k : ByteArray} (d2 : Dg), getL k (stA d).D = some d2 → ∀ x ∈ d2.l, rightP x = true := fun d2 h2 x hx => by
    rw [hgd h2, hl, List.mem_singleton] at hx; rw [hx]; decide
  refine C26 (p := pA) g2 ⟨by decide, by decide⟩ len1 ri1 ?_
  intro hp3 w b e S2 hput s2
  obtain ⟨rfl, rfl, rfl, rfl⟩ := put2 hd hl hput
  have g3 := s2 hp g2
  simp only [tup3V_mk, aggV_agg, boolV_bool, intV_int, zeroW, whl, who, if_true, hz0, Nat.zero_add]
  refine ifI (Nat.le_refl _) ?_
  refine C72 ?_
  rw [aggV_agg]
  refine C26 (p := pB) g3 ⟨by decide, by decide⟩ len1 ri1 ?_
  intro hp4 w b e S3 hput s3
  obtain ⟨⟨head, rfl⟩, rfl, rfl, hn⟩ := put3 hd hl hput
  have g4 := s3 hp g3
  have w2 : ∀ a b c d, (wh a b c d)[2]? = some (.string c) := fun _ _ _ _ => rfl
  have w3 : ∀ a b c d, (wh a b c d)[3]? = some (.int .i64 d) := fun _ _ _ _ => rfl
  simp only [tup3V_mk, aggV_agg, boolV_bool, intV_int, whl, who, if_true, hz0, Nat.zero_add, hsp, w2, w3, ldV_some, strV_string, str_eq]
  refine ifI (Nat.le_refl _) ?_
  show ite2 true (ite2 true (ite2 true (ite2 true (ite2 true (ite2 true (ite2 _ _ _) _) _) _) _) _) _
  simp only [ite2_true, decide_eq_true_eq]
  show ite2 true _ _
  rw [ite2_true]
  show ite2 true _ _
  rw [ite2_true]
  refine C27 g4 ?_
  rw [intV_int, hn]
  exact ⟨hp, g4.1, h⟩
end Go.Proofs

set_option linter.unusedVariables false
set_option maxRecDepth 20000
namespace Go.Proofs
open Go Go.HL
-- 17 interpreter/interpreterlaw16.FragNobody
section
variable (e : Env) (x0 : List Value) (x1 : Int) (x5 : Option Addr) (x7 : Bool) (x8 : Int) (k2 : List Value) (hp : HP) (K : Env → PV → HP → Prop)
abbrev R17 (p : List Nat) (n : Nat) := RW Try.prog 82 [2, 6, 9, 14, 20, 26, 66] (opsAt Try.f17 p) (List.range n)
theorem F17_r0 : R17 [0] 2 (upd e 0 (sA x0)) V0 hp K =
    (K (upd (upd (upd e 0 (sA x0)) 2 (sR 2 0)) 4 (sB false)) (upd V0 2 (29, x0)) hp) := by kernel_rfl
theorem F17_r1 : R17 [1, 0, 1, 0, 0] 2 e V0 hp K =
    (CF Try.prog 22 [] hp fun u1 h2 => (boolV u1 fun q3 => (K (upd (upd e 31 (sB q3)) 4 (sB q3)) V0 h2))) := by kernel_rfl
theorem F17_r2 : R17 [1, 1, 0] 1 e (upd V0 2 (29, k2)) hp K =
    (K (upd e 5 (sP none)) (upd V0 2 (29, k2)) hp) := by kernel_rfl
theorem F17_r3 : R17 [1, 1, 1, 0] 12 (upd (upd (upd e 5 (sP x5)) 2 (sR 2 0)) 1 (sI x1)) (upd V0 2 (29, k2)) hp K =
    (ldL (cellsN k2 0 6) fun l1 => (CF Try.prog 26 [(.pointer x5), (.agg ⟨l1⟩), (.int .i64 x1)] hp fun u2 h3 => (tup3V u2 fun u4 u5 u6 => (aggV u4 fun l7 => (boolV u5 fun q8 => (intV u6 .i64 fun i9 => (if List.length l7 = 4 then (if List.all l7 one = true then (if 0 + List.length l7 ≤ List.length [(Value.string ⟨#[]⟩), .string ⟨#[]⟩, .string ⟨#[]⟩, .int .i64 0] then (K (upd (upd (upd (upd (upd (upd (upd (upd (upd (upd (upd (upd (upd (upd e 5 (sP x5)) 2 (sR 2 0)) 1 (sI x1)) 33 (sP x5)) 34 (sA l1)) 35 (sI x1)) 36 (sV (.tuple ⟨[(.agg ⟨l7⟩), (.bool q8), (.int .i64 i9)]⟩))) 32 (sV (.tuple ⟨[(.agg ⟨l7⟩), (.bool q8), (.int .i64 i9)]⟩))) 37 (sA l7)) 38 (sB q8)) 39 (sI i9)) 6 (sR 6 0)) 7 (sB q8)) 8 (sI i9)) (upd (upd (upd V0 2 (29, k2)) 6 (36, [.string ⟨#[]⟩, .string ⟨#[]⟩, .string ⟨#[]⟩, .int .i64 0])) 6 (36, (splice [.string ⟨#[]⟩, .string ⟨#[]⟩, .string ⟨#[]⟩, .int .i64 0] 0 l7))) h3) else False) else False) else False))))))) := by kernel_rfl
theorem F17_r4 : R17 [1, 1, 1, 1, 0] 43 (upd (upd (upd (upd (upd e 8 (sI x8)) 7 (sB x7)) 5 (sP x5)) 2 (sR 2 0)) 1 (sI x1)) (upd V0 2 (29, k2)) hp K =
    (ite2 (!x7) (ite2 (x8 == 2) (CF Try.prog 62 [(.pointer x5), (.int .i64 x1)] hp fun u1 h2 => (slcV u1 fun a3 n4 c5 => (ite2 (((n4 : Nat) : Int) == 0) (CF Try.prog 27 [(.pointer x5)] h2 fun u6 h7 => (intV u6 .i64 fun i8 => (ite2 (i8 == 0) (CF Try.prog 60 [(.pointer x5)] h7 fun u9 h10 => (slcV u9 fun a11 n12 c13 => (ite2 (((n12 : Nat) : Int) == 0) (ldV (k2)[1]? fun v14 => (strV v14 fun s15 => (CF Try.prog 70 [(.pointer x5), (.string s15)] h10 fun u16 h17 => (intV u16 .i64 fun i18 => (ite2 (i18 == 0) (ldL (cellsN k2 0 6) fun l19 => (CF Try.prog 67 [(.agg ⟨l19⟩)] h17 fun u20 h21 => (boolV u20 fun q22 => (ldL (cellsN k2 0 6) fun l23 => (CF Try.prog 66 [(.agg ⟨l23⟩)] h21 fun u24 h25 => (aggV u24 fun l26 => (CF Try.prog 68 [(.agg ⟨l26⟩)] h25 fun u27 h28 => (boolV u27 fun q29 => (ite2 (q22 == q29) (CF Try.prog 22 [] h28 fun u30 h31 => (boolV u30 fun q32 => (K (upd (upd (upd (upd (upd (upd (upd (upd (upd (upd (upd (upd (upd (upd (upd (upd (upd (upd (upd (upd (upd (upd (upd (upd (upd (upd (upd (upd (upd (upd (upd (upd (upd (upd (upd (upd (upd (upd (upd (upd (upd (upd (upd (upd (upd (upd (upd (upd e 8 (sI x8)) 7 (sB x7)) 5 (sP x5)) 2 (sR 2 0)) 1 (sI x1)) 40 (sB x7)) 41 (sB ((!x7)))) 42 (sB true)) 43 (sI x8)) 44 (sB ((x8 == 2)))) 45 (sB ((x8 == 2)))) 46 (sB true)) 47 (sP x5)) 48 (sI x1)) 49 (sS a3 n4 c5)) 50 (sI ((n4 : Nat)))) 51 (sB ((((n4 : Nat) : Int) == 0)))) 52 (sB ((((n4 : Nat) : Int) == 0)))) 53 (sB true)) 54 (sP x5)) 55 (sI i8)) 56 (sB ((i8 == 0)))) 57 (sB ((i8 == 0)))) 58 (sB true)) 59 (sP x5)) 60 (sS a11 n12 c13)) 61 (sI ((n12 : Nat)))) 62 (sB ((((n12 : Nat) : Int) == 0)))) 63 (sB ((((n12 : Nat) : Int) == 0)))) 64 (sB true)) 65 (sP x5)) 66 (sR 2 1)) 67 (sV (.string s15))) 68 (sI i18)) 69 (sB ((i18 == 0)))) 70 (sB ((i18 == 0)))) 71 (sB true)) 72 (sA l19)) 73 (sB q22)) 74 (sA l23)) 75 (sA l26)) 76 (sB q29)) 77 (sB ((q22 == q29)))) 78 (sB ((q22 == q29)))) 79 (sB true)) 80 (sB q32)) 81 (sB q32)) 4 (sB q32)) (upd V0 2 (29, k2)) h31))) (K (upd (upd (upd (upd (upd (upd (upd (upd (upd (upd (upd (upd (upd (upd (upd (upd (upd (upd (upd (upd (upd (upd (upd (upd (upd (upd (upd (upd (upd (upd (upd (upd (upd (upd (upd (upd (upd (upd (upd (upd (upd (upd (upd (upd (upd (upd (upd (upd e 8 (sI x8)) 7 (sB x7)) 5 (sP x5)) 2 (sR 2 0)) 1 (sI x1)) 40 (sB x7)) 41 (sB ((!x7)))) 42 (sB true)) 43 (sI x8)) 44 (sB ((x8 == 2)))) 45 (sB ((x8 == 2)))) 46 (sB true)) 47 (sP x5)) 48 (sI x1)) 49 (sS a3 n4 c5)) 50 (sI ((n4 : Nat)))) 51 (sB ((((n4 : Nat) : Int) == 0)))) 52 (sB ((((n4 : Nat) : Int) == 0)))) 53 (sB true)) 54 (sP x5)) 55 (sI i8)) 56 (sB ((i8 == 0)))) 57 (sB ((i8 == 0)))) 58 (sB true)) 59 (sP x5)) 60 (sS a11 n12 c13)) 61 (sI ((n12 : Nat)))) 62 (sB ((((n12 : Nat) : Int) == 0)))) 63 (sB ((((n12 : Nat) : Int) == 0)))) 64 (sB true)) 65 (sP x5)) 66 (sR 2 1)) 67 (sV (.string s15))) 68 (sI i18)) 69 (sB ((i18 == 0)))) 70 (sB ((i18 == 0)))) 71 (sB true)) 72 (sA l19)) 73 (sB q22)) 74 (sA l23)) 75 (sA l26)) 76 (sB q29)) 77 (sB ((q22 == q29)))) 78 (sB ((q22 == q29)))) 79 (sB false)) 80 sU) 81 (sB false)) 4 (sB false)) (upd V0 2 (29, k2)) h28)))))))))) (K (upd (upd (upd (upd (upd (upd (upd (upd (upd (upd (upd (upd (upd (upd (upd (upd (upd (upd (upd (upd (upd (upd (upd (upd (upd (upd (upd (upd (upd (upd (upd (upd (upd (upd (upd (upd (upd (upd (upd (upd (upd (upd (upd (upd (upd (upd (upd (upd e 8 (sI x8)) 7 (sB x7)) 5 (sP x5)) 2 (sR 2 0)) 1 (sI x1)) 40 (sB x7)) 41 (sB ((!x7)))) 42 (sB true)) 43 (sI x8)) 44 (sB ((x8 == 2)))) 45 (sB ((x8 == 2)))) 46 (sB true)) 47 (sP x5)) 48 (sI x1)) 49 (sS a3 n4 c5)) 50 (sI ((n4 : Nat)))) 51 (sB ((((n4 : Nat) : Int) == 0)))) 52 (sB ((((n4 : Nat) : Int) == 0)))) 53 (sB true)) 54 (sP x5)) 55 (sI i8)) 56 (sB ((i8 == 0)))) 57 (sB ((i8 == 0)))) 58 (sB true)) 59 (sP x5)) 60 (sS a11 n12 c13)) 61 (sI ((n12 : Nat)))) 62 (sB ((((n12 : Nat) : Int) == 0)))) 63 (sB ((((n12 : Nat) : Int) == 0)))) 64 (sB true)) 65 (sP x5)) 66 (sR 2 1)) 67 (sV (.string s15))) 68 (sI i18)) 69 (sB ((i18 == 0)))) 70 (sB ((i18 == 0)))) 71 (sB false)) 72 sU) 73 sU) 74 sU) 75 sU) 76 sU) 77 sU) 78 (sB false)) 79 (sB false)) 80 sU) 81 (sB false)) 4 (sB false)) (upd V0 2 (29, k2)) h17)))))) (K (upd (upd (upd (upd (upd (upd (upd (upd (upd (upd (upd (upd (upd (upd (upd (upd (upd (upd (upd (upd (upd (upd (upd (upd (upd (upd (upd (upd (upd (upd (upd (upd (upd (upd (upd (upd (upd (upd (upd (upd (upd (upd (upd (upd (upd (upd (upd (upd e 8 (sI x8)) 7 (sB x7)) 5 (sP x5)) 2 (sR 2 0)) 1 (sI x1)) 40 (sB x7)) 41 (sB ((!x7)))) 42 (sB true)) 43 (sI x8)) 44 (sB ((x8 == 2)))) 45 (sB ((x8 == 2)))) 46 (sB true)) 47 (sP x5)) 48 (sI x1)) 49 (sS a3 n4 c5)) 50 (sI ((n4 : Nat)))) 51 (sB ((((n4 : Nat) : Int) == 0)))) 52 (sB ((((n4 : Nat) : Int) == 0)))) 53 (sB true)) 54 (sP x5)) 55 (sI i8)) 56 (sB ((i8 == 0)))) 57 (sB ((i8 == 0)))) 58 (sB true)) 59 (sP x5)) 60 (sS a11 n12 c13)) 61 (sI ((n12 : Nat)))) 62 (sB ((((n12 : Nat) : Int) == 0)))) 63 (sB ((((n12 : Nat) : Int) == 0)))) 64 (sB false)) 65 sU) 66 sU) 67 sU) 68 sU) 69 sU) 70 (sB false)) 71 (sB false)) 72 sU) 73 sU) 74 sU) 75 sU) 76 sU) 77 sU) 78 (sB false)) 79 (sB false)) 80 sU) 81 (sB false)) 4 (sB false)) (upd V0 2 (29, k2)) h10)))) (K (upd (upd (upd (upd (upd (upd (upd (upd (upd (upd (upd (upd (upd (upd (upd (upd (upd (upd (upd (upd (upd (upd (upd (upd (upd (upd (upd (upd (upd (upd (upd (upd (upd (upd (upd (upd (upd (upd (upd (upd (upd (upd (upd (upd (upd (upd (upd (upd e 8 (sI x8)) 7 (sB x7)) 5 (sP x5)) 2 (sR 2 0)) 1 (sI x1)) 40 (sB x7)) 41 (sB ((!x7)))) 42 (sB true)) 43 (sI x8)) 44 (sB ((x8 == 2)))) 45 (sB ((x8 == 2)))) 46 (sB true)) 47 (sP x5)) 48 (sI x1)) 49 (sS a3 n4 c5)) 50 (sI ((n4 : Nat)))) 51 (sB ((((n4 : Nat) : Int) == 0)))) 52 (sB ((((n4 : Nat) : Int) == 0)))) 53 (sB true)) 54 (sP x5)) 55 (sI i8)) 56 (sB ((i8 == 0)))) 57 (sB ((i8 == 0)))) 58 (sB false)) 59 sU) 60 sU) 61 sU) 62 sU) 63 (sB false)) 64 (sB false)) 65 sU) 66 sU) 67 sU) 68 sU) 69 sU) 70 (sB false)) 71 (sB false)) 72 sU) 73 sU) 74 sU) 75 sU) 76 sU) 77 sU) 78 (sB false)) 79 (sB false)) 80 sU) 81 (sB false)) 4 (sB false)) (upd V0 2 (29, k2)) h7)))) (K (upd (upd (upd (upd (upd (upd (upd (upd (upd (upd (upd (upd (upd (upd (upd (upd (upd (upd (upd (upd (upd (upd (upd (upd (upd (upd (upd (upd (upd (upd (upd (upd (upd (upd (upd (upd (upd (upd (upd (upd (upd (upd (upd (upd (upd (upd (upd (upd e 8 (sI x8)) 7 (sB x7)) 5 (sP x5)) 2 (sR 2 0)) 1 (sI x1)) 40 (sB x7)) 41 (sB ((!x7)))) 42 (sB true)) 43 (sI x8)) 44 (sB ((x8 == 2)))) 45 (sB ((x8 == 2)))) 46 (sB true)) 47 (sP x5)) 48 (sI x1)) 49 (sS a3 n4 c5)) 50 (sI ((n4 : Nat)))) 51 (sB ((((n4 : Nat) : Int) == 0)))) 52 (sB ((((n4 : Nat) : Int) == 0)))) 53 (sB false)) 54 sU) 55 sU) 56 sU) 57 (sB false)) 58 (sB false)) 59 sU) 60 sU) 61 sU) 62 sU) 63 (sB false)) 64 (sB false)) 65 sU) 66 sU) 67 sU) 68 sU) 69 sU) 70 (sB false)) 71 (sB false)) 72 sU) 73 sU) 74 sU) 75 sU) 76 sU) 77 sU) 78 (sB false)) 79 (sB false)) 80 sU) 81 (sB false)) 4 (sB false)) (upd V0 2 (29, k2)) h2)))) (K (upd (upd (upd (upd (upd (upd (upd (upd (upd (upd (upd (upd (upd (upd (upd (upd (upd (upd (upd (upd (upd (upd (upd (upd (upd (upd (upd (upd (upd (upd (upd (upd (upd (upd (upd (upd (upd (upd (upd (upd (upd (upd (upd (upd (upd (upd (upd (upd e 8 (sI x8)) 7 (sB x7)) 5 (sP x5)) 2 (sR 2 0)) 1 (sI x1)) 40 (sB x7)) 41 (sB ((!x7)))) 42 (sB true)) 43 (sI x8)) 44 (sB ((x8 == 2)))) 45 (sB ((x8 == 2)))) 46 (sB false)) 47 sU) 48 sU) 49 sU) 50 sU) 51 sU) 52 (sB false)) 53 (sB false)) 54 sU) 55 sU) 56 sU) 57 (sB false)) 58 (sB false)) 59 sU) 60 sU) 61 sU) 62 sU) 63 (sB false)) 64 (sB false)) 65 sU) 66 sU) 67 sU) 68 sU) 69 sU) 70 (sB false)) 71 (sB false)) 72 sU) 73 sU) 74 sU) 75 sU) 76 sU) 77 sU) 78 (sB false)) 79 (sB false)) 80 sU) 81 (sB false)) 4 (sB false)) (upd V0 2 (29, k2)) hp)) (K (upd (upd (upd (upd (upd (upd (upd (upd (upd (upd (upd (upd (upd (upd (upd (upd (upd (upd (upd (upd (upd (upd (upd (upd (upd (upd (upd (upd (upd (upd (upd (upd (upd (upd (upd (upd (upd (upd (upd (upd (upd (upd (upd (upd (upd (upd (upd (upd e 8 (sI x8)) 7 (sB x7)) 5 (sP x5)) 2 (sR 2 0)) 1 (sI x1)) 40 (sB x7)) 41 (sB ((!x7)))) 42 (sB false)) 43 sU) 44 sU) 45 (sB false)) 46 (sB false)) 47 sU) 48 sU) 49 sU) 50 sU) 51 sU) 52 (sB false)) 53 (sB false)) 54 sU) 55 sU) 56 sU) 57 (sB false)) 58 (sB false)) 59 sU) 60 sU) 61 sU) 62 sU) 63 (sB false)) 64 (sB false)) 65 sU) 66 sU) 67 sU) 68 sU) 69 sU) 70 (sB false)) 71 (sB false)) 72 sU) 73 sU) 74 sU) 75 sU) 76 sU) 77 sU) 78 (sB false)) 79 (sB false)) 80 sU) 81 (sB false)) 4 (sB false)) (upd V0 2 (29, k2)) hp)) := by kernel_rfl
def F17_j1 (x1 : Int) (x30 : Bool) (k2 : List Value) (hp : HP) (K : Value → HP → Prop) : Prop :=
  (ite2 x30 (CF Try.prog 22 [] hp fun u_1 h_2 => (boolV u_1 fun q_3 => (K (.bool q_3) h_2))) (ldL (cellsN k2 0 6) fun l_4 => (CF Try.prog 26 [(.pointer none), (.agg ⟨l_4⟩), (.int .i64 x1)] hp fun u_5 h_6 => (tup3V u_5 fun u_7 u_8 u_9 => (aggV u_7 fun l_10 => (boolV u_8 fun q_11 => (intV u_9 .i64 fun i_12 => (if List.length l_10 = 4 then (if List.all l_10 one = true then (if 0 + List.length l_10 ≤ List.length [(Value.string ⟨#[]⟩), .string ⟨#[]⟩, .string ⟨#[]⟩, .int .i64 0] then (ite2 (!q_11) (ite2 (i_12 == 2) (CF Try.prog 62 [(.pointer none), (.int .i64 x1)] h_6 fun u_13 h_14 => (slcV u_13 fun a_15 n_16 c_17 => (ite2 (((n_16 : Nat) : Int) == 0) (CF Try.prog 27 [(.pointer none)] h_14 fun u_18 h_19 => (intV u_18 .i64 fun i_20 => (ite2 (i_20 == 0) (CF Try.prog 60 [(.pointer none)] h_19 fun u_21 h_22 => (slcV u_21 fun a_23 n_24 c_25 => (ite2 (((n_24 : Nat) : Int) == 0) (ldV (k2)[1]? fun v_26 => (strV v_26 fun s_27 => (CF Try.prog 70 [(.pointer none), (.string s_27)] h_22 fun u_28 h_29 => (intV u_28 .i64 fun i_30 => (ite2 (i_30 == 0) (ldL (cellsN k2 0 6) fun l_31 => (CF Try.prog 67 [(.agg ⟨l_31⟩)] h_29 fun u_32 h_33 => (boolV u_32 fun q_34 => (ldL (cellsN k2 0 6) fun l_35 => (CF Try.prog 66 [(.agg ⟨l_35⟩)] h_33 fun u_36 h_37 => (aggV u_36 fun l_38 => (CF Try.prog 68 [(.agg ⟨l_38⟩)] h_37 fun u_39 h_40 => (boolV u_39 fun q_41 => (ite2 (q_34 == q_41) (CF Try.prog 22 [] h_40 fun u_42 h_43 => (boolV u_42 fun q_44 => (K (.bool q_44) h_43))) (K (.bool false) h_40)))))))))) (K (.bool false) h_29)))))) (K (.bool false) h_22)))) (K (.bool false) h_19)))) (K (.bool false) h_14)))) (K (.bool false) h_6)) (K (.bool false) h_6)) else False) else False) else False))))))))
theorem F17_r5 : R17 [1, 0, 0] 22 (upd e 2 (sR 2 0)) (upd V0 2 (29, k2)) hp K =
    (ldV (k2)[4]? fun v1 => (strV v1 fun s2 => (ite2 (decide (((ByteArray.size s2 : Nat) : Int) > 70000)) (K (upd (upd (upd (upd (upd (upd (upd (upd (upd (upd (upd (upd (upd (upd (upd (upd (upd (upd (upd (upd (upd (upd (upd e 2 (sR 2 0)) 9 (sR 2 4)) 10 (sV (.string s2))) 11 (sI ((ByteArray.size s2 : Nat)))) 12 (sB ((decide (((ByteArray.size s2 : Nat) : Int) > 70000))))) 13 (sB true)) 14 sU) 15 sU) 16 sU) 17 sU) 18 (sB true)) 19 (sB true)) 20 sU) 21 sU) 22 sU) 23 sU) 24 (sB true)) 25 (sB true)) 26 sU) 27 sU) 28 sU) 29 sU) 30 (sB true)) (upd V0 2 (29, k2)) hp) (ldV (k2)[5]? fun v3 => (strV v3 fun s4 => (ite2 (decide (((ByteArray.size s4 : Nat) : Int) > 1000)) (K (upd (upd (upd (upd (upd (upd (upd (upd (upd (upd (upd (upd (upd (upd (upd (upd (upd (upd (upd (upd (upd (upd (upd e 2 (sR 2 0)) 9 (sR 2 4)) 10 (sV (.string s2))) 11 (sI ((ByteArray.size s2 : Nat)))) 12 (sB ((decide (((ByteArray.size s2 : Nat) : Int) > 70000))))) 13 (sB false)) 14 (sR 2 5)) 15 (sV (.string s4))) 16 (sI ((ByteArray.size s4 : Nat)))) 17 (sB ((decide (((ByteArray.size s4 : Nat) : Int) > 1000))))) 18 (sB ((decide (((ByteArray.size s4 : Nat) : Int) > 1000))))) 19 (sB true)) 20 sU) 21 sU) 22 sU) 23 sU) 24 (sB true)) 25 (sB true)) 26 sU) 27 sU) 28 sU) 29 sU) 30 (sB true)) (upd V0 2 (29, k2)) hp) (ldV (k2)[0]? fun v5 => (strV v5 fun s6 => (ite2 (decide (((ByteArray.size s6 : Nat) : Int) > 1000)) (K (upd (upd (upd (upd (upd (upd (upd (upd (upd (upd (upd (upd (upd (upd (upd (upd (upd (upd (upd (upd (upd (upd (upd e 2 (sR 2 0)) 9 (sR 2 4)) 10 (sV (.string s2))) 11 (sI ((ByteArray.size s2 : Nat)))) 12 (sB ((decide (((ByteArray.size s2 : Nat) : Int) > 70000))))) 13 (sB false)) 14 (sR 2 5)) 15 (sV (.string s4))) 16 (sI ((ByteArray.size s4 : Nat)))) 17 (sB ((decide (((ByteArray.size s4 : Nat) : Int) > 1000))))) 18 (sB ((decide (((ByteArray.size s4 : Nat) : Int) > 1000))))) 19 (sB false)) 20 (sR 2 0)) 21 (sV (.string s6))) 22 (sI ((ByteArray.size s6 : Nat)))) 23 (sB ((decide (((ByteArray.size s6 : Nat) : Int) > 1000))))) 24 (sB ((decide (((ByteArray.size s6 : Nat) : Int) > 1000))))) 25 (sB true)) 26 sU) 27 sU) 28 sU) 29 sU) 30 (sB true)) (upd V0 2 (29, k2)) hp) (ldV (k2)[1]? fun v7 => (strV v7 fun s8 => (K (upd (upd (upd (upd (upd (upd (upd (upd (upd (upd (upd (upd (upd (upd (upd (upd (upd (upd (upd (upd (upd (upd (upd e 2 (sR 2 0)) 9 (sR 2 4)) 10 (sV (.string s2))) 11 (sI ((ByteArray.size s2 : Nat)))) 12 (sB ((decide (((ByteArray.size s2 : Nat) : Int) > 70000))))) 13 (sB false)) 14 (sR 2 5)) 15 (sV (.string s4))) 16 (sI ((ByteArray.size s4 : Nat)))) 17 (sB ((decide (((ByteArray.size s4 : Nat) : Int) > 1000))))) 18 (sB ((decide (((ByteArray.size s4 : Nat) : Int) > 1000))))) 19 (sB false)) 20 (sR 2 0)) 21 (sV (.string s6))) 22 (sI ((ByteArray.size s6 : Nat)))) 23 (sB ((decide (((ByteArray.size s6 : Nat) : Int) > 1000))))) 24 (sB ((decide (((ByteArray.size s6 : Nat) : Int) > 1000))))) 25 (sB false)) 26 (sR 2 1)) 27 (sV (.string s8))) 28 (sI ((ByteArray.size s8 : Nat)))) 29 (sB ((decide (((ByteArray.size s8 : Nat) : Int) > 1000))))) 30 (sB ((decide (((ByteArray.size s8 : Nat) : Int) > 1000))))) (upd V0 2 (29, k2)) hp)))))))))))) := by kernel_rfl
def F17 (x0 : List Value) (x1 : Int) (hp : HP) (K : Value → HP → Prop) : Prop :=
  (ldV (x0)[4]? fun v_45 => (strV v_45 fun s_46 => (ite2 (decide (((ByteArray.size s_46 : Nat) : Int) > 70000)) (F17_j1 x1 true x0 hp  K) (ldV (x0)[5]? fun v_47 => (strV v_47 fun s_48 => (ite2 (decide (((ByteArray.size s_48 : Nat) : Int) > 1000)) (F17_j1 x1 true x0 hp  K) (ldV (x0)[0]? fun v_49 => (strV v_49 fun s_50 => (ite2 (decide (((ByteArray.size s_50 : Nat) : Int) > 1000)) (F17_j1 x1 true x0 hp  K) (ldV (x0)[1]? fun v_51 => (strV v_51 fun s_52 => (F17_j1 x1 (decide (((ByteArray.size s_52 : Nat) : Int) > 1000)) x0 hp  K))))))))))))
noncomputable def F17_code : Code := (.seq (.region 0 (opsAt Try.f17 [0]) false) (.seq (.seq (.region 1 (opsAt Try.f17 [1, 0, 0]) false) (.cond (.tmp 30) (.seq (.region 2 (opsAt Try.f17 [1, 0, 1, 0, 0]) false) .ret) .skip)) (.seq (.region 3 (opsAt Try.f17 [1, 1, 0]) false) (.seq (.region 4 (opsAt Try.f17 [1, 1, 1, 0]) false) (.seq (.region 5 (opsAt Try.f17 [1, 1, 1, 1, 0]) true) .ret)))))
theorem F17_body : Try.f17.body = some F17_code := by kernel_rfl
theorem F17_ok (x0 : List Value) (x1 : Int) (hp : HP) (K : Value → HP → Prop) (h : F17 x0 x1 hp K) : CF Try.prog 17 [(.agg ⟨x0⟩), (.int .i64 x1)] hp K := by
 refine .inl ⟨by kernel_rfl, AC.intro (N := 82) Try.func17 F17_body rfl (Nat.le_of_ble_eq_true rfl) ?_⟩
 unfold F17 at h
 unfold F17_code
 refine AWP.seq' ?_
 refine AWP.rgn (F17_r0 (upd E0 1 (sI x1)) x0 hp _) ?_ (Ru 0 (Ru 1 Rn)) (Sc rfl (Sc rfl Sn)) Sn
 refine AWP.seq' ?_
 refine AWP.seq (fun env pv hp => ∃ (x1 : Int) (x30 : Bool) (k2 : List Value), Sub (upd (upd (upd E0 30 (sB x30)) 2 (sR 2 0)) 1 (sI x1)) env ∧ Sub (upd V0 2 (29, k2)) pv ∧ (F17_j1 x1 x30 k2 hp  K)) ?_ ?_
 ·refine AWP.rgn (F17_r5 (upd E0 1 (sI x1)) x0 hp _) ?_ (RefOk.p 2 2 0 (Ru 1 Rn) (fun e => by cases e)) (Sc rfl (Sc rfl Sn)) (Sc rfl Sn)
  refine mV h fun v_45 h => ms h fun s_46 h => ?_
  refine mt h (fun h => ?_) (fun h => ?_)
  ·exact ⟨x1, true, x0, (Sc rfl (Sc rfl (Sc rfl Sn))), (Sc rfl Sn), h⟩
  ·refine mV h fun v_47 h => ms h fun s_48 h => ?_
   refine mt h (fun h => ?_) (fun h => ?_)
   ·exact ⟨x1, true, x0, (Sc rfl (Sc rfl (Sc rfl Sn))), (Sc rfl Sn), h⟩
   ·refine mV h fun v_49 h => ms h fun s_50 h => ?_
    refine mt h (fun h => ?_) (fun h => ?_)
    ·exact ⟨x1, true, x0, (Sc rfl (Sc rfl (Sc rfl Sn))), (Sc rfl Sn), h⟩
    ·refine mV h fun v_51 h => ms h fun s_52 h => ?_
     exact ⟨x1, (decide (((ByteArray.size s_52 : Nat) : Int) > 1000)), x0, (Sc rfl (Sc rfl (Sc rfl Sn))), (Sc rfl Sn), h⟩
 ·rintro env pv hp ⟨x1, x30, k2, he, hv, h⟩
  refine AWP.sub (env' := (upd (upd (upd E0 30 (sB x30)) 2 (sR 2 0)) 1 (sI x1))) (pv' := (upd V0 2 (29, k2))) ?_ (Ru 1 (RefOk.p 2 2 0 (Ru 30 Rn) (fun e => by cases e))) he hv (HSub.refl _)
  clear he hv
  unfold F17_j1 at h
  refine AWP.cond (t := x30) rfl (fun e => ?_) (fun e => ?_)
  ·replace h := ite2_t h e
   refine AWP.seq' ?_
   refine AWP.rgn (F17_r1 E0  hp _) ?_ Rn Sn Sn
   refine mC h fun u_1 h_2 h => mB h fun q_3 h => ?_
   refine AWP.ret ?_
   exact h
  ·replace h := ite2_f h e
   refine AWP.skip ?_
   refine AWP.seq' ?_
   refine AWP.rgn (F17_r2 (upd (upd E0 2 (sR 2 0)) 1 (sI x1)) k2 hp _) ?_ (Ru 1 (RefOk.p 2 2 0 Rn (fun e => by cases e))) (Sc rfl (Sc rfl Sn)) (Sc rfl Sn)
   refine AWP.seq' ?_
   refine AWP.rgn (F17_r3 E0 x1 none k2 hp _) ?_ (Ru 1 (RefOk.p 2 2 0 (Ru 5 Rn) (fun e => by cases e))) (Sc rfl (Sc rfl (Sc rfl Sn))) (Sc rfl Sn)
   refine mL h fun l_4 h => mC h fun u_5 h_6 h => mU h fun u_7 u_8 u_9 h => mA h fun l_10 h => mB h fun q_11 h => mI h fun i_12 h => mf h fun h => mf h fun h => mf h fun h => ?_
   refine AWP.seq' ?_
   refine AWP.rgnE (by kernel_rfl) (by kernel_rfl) (F17_r4 E0 x1 none q_11 i_12 k2 h_6 _) ?_ (Ru 1 (RefOk.p 2 2 0 (Ru 5 (Ru 7 (Ru 8 Rn))) (fun e => by cases e))) (Sc rfl (Sc rfl (Sc rfl (Sc rfl (Sc rfl Sn))))) (Sc rfl Sn)
   refine mt h (fun h => ?_) (fun h => ?_)
   ·refine mt h (fun h => ?_) (fun h => ?_)
    ·refine mC h fun u_13 h_14 h => mS h fun a_15 n_16 c_17 h => ?_
     refine mt h (fun h => ?_) (fun h => ?_)
     ·refine mC h fun u_18 h_19 h => mI h fun i_20 h => ?_
      refine mt h (fun h => ?_) (fun h => ?_)
      ·refine mC h fun u_21 h_22 h => mS h fun a_23 n_24 c_25 h => ?_
       refine mt h (fun h => ?_) (fun h => ?_)
       ·refine mV h fun v_26 h => ms h fun s_27 h => mC h fun u_28 h_29 h => mI h fun i_30 h => ?_
        refine mt h (fun h => ?_) (fun h => ?_)
        ·refine mL h fun l_31 h => mC h fun u_32 h_33 h => mB h fun q_34 h => mL h fun l_35 h => mC h fun u_36 h_37 h => mA h fun l_38 h => mC h fun u_39 h_40 h => mB h fun q_41 h => ?_
         refine mt h (fun h => ?_) (fun h => ?_)
         ·refine mC h fun u_42 h_43 h => mB h fun q_44 h => ?_
          refine AWP.ret ?_
          exact h
         ·refine AWP.ret ?_
          exact h
        ·refine AWP.ret ?_
         exact h
       ·refine AWP.ret ?_
        exact h
      ·refine AWP.ret ?_
       exact h
     ·refine AWP.ret ?_
      exact h
    ·refine AWP.ret ?_
     exact h
   ·refine AWP.ret ?_
    exact h
end
end Go.Proofs

set_option linter.unusedVariables false
set_option maxRecDepth 20000
namespace Go.Proofs
open Go Go.HL

section
variable {p : Pc} {hp : HP} {K : Value → HP → Prop}

theorem C26n {due : Int} (h : K (.tuple ⟨[.agg ⟨zeroW⟩, .bool false, .int .i64 2]⟩) hp) : CF Try.prog 26 [.pointer none, .agg ⟨pc p⟩, .int .i64 due] hp K := by
  refine F26_ok _ (pc p) due hp K ?_
  unfold F26
  refine C75n ?_
  rw [boolV_bool, ite2_true]
  exact ifI rfl (ifI rfl (ifI (Nat.le_refl 4) h))
theorem C62n {due : Int} (h : K (.slice none 0 0) hp) : CF Try.prog 62 [.pointer none, .int .i64 due] hp K := by
  refine F62_ok _ due hp K ?_
  unfold F62
  refine C75n ?_
  rw [boolV_bool, ite2_true]
  exact h
theorem C27n (h : K (.int .i64 0) hp) : CF Try.prog 27 [.pointer none] hp K := by
  refine F27_ok _ hp K ?_
  unfold F27
  refine C75n ?_
  rw [boolV_bool, ite2_true]
  exact h
theorem C60n (h : K (.slice none 0 0) hp) : CF Try.prog 60 [.pointer none] hp K := by
  refine F60_ok _ hp K ?_
  unfold F60
  refine C75n ?_
  rw [boolV_bool, ite2_true]
  exact h
theorem C70n {s : ByteArray} (h : K (.int .i64 0) hp) : CF Try.prog 70 [.pointer none, .string s] hp K := by
  refine F70_ok _ s hp K ?_
  unfold F70
  refine C75n ?_
  rw [boolV_bool, ite2_true]
  exact h

/-- A piece of the document's. -/
def pd (p : Pc) (due : Int) : List Value := [.string p.key, .string p.src, .int .i64 p.at_, .bool p.more, .string p.data, .string p.head, .int .i64 due]
theorem C66 (h : K (.agg ⟨pd p 0⟩) hp) : CF Try.prog 66 [.agg ⟨pc p⟩] hp K := by
  refine F66_ok (pc p) hp K ?_
  unfold F66
  have k0 : (pc p)[0]? = some (.string p.key) := rfl
  have k1 : (pc p)[1]? = some (.string p.src) := rfl
  have k2 : (pc p)[2]? = some (.int .i64 p.at_) := rfl
  have k3 : (pc p)[3]? = some (.bool p.more) := rfl
  have k4 : (pc p)[4]? = some (.string p.data) := rfl
  have k5 : (pc p)[5]? = some (.string p.head) := rfl
  simp only [k0, k1, k2, k3, k4, k5, ldV_some, strV_string, intV_int, boolV_bool]
  exact ifI rfl (ifI rfl (ifI (Nat.le_refl 7) h))

theorem C68 {due : Int} (hp' : okP p) (h : K (.bool (rightP p)) hp) : CF Try.prog 68 [.agg ⟨pd p due⟩] hp K := by
  refine F68_ok (pd p due) hp K ?_
  unfold F68
  have k2 : (pd p due)[2]? = some (.int .i64 p.at_) := rfl
  have k3 : (pd p due)[3]? = some (.bool p.more) := rfl
  have k4 : (pd p due)[4]? = some (.string p.data) := rfl
  simp only [k2, ldV_some, intV_int]
  have hno : rightP p = false → F68_j1 true (pd p due) hp K := fun e => by
    unfold F68_j1; rw [ite2_true]; rw [e] at h; exact h
  have no : (¬ (0 ≤ p.at_ ∧ p.at_ ≤ 65535 ∧ p.at_.tmod 8 = 0)) → F68_j1 true (pd p due) hp K := fun hn => hno (by
    cases hr : rightP p with
    | false => rfl
    | true => obtain ⟨a, b, c, d, _⟩ := rightP_iff.1 hr; exact absurd ⟨a, b, c⟩ hn)
  by_cases h1 : p.at_ < 0
  · rw [decide_eq_true h1, ite2_true]; exact no (by omega)
  rw [decide_eq_false h1, ite2_false]
  by_cases h2 : p.at_ > 65535
  · rw [decide_eq_true h2, ite2_true]; exact no (by omega)
  rw [decide_eq_false h2, ite2_false]
  refine ⟨by decide, ?_⟩
  by_cases h3 : p.at_.tmod 8 = 0
  rotate_left
  · have e : (p.at_.tmod 8 != 0) = true := by simpa using h3
    rw [e]; exact no (fun x => h3 x.2.2)
  have e : (p.at_.tmod 8 != 0) = false := by simpa using h3
  rw [e]
  unfold F68_j1
  rw [ite2_false]
  simp only [k3, k4, ldV_some, boolV_bool, strV_string]
  have hsz := hp'.2
  have fin : (p.more = true → 0 < p.data.size ∧ p.data.size % 8 = 0) → F68_j2 false (pd p due) hp K := by
    intro hm
    unfold F68_j2
    rw [ite2_false]
    simp only [k2, k4, ldV_some, intV_int, strV_string]
    rw [w64 (by omega) (by omega)]
    have : decide (p.at_ + p.data.size ≤ 65535) = rightP p := by
      rw [Bool.eq_iff_iff, decide_eq_true_iff, rightP_iff]
      exact ⟨fun x => ⟨by omega, by omega, h3, x, hm⟩, fun x => x.2.2.2.1⟩
    rw [this]; exact h
  have stop : (¬ (p.more = true → 0 < p.data.size ∧ p.data.size % 8 = 0)) → F68_j2 true (pd p due) hp K := by
    intro hm
    unfold F68_j2
    rw [ite2_true]
    have : rightP p = false := by
      cases hr : rightP p with
      | false => rfl
      | true => exact absurd (rightP_iff.1 hr).2.2.2.2 hm
    rw [this] at h; exact h
  cases hm : p.more
  · rw [ite2_false]; exact fin (fun e => by rw [hm] at e; cases e)
  · rw [ite2_true]
    by_cases h0 : p.data.size = 0
    · have e : (((p.data.size : Nat) : Int) == 0) = true := by simp [h0]
      rw [e, ite2_true]
      exact stop (fun x => by have := (x hm).1; omega)
    · have e : (((p.data.size : Nat) : Int) == 0) = false := by simpa using h0
      rw [e, ite2_false]
      refine ⟨by decide, ?_⟩
      have e2 : (Int.tmod ((p.data.size : Nat) : Int) 8 != 0) = decide (p.data.size % 8 ≠ 0) := by
        have : Int.tmod ((p.data.size : Nat) : Int) 8 = ((p.data.size % 8 : Nat) : Int) := rfl
        rw [this, Bool.eq_iff_iff, bne_iff_ne, decide_eq_true_iff]; omega
      rw [e2]
      by_cases h8 : p.data.size % 8 = 0
      · rw [decide_eq_false (by omega : ¬ p.data.size % 8 ≠ 0)]
        exact fin (fun _ => ⟨by omega, h8⟩)
      · rw [decide_eq_true h8]
        exact stop (fun x => h8 (x hm).2)

theorem C17 {due : Int} (hat : -9223372036854775808 ≤ p.at_ ∧ p.at_ ≤ 9223372036854775807) (h : K (.bool true) hp) : CF Try.prog 17 [.agg ⟨pc p⟩, .int .i64 due] hp K := by
  refine F17_ok (pc p) due hp K ?_
  unfold F17
  have k0 : (pc p)[0]? = some (.string p.key) := rfl
  have k1 : (pc p)[1]? = some (.string p.src) := rfl
  have k4 : (pc p)[4]? = some (.string p.data) := rfl
  have k5 : (pc p)[5]? = some (.string p.head) := rfl
  simp only [k0, k1, k4, k5, ldV_some, strV_string]
  have yes : F17_j1 due true (pc p) hp K := by
    unfold F17_j1
    rw [ite2_true]
    refine C22 ?_
    rw [boolV_bool]; exact h
  by_cases h1 : ((p.data.size : Nat) : Int) > 70000
  · rw [decide_eq_true h1, ite2_true]; exact yes
  rw [decide_eq_false h1, ite2_false]
  by_cases h2 : ((p.head.size : Nat) : Int) > 1000
  · rw [decide_eq_true h2, ite2_true]; exact yes
  rw [decide_eq_false h2, ite2_false]
  by_cases h3 : ((p.key.size : Nat) : Int) > 1000
  · rw [decide_eq_true h3, ite2_true]; exact yes
  rw [decide_eq_false h3, ite2_false]
  by_cases h4 : ((p.src.size : Nat) : Int) > 1000
  · rw [decide_eq_true h4]; exact yes
  rw [decide_eq_false h4]
  have hok : okP p := ⟨hat, by omega⟩
  unfold F17_j1
  simp only [ite2_false, cellsN_all (pc_len p), ldL_some]
  refine C26n ?_
  have whl : zeroW.length = 4 := rfl
  have who : zeroW.all one = true := rfl
  simp only [tup3V_mk, aggV_agg, boolV_bool, intV_int, whl, who, if_true, Nat.zero_add]
  refine ifI (Nat.le_refl _) ?_
  show ite2 true (ite2 true _ _) _
  rw [ite2_true, ite2_true]
  refine C62n ?_
  rw [slcV_slice]
  show ite2 true _ _
  rw [ite2_true]
  refine C27n ?_
  rw [intV_int]
  show ite2 true _ _
  rw [ite2_true]
  refine C60n ?_
  rw [slcV_slice]
  show ite2 true _ _
  rw [ite2_true]
  simp only [k1, ldV_some, strV_string]
  refine C70n ?_
  rw [intV_int]
  show ite2 true _ _
  rw [ite2_true]
  refine C67 hok ?_
  rw [boolV_bool]
  refine C66 ?_
  rw [aggV_agg]
  refine C68 hok ?_
  rw [boolV_bool]
  have e : (rightP p == rightP p) = true := by simp
  rw [e, ite2_true]
  refine C22 ?_
  rw [boolV_bool]; exact h
end
end Go.Proofs

set_option linter.unusedVariables false
set_option maxRecDepth 20000
namespace Go.Proofs
open Go Go.HL

theorem fdec3 {D : Nat} {cs : List Value} (h : wellS Try.prog D 3 cs = true) : ∃ n : Int, (-9223372036854775808 ≤ n ∧ n ≤ 9223372036854775807) ∧ cs = [.int .i64 n] := by
  cases D with
  | zero => cases h
  | succ D =>
    unfold wellS at h
    rw [show Try.prog.underlying 3 = some (.int .i64) by kernel_rfl] at h
    simp only at h
    split at h
    · rename_i q n
      simp only [Bool.and_eq_true, decide_eq_true_eq] at h
      obtain ⟨rfl, h⟩ := h
      exact ⟨n, (Lit.wf_int_iff _ _).1 h, rfl⟩
    · cases h
theorem fdec4 {D : Nat} {cs : List Value} (h : wellS Try.prog D 4 cs = true) : ∃ b : Bool, cs = [.bool b] := by
  cases D with
  | zero => cases h
  | succ D =>
    unfold wellS at h
    rw [show Try.prog.underlying 4 = some .bool by kernel_rfl] at h
    simp only at h
    split at h
    · exact ⟨_, rfl⟩
    · cases h
theorem fdec9 {D : Nat} {cs : List Value} (h : wellS Try.prog D 9 cs = true) : ∃ s : ByteArray, cs = [.string s] := by
  cases D with
  | zero => cases h
  | succ D =>
    unfold wellS at h
    rw [show Try.prog.underlying 9 = some .string by kernel_rfl] at h
    simp only at h
    split at h
    · exact ⟨_, rfl⟩
    · cases h

def okAt (p : Pc) : Prop := -9223372036854775808 ≤ p.at_ ∧ p.at_ ≤ 9223372036854775807

theorem dec29 : ∀ (D : Nat) (cs : List Value), wellS Try.prog D 29 cs = true → ∃ p : Pc, okAt p ∧ cs = pc p := by
  intro D cs h
  cases D with
  | zero => cases h
  | succ D =>
    obtain ⟨hl, hf⟩ := wellS_struct (fs0 := [(9, 0), (9, 1), (3, 2), (4, 3), (9, 4), (9, 5)]) (by kernel_rfl) (by simp) h
    rw [show Try.prog.cellsOf 29 = 6 by kernel_rfl] at hl
    have f0 := hf (9, 0) (by simp)
    have f1 := hf (9, 1) (by simp)
    have f2 := hf (3, 2) (by simp)
    have f3 := hf (4, 3) (by simp)
    have f4 := hf (9, 4) (by simp)
    have f5 := hf (9, 5) (by simp)
    simp only [show Try.prog.cellsOf 9 = 1 by kernel_rfl, show Try.prog.cellsOf 3 = 1 by kernel_rfl, show Try.prog.cellsOf 4 = 1 by kernel_rfl] at f0 f1 f2 f3 f4 f5
    obtain ⟨s0, e0⟩ := fdec9 f0
    obtain ⟨s1, e1⟩ := fdec9 f1
    obtain ⟨n2, hn, e2⟩ := fdec3 f2
    obtain ⟨b3, e3⟩ := fdec4 f3
    obtain ⟨s4, e4⟩ := fdec9 f4
    obtain ⟨s5, e5⟩ := fdec9 f5
    match cs, hl with
    | [c0, c1, c2, c3, c4, c5], _ =>
      simp only [List.drop_zero, List.drop_succ_cons, List.take_succ_cons, List.take_zero, List.cons.injEq, and_true] at e0 e1 e2 e3 e4 e5
      subst e0; subst e1; subst e2; subst e3; subst e4; subst e5
      exact ⟨⟨s0, s1, n2, b3, s4, s5⟩, hn, rfl⟩
end Go.Proofs

