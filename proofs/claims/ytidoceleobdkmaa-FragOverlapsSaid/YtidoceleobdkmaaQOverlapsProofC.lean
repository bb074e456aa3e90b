/- Parts of the proof of OverlapsProof: the logic of what is known of memory, functions' contracts. -/
import Derived.Test.YtidoceleobdkmaaQOverlapsProofB
import Derived.Test.YtidoceleobdkmaaHlStr
import Derived.Test.YtidoceleobdkmaaHlApp
import Derived.KernelRfl
import Derived.Sort.LotA
import Derived.Test.YtidoceleobdkmaaHlAbb
import Derived.Test.YtidoceleobdkmaaProg
set_option linter.unusedVariables false
set_option maxRecDepth 20000
namespace Go.Proofs
open Go Go.HL

theorem wiN {x : Int} {i : Nat} (h : x = i) (hb : i ≤ 9223372036854775807) : IntKind.wrap .i64 x = i := by rw [h]; exact w64 (by omega) (by omega)

/-- A piece. -/
structure Pc where
  key : ByteArray
  src : ByteArray
  at_ : Int
  more : Bool
  data : ByteArray
  head : ByteArray
deriving DecidableEq
instance : Inhabited Pc := ⟨⟨ByteArray.empty, ByteArray.empty, 0, false, ByteArray.empty, ByteArray.empty⟩⟩
def pc (p : Pc) : List Value := [.string p.key, .string p.src, .int .i64 p.at_, .bool p.more, .string p.data, .string p.head]
theorem pc_len (p : Pc) : (pc p).length = 6 := rfl
theorem pc_one (p : Pc) : (pc p).all one = true := rfl
def okP (p : Pc) : Prop := (-9223372036854775808 ≤ p.at_ ∧ p.at_ ≤ 9223372036854775807) ∧ p.data.size ≤ 1000000
/-- Where it ends. -/
def Pc.to (p : Pc) : Int := p.at_ + p.data.size
/-- May it be? -/
def rightP (p : Pc) : Bool := decide (0 ≤ p.at_) && decide (p.at_ ≤ 65535) && decide (p.at_.tmod 8 = 0) && decide (p.at_ + p.data.size ≤ 65535) && (!p.more || (decide (0 < p.data.size) && decide (p.data.size % 8 = 0)))
theorem rightP_iff {p : Pc} : rightP p = true ↔ 0 ≤ p.at_ ∧ p.at_ ≤ 65535 ∧ p.at_.tmod 8 = 0 ∧ p.at_ + p.data.size ≤ 65535 ∧ (p.more = true → 0 < p.data.size ∧ p.data.size % 8 = 0) := by
  unfold rightP
  simp only [Bool.and_eq_true, decide_eq_true_eq, Bool.or_eq_true, Bool.not_eq_true']
  cases p.more <;> simp [and_assoc]
/-- Is it the same? -/
def sameP (p q : Pc) : Bool := decide (p.at_ = q.at_) && decide (p.more = q.more) && decide (p.data = q.data)

theorem enc9 : EncK Try.prog 9 sw where
  inj a b h := by simpa [sw] using h
  law := (KeyLaw.flat (d := .string) (by kernel_rfl)).weaken fun v ⟨k, hk⟩ => by subst hk; exact trivial
theorem u97 : Try.prog.underlying 97 = some (.map 9 3) := by kernel_rfl
theorem u128 : Try.prog.underlying 128 = some (.map 9 131) := by kernel_rfl

/-- The lesser first, of two numbers. -/
def cmpN (x y : Int) : Int := if x < y then -1 else if x > y then 1 else 0
theorem D131 {x : Int} {hp : HP} {K : Value → HP → Prop} (h : K (.bool false) hp) : CF Try.prog 131 [.int .i64 x] hp K := by
  refine F131_ok x hp K ?_
  unfold F131
  simpa using h

theorem D97 {x y : Int} {hp : HP} {K : Value → HP → Prop} (h : K (.int .i64 (cmpN x y)) hp) : CF Try.prog 97 [.int .i64 x, .int .i64 y] hp K := by
  refine F97_ok x y hp K ?_
  unfold F97
  refine D131 ?_
  rw [boolV_bool]
  refine D131 ?_
  rw [boolV_bool, ite2_false, ite2_false]
  unfold cmpN at h
  by_cases h1 : x < y
  · rw [if_pos h1] at h
    rw [decide_eq_true h1, ite2_true]; exact h
  rw [if_neg h1] at h
  rw [decide_eq_false h1, ite2_false]
  by_cases h2 : x > y
  · rw [if_pos h2] at h
    rw [decide_eq_true h2, ite2_true]; exact h
  · rw [if_neg h2] at h
    rw [decide_eq_false h2, ite2_false]; exact h

theorem D96 {r : Nat} {x y : Int} {hp : HP} {K : Value → HP → Prop} (hr : hp r = .cells 3 [.int .i64 x, .int .i64 y] 0) (h : K (.int .i64 (if x ≠ 0 then x else y)) hp) : CF Try.prog 96 [.slice (some ⟨r, 0, none⟩) 2 2] hp K := by
  refine F96_ok _ 2 2 hp K ?_
  unfold F96 F96_j2
  have hc : ∀ o, hp.cell r o = [Value.int .i64 x, .int .i64 y][o]? := fun o => HP.cell_of hr
  intro I hI
  refine hI 0 hp ?_
  unfold F96_l3
  simp only [ptrN_some, hc, Nat.zero_add]
  show ite2 (decide ((0 : Int) < 2)) _ _
  rw [decide_eq_true (by omega : (0 : Int) < 2), ite2_true]
  refine ⟨by omega, by omega, ?_⟩
  show ldV (some (Value.int .i64 x)) _
  rw [ldV_some, intV_int]
  by_cases hx : x = 0
  · rw [if_neg (by simpa using hx)] at h
    have e : (x != 0) = false := by simpa using hx
    rw [e, ite2_false]
    have w : IntKind.wrap .i64 ((0 : Int) + 1) = 1 := by rw [w64 (by omega) (by omega)]; rfl
    rw [w]
    refine hI 1 hp ?_
    unfold F96_l3
    simp only [ptrN_some, hc, Nat.zero_add]
    rw [decide_eq_true (by omega : (1 : Int) < ((2 : Nat) : Int)), ite2_true]
    refine ⟨by omega, by omega, ?_⟩
    show ldV (some (Value.int .i64 y)) _
    rw [ldV_some, intV_int]
    by_cases hy : y = 0
    · have e : (y != 0) = false := by simpa using hy
      rw [e, ite2_false]
      have w : IntKind.wrap .i64 ((1 : Int) + 1) = 2 := by rw [w64 (by omega) (by omega)]; rfl
      rw [w]
      refine hI 2 hp ?_
      unfold F96_l3
      simp only [ptrN_some, hc, Nat.zero_add]
      rw [decide_eq_false (by omega : ¬ (2 : Int) < ((2 : Nat) : Int)), ite2_false]
      unfold F96_j1
      rw [hy] at h; exact h
    · have e : (y != 0) = true := by simpa using hy
      rw [e, ite2_true]; exact h
  · rw [if_pos (by simpa using hx)] at h
    have e : (x != 0) = true := by simpa using hx
    rw [e, ite2_true]; exact h

section
variable {p q : Pc} {hp : HP} {K : Value → HP → Prop}

/-- Where it ends, as it is counted. -/
def Pc.toW (p : Pc) : Int := IntKind.wrap .i64 (p.at_ + p.data.size)
theorem Pc.toW_eq {p : Pc} (h0 : 0 ≤ p.at_) (h1 : p.at_ ≤ 1000000000) (h2 : p.data.size ≤ 1000000000) : p.toW = p.to := by
  unfold Pc.toW Pc.to; rw [w64 (by omega) (by omega)]
theorem C122 (h : K (.int .i64 p.toW) hp) : CF Try.prog 122 [.agg ⟨pc p⟩] hp K := by
  refine F122_ok (pc p) hp K ?_
  unfold F122
  exact h

theorem C77 (h : K (.bool (sameP p q)) hp) : CF Try.prog 77 [.agg ⟨pc p⟩, .agg ⟨pc q⟩] hp K := by
  refine F77_ok (pc p) (pc q) hp K ?_
  unfold F77
  have k2 : ∀ p : Pc, (pc p)[2]? = some (.int .i64 p.at_) := fun _ => rfl
  have k3 : ∀ p : Pc, (pc p)[3]? = some (.bool p.more) := fun _ => rfl
  have k4 : ∀ p : Pc, (pc p)[4]? = some (.string p.data) := fun _ => rfl
  simp only [k2, k3, k4, ldV_some, intV_int, boolV_bool, strV_string]
  unfold sameP at h
  by_cases h1 : p.at_ = q.at_
  · have e : (p.at_ == q.at_) = true := by simpa using h1
    rw [e, ite2_true]
    rw [decide_eq_true h1, Bool.true_and] at h
    by_cases h2 : p.more = q.more
    · have e : (p.more == q.more) = true := by simpa using h2
      rw [e, ite2_true]
      rw [str_eq]
      rw [decide_eq_true h2, Bool.true_and] at h
      exact h
    · have e : (p.more == q.more) = false := by simpa using h2
      rw [e, ite2_false]
      rw [decide_eq_false h2, Bool.false_and] at h
      exact h
  · have e : (p.at_ == q.at_) = false := by simpa using h1
    rw [e, ite2_false]
    rw [decide_eq_false h1, Bool.false_and, Bool.false_and] at h
    exact h

theorem C67 (hp' : okP p) (h : K (.bool (rightP p)) hp) : CF Try.prog 67 [.agg ⟨pc p⟩] hp K := by
  refine F67_ok (pc p) hp K ?_
  unfold F67
  have k2 : (pc p)[2]? = some (.int .i64 p.at_) := rfl
  have k3 : (pc p)[3]? = some (.bool p.more) := rfl
  have k4 : (pc p)[4]? = some (.string p.data) := rfl
  simp only [k2, k4, ldV_some, intV_int, strV_string]
  have hno : rightP p = false → F67_j1 true (pc p) hp K := fun e => by
    unfold F67_j1; rw [ite2_true]; rw [e] at h; exact h
  have no : (¬ (0 ≤ p.at_ ∧ p.at_ ≤ 65535 ∧ p.at_.tmod 8 = 0 ∧ p.at_ + p.data.size ≤ 65535)) → F67_j1 true (pc p) hp K := fun hn => hno (by
    cases hr : rightP p with
    | false => rfl
    | true => obtain ⟨a, b, c, d, _⟩ := rightP_iff.1 hr; exact absurd ⟨a, b, c, d⟩ hn)
  by_cases h1 : p.at_ < 0
  · rw [decide_eq_true h1, ite2_true]; exact no (by omega)
  rw [decide_eq_false h1, ite2_false]
  by_cases h2 : p.at_ > 65535
  · rw [decide_eq_true h2, ite2_true]; exact no (by omega)
  rw [decide_eq_false h2, ite2_false]
  refine ⟨by decide, ?_⟩
  by_cases h3 : p.at_.tmod 8 = 0
  rotate_left
  · have e : (p.at_.tmod 8 != 0) = true := by simpa using h3
    rw [e, ite2_true]; exact no (fun x => h3 x.2.2.1)
  have e : (p.at_.tmod 8 != 0) = false := by simpa using h3
  rw [e, ite2_false, w64 (by omega) (by omega)]
  by_cases h4 : (p.data.size : Int) > 65535 - p.at_
  · rw [decide_eq_true h4]; exact no (by omega)
  rw [decide_eq_false h4]
  unfold F67_j1
  rw [ite2_false]
  simp only [k3, k4, ldV_some, boolV_bool, strV_string]
  have hx : rightP p = (!p.more || (decide (0 < p.data.size) && decide (p.data.size % 8 = 0))) := by
    unfold rightP
    rw [decide_eq_true (by omega : 0 ≤ p.at_), decide_eq_true (by omega : p.at_ ≤ 65535), decide_eq_true h3, decide_eq_true (by omega : p.at_ + p.data.size ≤ 65535)]
    simp
  rw [hx] at h
  cases hm : p.more
  · rw [hm] at h; exact h
  · rw [hm] at h
    show ite2 false _ _
    rw [ite2_false]
    by_cases h5 : 0 < p.data.size
    · rw [decide_eq_true (by omega : ((p.data.size : Nat) : Int) > 0), ite2_true]
      refine ⟨by decide, ?_⟩
      have e2 : (Int.tmod ((p.data.size : Nat) : Int) 8 == 0) = decide (p.data.size % 8 = 0) := by
        have : Int.tmod ((p.data.size : Nat) : Int) 8 = ((p.data.size % 8 : Nat) : Int) := rfl
        rw [this, Bool.eq_iff_iff, beq_iff_eq, decide_eq_true_iff]; omega
      rw [e2]
      rw [decide_eq_true h5] at h
      simpa using h
    · rw [decide_eq_false (by omega : ¬ ((p.data.size : Nat) : Int) > 0), ite2_false]
      rw [decide_eq_false h5] at h
      simpa using h

variable {s : Option Addr} {n c : Nat} {l : List Pc}

/-- A list that is looked through: the function that looks leaves the heaplet as it is. -/
theorem C121 {f : FuncId} {ga gb : List Value} {g : Pc → Bool} (hs : Shows hp s n 6 (l.flatMap pc)) (hl : l.length = n) (hn : n ≤ 1000000000)
    (hf : ∀ x ∈ l, ∀ K : Value → HP → Prop, K (.bool (g x)) hp → CF Try.prog f (ga ++ [.agg ⟨pc x⟩] ++ gb) hp K)
    (h : ∀ v : Int, (decide (v ≥ 0) = l.any g) → K (.int .i64 v) hp) : CF Try.prog 121 [.slice s n c, .func (.func f) ⟨ga⟩ ⟨gb⟩] hp K := by
  refine F121_ok s n c _ hp K ?_
  unfold F121 F121_j1
  refine LoopP.by (J := fun m (y : Int) hp' => hp' = hp ∧ ∃ i : Nat, y = i ∧ i + m = n ∧ (l.take i).any g = false) ?_ (n := n) ⟨rfl, 0, rfl, by omega, rfl⟩
  rintro I m y hp' ⟨rfl, i, rfl, him, hno⟩ hI
  unfold F121_l2
  by_cases hi : i < n
  · rw [decide_eq_true (by omega : (i : Int) < (n : Int)), ite2_true]
    have hil : i < l.length := by omega
    obtain ⟨b, o, hao, hc⟩ := hs.get pc_len hl hi
    simp only [hao, ptrN_some, Int.toNat_natCast, hc, ldL_some, fnV_mk]
    refine ⟨by omega, by omega, ?_⟩
    refine hf _ (List.getElem_mem hil) _ ?_
    rw [boolV_bool]
    have ht : (l.take (i + 1)).any g = ((l.take i).any g || g l[i]) := by
      rw [List.take_succ_eq_append_getElem hil, List.any_append]; simp
    cases hg : g l[i]
    · have w1 : IntKind.wrap .i64 ((i : Int) + 1) = ((i + 1 : Nat) : Int) := wiN (by omega) (by omega)
      rw [ite2_false, w1]
      refine hI (m - 1) _ _ (by omega) ⟨rfl, i + 1, rfl, by omega, ?_⟩
      rw [ht, hno, hg]; rfl
    · rw [ite2_true]
      refine h _ ?_
      rw [decide_eq_true (by omega : (i : Int) ≥ 0)]
      exact (List.any_eq_true.2 ⟨_, List.getElem_mem hil, hg⟩).symm
  · rw [decide_eq_false (by omega : ¬ (i : Int) < (n : Int)), ite2_false]
    rw [List.take_of_length_le (by omega)] at hno
    exact h _ (by rw [hno]; rfl)

theorem C76 {f : FuncId} {ga gb : List Value} {g : Pc → Bool} (hs : Shows hp s n 6 (l.flatMap pc)) (hl : l.length = n) (hn : n ≤ 1000000000)
    (hf : ∀ x ∈ l, ∀ K : Value → HP → Prop, K (.bool (g x)) hp → CF Try.prog f (ga ++ [.agg ⟨pc x⟩] ++ gb) hp K)
    (h : K (.bool (l.any g)) hp) : CF Try.prog 76 [.slice s n c, .func (.func f) ⟨ga⟩ ⟨gb⟩] hp K := by
  refine F76_ok s n c _ hp K ?_
  unfold F76
  refine C121 hs hl hn hf fun v hv => ?_
  rw [intV_int, hv]
  exact h
end

section
variable {f : FuncId} {ga gb : List Value} {hp0 : HP} {b sp n c : Nat} {cf : Pc → Pc → Int}

theorem S169 (hc : CmpOk Try.prog f ga gb hp0 b 29 sp pc n cf) {d : Array Pc} {lo hi : Nat} {K : Value → HP → Prop} (hs : d.size = n) (hlo : lo ≤ hi) (hhi : hi ≤ n) (hn : n ≤ 1000000000)
    (h : K (.tuple ⟨[]⟩) (HA hp0 b 29 sp pc (Sort.insertionSort (ltC cf) d lo hi))) :
    CF Try.prog 169 [.slice (some ⟨b, 0, none⟩) n c, .int .i64 lo, .int .i64 hi, .func (.func f) ⟨ga⟩ ⟨gb⟩] (HA hp0 b 29 sp pc d) K := by
  refine F169_ok _ n c lo hi _ _ K ?_
  unfold F169 F169_j1
  rw [w64 (by omega) (by omega)]
  refine LoopP.by (J := fun k (x : Int) hp => ∃ (i : Nat) (d' : Array Pc), x = i ∧ hp = HA hp0 b 29 sp pc d' ∧ d'.size = n ∧ lo < i ∧ k = hi - i ∧ Sort.insOuter (ltC cf) lo hi i d' = Sort.insertionSort (ltC cf) d lo hi) ?_
    (n := hi - (lo + 1)) ⟨lo + 1, d, by omega, rfl, hs, by omega, rfl, rfl⟩
  rintro I k x hp ⟨i, d', rfl, rfl, hs', hli, rfl, he⟩ hI
  unfold F169_l2
  rw [Sort.insOuter] at he
  by_cases hi' : i < hi
  · rw [decide_eq_true (by omega : (i : Int) < (hi : Int)), ite2_true]
    rw [if_pos hi'] at he
    unfold F169_j4
    refine LoopP.by (J := fun k (y : Int) hp => ∃ (j : Nat) (d2 : Array Pc), y = j ∧ hp = HA hp0 b 29 sp pc d2 ∧ d2.size = n ∧ j < n ∧ k = j ∧ Sort.insInner (ltC cf) lo j d2 = Sort.insInner (ltC cf) lo i d') ?_
      (n := i) ⟨i, d', rfl, rfl, hs', by omega, rfl, rfl⟩
    rintro I2 k2 y hp2 ⟨j, d2, rfl, rfl, hs2, hj, hk2, he2⟩ hI2
    unfold F169_l5
    have out : Sort.insInner (ltC cf) lo i d' = d2 → F169_j6 (some ⟨b, 0, none⟩) n c lo hi (.func (.func f) ⟨ga⟩ ⟨gb⟩) i j false (HA hp0 b 29 sp pc d2) I I2 K := by
      intro heq
      unfold F169_j6 F169_j3
      rw [ite2_false, w64 (by omega) (by omega)]
      exact hI (hi - (i + 1)) _ _ (by omega) ⟨i + 1, d2, by omega, rfl, hs2, by omega, rfl, by rw [← heq]; exact he⟩
    by_cases hjl : lo < j
    · rw [decide_eq_true (by omega : (j : Int) > (lo : Int)), ite2_true]
      obtain ⟨j', rfl⟩ : ∃ j', j = j' + 1 := ⟨j - 1, by omega⟩
      have w1 : IntKind.wrap .i64 (((j' + 1 : Nat) : Int) - 1) = (j' : Int) := by rw [w64 (by omega) (by omega)]; omega
      have g1 := HA.get (hp0 := hp0) (b := b) (e := 29) (sp := sp) pc_len (d := d2) (i := j' + 1) (by omega)
      have g0 := HA.get (hp0 := hp0) (b := b) (e := 29) (sp := sp) pc_len (d := d2) (i := j') (by omega)
      simp only [w1, ptrN_some, Int.toNat_natCast, g1, g0, ldL_some, fnV_mk]
      refine ⟨by omega, by omega, by omega, by omega, ?_⟩
      refine hc d2 _ _ _ hs2 ?_
      rw [intV_int]
      rw [Sort.insInner] at he2
      have hgt : decide (j' + 1 > lo) = true := decide_eq_true (by omega)
      cases hlt : decide (cf d2[j' + 1]! d2[j']! < 0)
      · have : ltC cf d2[j' + 1]! d2[j']! = false := hlt
        rw [hgt, this] at he2
        exact out (by simpa using he2.symm)
      · have : ltC cf d2[j' + 1]! d2[j']! = true := hlt
        rw [hgt, this] at he2
        simp only [Bool.and_self, if_true] at he2
        unfold F169_j6
        simp only [ite2_true, w1, ptrN_some, Int.toNat_natCast, g0, g1, ldL_some]
        refine ⟨by omega, by omega, by omega, by omega, by omega, by omega, rfl, ?_⟩
        refine HA.st pc_len pc_one (by omega) _ ?_
        refine ⟨by omega, by omega, rfl, ?_⟩
        refine HA.st pc_len pc_one (by rw [Array.size_setIfInBounds]; omega) _ ?_
        exact hI2 j' _ _ (by omega) ⟨j', _, rfl, rfl, by rw [Array.size_setIfInBounds, Array.size_setIfInBounds]; exact hs2, by omega, rfl, he2⟩
    · rw [decide_eq_false (by omega : ¬ (j : Int) > (lo : Int)), ite2_false]
      refine out ?_
      cases j with
      | zero => rw [Sort.insInner] at he2; exact he2.symm
      | succ j =>
        rw [Sort.insInner] at he2
        have hgt : decide (j + 1 > lo) = false := decide_eq_false (by omega)
        rw [hgt] at he2
        simpa using he2.symm
  · rw [decide_eq_false (by omega : ¬ (i : Int) < (hi : Int)), ite2_false]
    rw [if_neg hi'] at he
    rw [he]
    exact h
end
end Go.Proofs

set_option linter.unusedVariables false
set_option maxRecDepth 20000
namespace Go.Proofs
open Go Go.HL

/-- A piece speaks against another one. -/
def clash (p q : Pc) : Bool := (decide (p.at_ < q.toW) && decide (q.at_ < p.toW)) || (!p.more && decide (q.toW > p.toW))
def fitsQ (fin : Int) (l : List Pc) (p : Pc) : Bool := !(decide (fin ≥ 0) && (!p.more || decide (p.toW > fin))) && !(l.any (clash p))

/-- A datagram: where it is, where its pieces are, and what it has. -/
structure Dg where
  blk : Nat
  rblk : Nat
  id : Int
  due : Int
  fin : Int
  l : List Pc
def DgR (hp : HP) (d : Dg) : Prop :=
  d.l ≠ [] ∧ ∃ c, d.l.length ≤ c ∧ hp d.blk = .cells 135 [.int .i64 d.id, .int .i64 d.due, .int .i64 d.fin, .slice (some ⟨d.rblk, 0, none⟩) d.l.length c] 0 ∧ hp d.rblk = .cells 29 (d.l.flatMap pc) ((c - d.l.length) * 6)
theorem DgR.sub {hp hp' : HP} {d : Dg} (h : DgR hp d) (hs : HSub hp hp') : DgR hp' d := by
  obtain ⟨h0, c, h1, h2, h3⟩ := h
  exact ⟨h0, c, h1, hs.cells h2, hs.cells h3⟩

section
variable {p q : Pc} {hp : HP} {K : Value → HP → Prop} {d : Dg}

theorem C123 {b : Nat} (hb : hp b = .cells 29 (pc p) 0) (h : K (.bool (clash p q)) hp) : CF Try.prog 123 [.agg ⟨pc q⟩, .pointer (some ⟨b, 0, none⟩)] hp K := by
  refine F123_ok (pc q) _ hp K ?_
  unfold F123
  have k2 : ∀ p : Pc, (pc p)[2]? = some (.int .i64 p.at_) := fun _ => rfl
  have c2 : hp.cell b 2 = some (.int .i64 p.at_) := by rw [HP.cell_of hb]; rfl
  have c3 : hp.cell b 3 = some (.bool p.more) := by rw [HP.cell_of hb]; rfl
  have cN : hp.cellN b 0 6 = some (pc p) := by rw [HP.cellN_of hb]; exact cellsN_all rfl
  unfold clash at h
  have call : ∀ (x : Pc) (X : Int → HP → Prop), X x.toW hp → CF Try.prog 122 [.agg ⟨pc x⟩] hp fun u h => intV u .i64 fun i => X i h := fun x X hx => C122 (by rw [intV_int]; exact hx)
  cases hA : decide (p.at_ < q.toW) <;> cases hB : decide (q.at_ < p.toW) <;> cases hC : p.more
  all_goals
    rw [hA, hB, hC] at h
    repeat' apply And.intro
    all_goals
      repeat (first | (refine call _ _ ?_) | (simp only [ptrN_some, Nat.zero_add, c2, c3, cN, k2, ldV_some, ldL_some, intV_int, boolV_bool, cellsN_all (pc_len _), hA, hB, hC, ite2_true, ite2_false, Bool.not_true, Bool.not_false]))
      simpa using h

theorem C78 (hd : DgR hp d) (hn : d.l.length ≤ 1000000) (h : K (.bool (fitsQ d.fin d.l p)) hp) : CF Try.prog 78 [ptr d.blk 0, .agg ⟨pc p⟩] hp K := by
  refine CF.drop (F78_ok _ (pc p) hp _ ?_)
  unfold F78
  intro b hb
  have sb := HSub.set_fresh hp (.cells 29 (pc p) 0) hb
  have hd1 := hd.sub sb
  have hpb : (hp.set b (.cells 29 (pc p) 0)) b = .cells 29 (pc p) 0 := HP.set_eq ..
  generalize hp.set b (.cells 29 (pc p) 0) = hp1 at *
  obtain ⟨h0, c, h1, h2, h3⟩ := hd1
  have hc : ∀ o, hp1.cell d.blk o = [Value.int .i64 d.id, .int .i64 d.due, .int .i64 d.fin, .slice (some ⟨d.rblk, 0, none⟩) d.l.length c][o]? := fun o => HP.cell_of h2
  have c3 : hp1.cell b 3 = some (.bool p.more) := by rw [HP.cell_of hpb]; rfl
  have cN : hp1.cellN b 0 6 = some (pc p) := by rw [HP.cellN_of hpb]; exact cellsN_all rfl
  have sh : Shows hp1 (some ⟨d.rblk, 0, none⟩) d.l.length 6 (d.l.flatMap pc) := .inr ⟨d.rblk, 0, rfl, by rw [HP.cellN_of h3]; exact cellsN_all (by rw [flat_len pc_len])⟩
  have call : ∀ (x : Pc) (X : Int → HP → Prop), X x.toW hp1 → CF Try.prog 122 [.agg ⟨pc x⟩] hp1 fun u h => intV u .i64 fun i => X i h := fun x X hx => C122 (by rw [intV_int]; exact hx)
  have no : (decide (d.fin ≥ 0) && (!p.more || decide (p.toW > d.fin))) = true → F78_j1 (some ⟨d.blk, 0, none⟩) (some ⟨b, 0, none⟩) true hp1 (fun v hp' => ∃ hp'', HSub hp'' hp' ∧ K v hp'') := by
    intro e
    unfold F78_j1
    rw [ite2_true]
    unfold fitsQ at h
    rw [e] at h
    exact ⟨hp, sb, h⟩
  have yes : (decide (d.fin ≥ 0) && (!p.more || decide (p.toW > d.fin))) = false → F78_j1 (some ⟨d.blk, 0, none⟩) (some ⟨b, 0, none⟩) false hp1 (fun v hp' => ∃ hp'', HSub hp'' hp' ∧ K v hp'') := by
    intro e
    unfold F78_j1
    rw [ite2_false]
    simp only [ptrN_some, hc, Nat.zero_add, List.getElem?_cons_succ, List.getElem?_cons_zero, ldV_some, slcV_slice]
    refine C76 (g := clash p) sh rfl (by omega) (fun x _ K' hK' => C123 hpb hK') ?_
    rw [boolV_bool]
    unfold fitsQ at h
    rw [e] at h
    exact ⟨hp, sb, by simpa using h⟩
  cases hA : decide (d.fin ≥ 0) <;> cases hB : p.more <;> cases hC : decide (p.toW > d.fin)
  all_goals
    rw [hA, hB, hC] at no yes
    apply And.intro
    all_goals
      repeat (first | (refine call _ _ ?_) | (simp only [ptrN_some, hc, c3, cN, Nat.zero_add, List.getElem?_cons_succ, List.getElem?_cons_zero, ldV_some, ldL_some, intV_int, boolV_bool, hA, hB, hC, ite2_true, ite2_false, Bool.not_true, Bool.not_false]))
      first | exact yes rfl | exact no rfl

/-- The head of the piece at 0. -/
def headQ : List Pc → ByteArray
  | [] => ⟨#[]⟩
  | p :: l => if p.at_ = 0 then p.head else headQ l

theorem C110 (hd : DgR hp d) (hn : d.l.length ≤ 1000000) (h : K (.string (headQ d.l)) hp) : CF Try.prog 110 [ptr d.blk 0] hp K := by
  refine F110_ok _ hp K ?_
  unfold F110
  obtain ⟨h0, c, h1, h2, h3⟩ := hd
  have hc : ∀ o, hp.cell d.blk o = [Value.int .i64 d.id, .int .i64 d.due, .int .i64 d.fin, .slice (some ⟨d.rblk, 0, none⟩) d.l.length c][o]? := fun o => HP.cell_of h2
  have sh : Shows hp (some ⟨d.rblk, 0, none⟩) d.l.length 6 (d.l.flatMap pc) := .inr ⟨d.rblk, 0, rfl, by rw [HP.cellN_of h3]; exact cellsN_all (by rw [flat_len pc_len])⟩
  simp only [ptrN_some, hc, Nat.zero_add, List.getElem?_cons_succ, List.getElem?_cons_zero, ldV_some, slcV_slice]
  unfold F110_j1
  refine LoopP.by (J := fun m (y : Int) hp' => hp' = hp ∧ ∃ i : Nat, y = i ∧ i + m = d.l.length ∧ headQ d.l = headQ (d.l.drop i)) ?_ (n := d.l.length) ⟨rfl, 0, rfl, by omega, by simp⟩
  rintro I m y hp' ⟨rfl, i, rfl, him, hh⟩ hI
  unfold F110_l2
  by_cases hi : i < d.l.length
  · rw [decide_eq_true (by omega : (i : Int) < (d.l.length : Int)), ite2_true]
    obtain ⟨b, o, hao, hg⟩ := sh.get pc_len rfl hi
    have hz : splice [(Value.string ⟨#[]⟩), (Value.string ⟨#[]⟩), (Value.int .i64 0), (Value.bool false), (Value.string ⟨#[]⟩), (Value.string ⟨#[]⟩)] 0 (pc d.l[i]) = pc d.l[i] := splice_all rfl
    have k2 : (pc d.l[i])[2]? = some (.int .i64 d.l[i].at_) := rfl
    have k5 : (pc d.l[i])[5]? = some (.string d.l[i].head) := rfl
    cases hao
    simp only [ptrN_some, Int.toNat_natCast, hg, ldL_some, pc_len, pc_one, if_true, hz, k2, k5, ldV_some, intV_int, strV_string]
    refine ⟨by omega, by omega, ?_⟩
    refine ifI (Nat.le_refl _) ?_
    rw [List.drop_eq_getElem_cons hi, headQ] at hh
    by_cases h0 : d.l[i].at_ = 0
    · have e : (d.l[i].at_ == 0) = true := by simpa using h0
      rw [e, ite2_true]
      rw [if_pos h0] at hh
      rw [hh] at h; exact h
    · have e : (d.l[i].at_ == 0) = false := by simpa using h0
      have w1 : IntKind.wrap .i64 ((i : Int) + 1) = ((i + 1 : Nat) : Int) := wiN (by omega) (by omega)
      rw [e, ite2_false, w1]
      rw [if_neg h0] at hh
      exact hI (m - 1) _ _ (by omega) ⟨rfl, i + 1, rfl, by omega, hh⟩
  · rw [decide_eq_false (by omega : ¬ (i : Int) < (d.l.length : Int)), ite2_false]
    rw [List.drop_of_length_le (by omega), headQ] at hh
    rw [hh] at h; exact h
end

/-! The sort of a datagram's pieces. -/
def cfP (x y : Pc) : Int := if cmpN x.at_ y.at_ ≠ 0 then cmpN x.at_ y.at_ else cmpN x.toW y.toW
theorem cfP_lt {a b : Pc} : ltC cfP a b = true ↔ a.at_ < b.at_ ∨ (a.at_ = b.at_ ∧ a.toW < b.toW) := by
  unfold ltC cfP cmpN
  rw [decide_eq_true_iff]
  repeat' split
  all_goals omega
theorem cfP_ltf {a b : Pc} : ltC cfP a b = false ↔ ¬ (a.at_ < b.at_ ∨ (a.at_ = b.at_ ∧ a.toW < b.toW)) := by
  rw [← cfP_lt]; simp
theorem swo_cfP : Sort.SWO (ltC cfP) where
  irrefl x := by rw [cfP_ltf]; omega
  trans x y z := by simp only [cfP_lt]; omega
  ntrans x y z := by simp only [cfP_ltf]; omega

theorem C125 {x y : Pc} {hp : HP} {K : Value → HP → Prop} (h : K (.int .i64 (cfP x y)) hp) : CF Try.prog 125 [.agg ⟨pc x⟩, .agg ⟨pc y⟩] hp K := by
  refine CF.drop (F125_ok (pc x) (pc y) hp _ ?_)
  unfold F125
  have k2 : ∀ p : Pc, (pc p)[2]? = some (.int .i64 p.at_) := fun _ => rfl
  simp only [k2, ldV_some, intV_int, cellsN_all (pc_len _), ldL_some]
  refine D97 ?_
  rw [intV_int]
  refine C122 ?_
  rw [intV_int]
  refine C122 ?_
  rw [intV_int]
  refine D97 ?_
  rw [intV_int]
  intro b hb
  refine D96 (HP.set_eq ..) ?_
  rw [intV_int]
  exact ⟨hp, HSub.set_fresh hp _ hb, h⟩

theorem list_sorted {α : Type} [Inhabited α] {lt : α → α → Bool} {l : List α} {n : Nat} {d' : Array α} (hl : l.length = n) (hpm : Sort.PermIn 0 n l.toArray d') (hst : Sort.SortedIn lt 0 n d') : d'.toList.Perm l ∧ d'.toList.Pairwise (fun x y => lt y x = false) := by
  have hsz : d'.size = n := by rw [hpm.1]; simpa using hl
  refine ⟨?_, ?_⟩
  · have h3 := hpm.2.2
    have e1 : d'.extract 0 n = d' := by rw [← hsz]; simp
    have e2 : l.toArray.extract 0 n = l.toArray := by rw [← hl]; simp
    rw [e1, e2] at h3
    exact h3
  · rw [List.pairwise_iff_getElem]
    intro i j hi hj hij
    have := hst i j (Nat.zero_le _) hij (by simpa [hsz] using hj)
    rw [getElem!_pos d' j (by simpa using hj), getElem!_pos d' i (by simpa using hi)] at this
    simpa using this

/-- At most twenty pieces. -/
theorem S124 {hp : HP} {b c n : Nat} {l : List Pc} {K : Value → HP → Prop} (hb : hp b = .cells 29 (l.flatMap pc) ((c - n) * 6)) (hl : l.length = n) (hn : n < 20)
    (h : ∀ l' : List Pc, l'.Perm l → l'.Pairwise (fun x y => ltC cfP y x = false) → K (.tuple ⟨[]⟩) (hp.set b (.cells 29 (l'.flatMap pc) ((c - n) * 6)))) :
    CF Try.prog 124 [.slice (some ⟨b, 0, none⟩) n c, .func (.func 125) ⟨[]⟩ ⟨[]⟩] hp K := by
  refine F124_ok _ n c _ hp K ?_
  unfold F124
  refine F145_ok _ n c (n : Int) _ hp _ ?_
  unfold F145 F145_j1
  have hc : CmpOk Try.prog 125 [] [] hp b 29 ((c - n) * 6) pc n cfP := fun d x y K _ hK => C125 hK
  have hH : hp = HA hp b 29 ((c - n) * 6) pc l.toArray := by
    unfold HA; exact (HP.set_self hp b _ (by simpa using hb)).symm
  refine LoopP.by (J := fun m (y : Int × Int) hp' => y = (0, 20) ∧ hp' = hp) ?_ (n := 0) ⟨rfl, rfl⟩
  rintro I m ⟨y1, y2⟩ hp' ⟨e, rfl⟩ hI
  cases e
  unfold F145_l9
  simp only []
  rw [decide_eq_false (by omega : ¬ (20 : Int) ≤ (n : Int)), ite2_false]
  unfold F145_j2
  have z0 : (Value.int .i64 0) = Value.int .i64 ((0 : Nat) : Int) := rfl
  rw [z0]
  generalize hHA : HA hp' b 29 ((c - n) * 6) pc l.toArray = H at hH
  have : CF Try.prog 169 [.slice (some ⟨b, 0, none⟩) n c, .int .i64 ((0 : Nat) : Int), .int .i64 (n : Int), .func (.func 125) ⟨[]⟩ ⟨[]⟩] (HA hp' b 29 ((c - n) * 6) pc l.toArray) fun u h => F145_j3 (some ⟨b, 0, none⟩) n c n (.func (.func 125) ⟨[]⟩ ⟨[]⟩) 20 h (fun u_1 h_2 => K (.tuple ⟨[]⟩) h_2) := by
    refine S169 hc (by simpa using hl) (Nat.zero_le _) (Nat.le_refl _) (by omega) ?_
    unfold F145_j3
    refine LoopP.by (J := fun m (y : Int) hp2 => y = 20 ∧ hp2 = HA hp' b 29 ((c - n) * 6) pc (Sort.insertionSort (ltC cfP) l.toArray 0 n)) ?_ (n := 0) ⟨rfl, rfl⟩
    rintro I2 m2 y hp2 ⟨rfl, rfl⟩ hI2
    unfold F145_l4
    rw [decide_eq_false (by omega : ¬ (20 : Int) < (n : Int)), ite2_false]
    obtain ⟨i1, i2⟩ := Sort.insertionSort_holds swo_cfP l.toArray 0 n (Nat.zero_le _) (by simp [hl])
    obtain ⟨g1, g2⟩ := list_sorted hl i1 i2
    exact h _ g1 g2
  rw [hHA, ← hH] at this
  exact this
end Go.Proofs

set_option linter.unusedVariables false
set_option maxRecDepth 20000
namespace Go.Proofs
open Go Go.HL

def e0s : ByteArray := ⟨#[]⟩
/-- A datagram as it is told. -/
def wh (key head data : ByteArray) (n : Int) : List Value := [.string key, .string head, .string data, .int .i64 n]
def joinG : List Pc → ByteArray → Option ByteArray
  | [], w => some w
  | p :: l, w => if p.at_ = w.size then joinG l (w ++ p.data) else none
def wholeQ (fin : Int) (l : List Pc) : Option ByteArray := (joinG l e0s).bind fun w => if (w.size : Int) = fin then some w else none
def whO (key head : ByteArray) (n : Int) : Option ByteArray → List Value
  | some w => wh key head w n
  | none => wh e0s e0s e0s 0

theorem DgR.setl {hp : HP} {d : Dg} {l' : List Pc} {c : Nat} (hne : d.rblk ≠ d.blk) (hd : DgR hp d) (hp' : l'.Perm d.l) (hb : hp d.blk = .cells 135 [.int .i64 d.id, .int .i64 d.due, .int .i64 d.fin, .slice (some ⟨d.rblk, 0, none⟩) d.l.length c] 0) (hc : d.l.length ≤ c) :
    DgR (hp.set d.rblk (.cells 29 (l'.flatMap pc) ((c - d.l.length) * 6))) { d with l := l' } := by
  have hl := hp'.length_eq
  refine ⟨fun e => hd.1 ?_, c, by simpa [hl] using hc, ?_, ?_⟩
  · simp only at e; rw [e] at hl; exact List.eq_nil_of_length_eq_zero hl.symm
  · simp only; rw [HP.set_ne _ _ hne.symm, hl]; exact hb
  · simp only; rw [HP.set_eq, hl]

section
variable {hp : HP} {K : Value → HP → Prop} {d : Dg} {key : ByteArray}

theorem C81 (hd : DgR hp d) (hn : d.l.length < 20) (hok : ∀ p ∈ d.l, rightP p = true)
    (hneg : d.fin < 0 → K (.tuple ⟨[.agg ⟨wh e0s e0s e0s 0⟩, .bool false]⟩) hp)
    (hpos : 0 ≤ d.fin → ∀ (l' : List Pc) (x : Ent), l'.Perm d.l → l'.Pairwise (fun x y => ltC cfP y x = false) → DgR (hp.set d.rblk x) { d with l := l' } →
      K (.tuple ⟨[.agg ⟨whO key (headQ d.l) d.l.length (wholeQ d.fin l')⟩, .bool (wholeQ d.fin l').isSome]⟩) (hp.set d.rblk x)) :
    CF Try.prog 81 [ptr d.blk 0, .string key] hp K := by
  refine F81_ok _ key hp K ?_
  unfold F81
  have hd0 := hd
  obtain ⟨h0, c, h1, h2, h3⟩ := hd
  have hne : d.rblk ≠ d.blk := fun e => by rw [e, h2] at h3; cases h3
  have hc : ∀ o, hp.cell d.blk o = [Value.int .i64 d.id, .int .i64 d.due, .int .i64 d.fin, .slice (some ⟨d.rblk, 0, none⟩) d.l.length c][o]? := fun o => HP.cell_of h2
  have hz : splice [(Value.string ⟨#[]⟩), (Value.string ⟨#[]⟩), (Value.string ⟨#[]⟩), (Value.int .i64 0)] 0 [(Value.string ⟨#[]⟩), (Value.string ⟨#[]⟩), (Value.string ⟨#[]⟩), (Value.int .i64 0)] = wh e0s e0s e0s 0 := splice_all rfl
  have whl : ∀ a b c d, (wh a b c d).length = 4 := fun _ _ _ _ => rfl
  have who : ∀ a b c d, (wh a b c d).all one = true := fun _ _ _ _ => rfl
  have hz0 : [(Value.string ⟨#[]⟩), (Value.string ⟨#[]⟩), (Value.string ⟨#[]⟩), (Value.int .i64 0)] = wh e0s e0s e0s 0 := rfl
  have hsp : ∀ a b c d a' b' c' d', splice (wh a b c d) 0 (wh a' b' c' d') = wh a' b' c' d' := fun _ _ _ _ _ _ _ _ => splice_all rfl
  simp only [ptrN_some, hc, Nat.zero_add, List.getElem?_cons_succ, List.getElem?_cons_zero, ldV_some, intV_int, slcV_slice, hz0, whl, who, if_true, hsp, cellsN_all (whl _ _ _ _), ldL_some]
  by_cases hf : d.fin < 0
  · rw [decide_eq_true hf, ite2_true]
    exact ifI (Nat.le_refl _) (hneg hf)
  rw [decide_eq_false hf, ite2_false]
  -- behind the head
  have one : F81_j1 (some ⟨d.blk, 0, none⟩) (wh e0s e0s e0s 0) (wh key (headQ d.l) e0s d.l.length) hp K := by
    unfold F81_j1
    simp only [ptrN_some, hc, Nat.zero_add, List.getElem?_cons_succ, List.getElem?_cons_zero, ldV_some, slcV_slice]
    refine S124 h3 rfl hn fun l' hperm hsort => ?_
    have hK := hpos (by omega) l' _ hperm hsort (hd0.setl hne hperm h2 h1)
    generalize hh1 : hp.set d.rblk (.cells 29 (l'.flatMap pc) ((c - d.l.length) * 6)) = hp1 at hK ⊢
    have hc1 : ∀ o, hp1.cell d.blk o = [Value.int .i64 d.id, .int .i64 d.due, .int .i64 d.fin, .slice (some ⟨d.rblk, 0, none⟩) d.l.length c][o]? := fun o => by
      rw [← hh1]; exact HP.cell_of (by rw [HP.set_ne _ _ hne.symm]; exact h2)
    have hll := hperm.length_eq
    have sh : Shows hp1 (some ⟨d.rblk, 0, none⟩) d.l.length 6 (l'.flatMap pc) := .inr ⟨d.rblk, 0, rfl, by rw [← hh1, HP.cellN_of (HP.set_eq ..)]; exact cellsN_all (by rw [flat_len pc_len, hll])⟩
    simp only [ptrN_some, hc1, Nat.zero_add, List.getElem?_cons_succ, List.getElem?_cons_zero, ldV_some, slcV_slice]
    unfold F81_j3
    have hwq : wholeQ d.fin l' = (joinG l' e0s).bind fun w => if (w.size : Int) = d.fin then some w else none := rfl
    -- it is not
    have no : wholeQ d.fin l' = none → K (.tuple ⟨[.agg ⟨wh e0s e0s e0s 0⟩, .bool false]⟩) hp1 := fun e => by rw [e] at hK; exact hK
    refine LoopP.by (J := fun m (y : Int × List Value × List Value) hp' => hp' = hp1 ∧ ∃ (i : Nat) (w : ByteArray), y.1 = i ∧ i + m = d.l.length ∧ y.2.1 = wh e0s e0s e0s 0 ∧ y.2.2 = wh key (headQ d.l) w d.l.length ∧ joinG l' e0s = joinG (l'.drop i) w) ?_ (n := d.l.length)
      ⟨rfl, 0, e0s, rfl, by omega, rfl, rfl, by simp⟩
    rintro I m ⟨y, k4, k6⟩ hp' ⟨rfl, i, w, hy, him, hk4, hk6, hj⟩ hI
    simp only at hy hk4 hk6
    subst hy hk4 hk6
    unfold F81_l4
    simp only []
    have w2 : ∀ a b c d, (wh a b c d)[2]? = some (.string c) := fun _ _ _ _ => rfl
    by_cases hi : i < d.l.length
    · have hil : i < l'.length := by omega
      rw [decide_eq_true (by omega : (i : Int) < (d.l.length : Int)), ite2_true]
      obtain ⟨b, o, hao, hg⟩ := sh.get pc_len hll hi
      have hzp : splice [(Value.string ⟨#[]⟩), (Value.string ⟨#[]⟩), (Value.int .i64 0), (Value.bool false), (Value.string ⟨#[]⟩), (Value.string ⟨#[]⟩)] 0 (pc l'[i]) = pc l'[i] := splice_all rfl
      have k2 : (pc l'[i])[2]? = some (.int .i64 l'[i].at_) := rfl
      have k4 : (pc l'[i])[4]? = some (.string l'[i].data) := rfl
      cases hao
      simp only [ptrN_some, Int.toNat_natCast, hg, ldL_some, pc_len, pc_one, if_true, hzp, k2, k4, w2, ldV_some, intV_int, strV_string, hz0, whl, who, hsp, cellsN_all (whl _ _ _ _)]
      refine ⟨by omega, by omega, ?_⟩
      refine ifI (Nat.le_refl _) ?_
      rw [List.drop_eq_getElem_cons hil, joinG] at hj
      have hr := rightP_iff.1 (hok l'[i] (hperm.mem_iff.1 (List.getElem_mem hil)))
      by_cases ha : l'[i].at_ = w.size
      · have e : (l'[i].at_ != (w.size : Int)) = false := by simpa using ha
        have w1 : IntKind.wrap .i64 ((i : Int) + 1) = ((i + 1 : Nat) : Int) := wiN (by omega) (by omega)
        rw [e, ite2_false, w1]
        rw [if_pos ha] at hj
        refine ⟨by omega, ?_⟩
        rw [if_pos (by decide)]
        exact hI (m - 1) _ _ (by omega) ⟨rfl, i + 1, w ++ l'[i].data, rfl, by omega, rfl, rfl, hj⟩
      · have e : (l'[i].at_ != (w.size : Int)) = true := by simpa using ha
        rw [e, ite2_true]
        rw [if_neg ha] at hj
        refine ifI (Nat.le_refl _) (no ?_)
        rw [hwq, hj]; rfl
    · rw [decide_eq_false (by omega : ¬ (i : Int) < (d.l.length : Int)), ite2_false]
      rw [List.drop_of_length_le (by omega), joinG] at hj
      unfold F81_j2
      simp only [w2, ldV_some, strV_string, ptrN_some, hc1, Nat.zero_add, List.getElem?_cons_succ, List.getElem?_cons_zero, intV_int, hz0, whl, who, if_true, hsp, cellsN_all (whl _ _ _ _), ldL_some]
      by_cases hwf : (w.size : Int) = d.fin
      · have e : ((w.size : Int) != d.fin) = false := by simpa using hwf
        rw [e, ite2_false]
        have hq : wholeQ d.fin l' = some w := by rw [hwq, hj]; simp [hwf]
        rw [hq] at hK
        exact ifI (Nat.le_refl _) hK
      · have e : ((w.size : Int) != d.fin) = true := by simpa using hwf
        rw [e, ite2_true]
        refine ifI (Nat.le_refl _) (no ?_)
        rw [hwq, hj]; simp [hwf]
  have hz2 : ∀ (s : ByteArray) (x : Int), [Value.string key, .string s, .string ⟨#[]⟩, .int .i64 x] = wh key s e0s x := fun _ _ => rfl
  refine ⟨?_, ?_⟩
  · refine C110 hd0 (by omega) ?_
    simp only [strV_string, hz2, whl, who, if_true, hsp]
    exact ifI (Nat.le_refl _) one
  · refine C110 hd0 (by omega) ?_
    simp only [strV_string, hc, Nat.zero_add, List.getElem?_cons_succ, List.getElem?_cons_zero, ldV_some, slcV_slice, hz2, whl, who, if_true, hsp]
    exact ifI (Nat.le_refl _) one
end
end Go.Proofs

set_option linter.unusedVariables false
set_option maxRecDepth 20000
namespace Go.Proofs
open Go Go.HL

def jw (n : Int) : Value := .int .i64 n
def dv (d : Dg) : Value := .pointer (some ⟨d.blk, 0, none⟩)
theorem zeroF {P : Program} {t : TypeId} {z : Value} (h : (P.info? t).bind (·.zero) = some z) (w : World) : (zeroValue t).run P w = .ok z w := by
  cases hi : P.info? t with
  | none => rw [hi] at h; cases h
  | some i => rw [hi] at h; simp only [Option.bind_some] at h; simp [zeroValue, typeInfo, hi, h]
theorem zj : ∀ w : World, (zeroValue 3).run Try.prog w = .ok (.int .i64 0) w := zeroF (by kernel_rfl)
theorem zpt : ∀ w : World, (zeroValue 131).run Try.prog w = .ok (.pointer none) w := zeroF (by kernel_rfl)
theorem jw_get {k : ByteArray} {l : List (ByteArray × Int)} : ((getL k l).map jw).getD (.int .i64 0) = .int .i64 ((getL k l).getD 0) := by cases getL k l <;> rfl

/-- What a store has. -/
structure Stt where
  max : Int
  source : Int
  last : Int
  n : Int
  D : List (ByteArray × Dg)
  of : List (ByteArray × Int)

def stc (S : Stt) (m mo : Nat) : List Value := [.int .i64 S.max, .int .i64 S.source, .int .i64 S.last, .int .i64 S.n, .map (some m), .map (some mo)]
/-- A store in memory, beside what is known. -/
def StR (hp0 hp : HP) (q m mo : Nat) (S : Stt) : Prop :=
  HSub hp0 hp ∧ hp0 q = .none ∧ hp0 m = .none ∧ hp0 mo = .none ∧ m ≠ mo ∧ hp q = .cells 130 (stc S m mo) 0 ∧ MapE sw dv S.D (hp m) ∧ MapE sw jw S.of (hp mo) ∧
  (∀ kd ∈ S.D, DgR hp kd.2 ∧ hp0 kd.2.blk = .none ∧ hp0 kd.2.rblk = .none) ∧ (S.D.map (·.2.blk)).Nodup ∧ (S.D.map (·.2.rblk)).Nodup ∧ (S.D.map (·.1)).Nodup
/-- A step of a store, whatever is known beside it. -/
def Stp (q m mo : Nat) (hp : HP) (S : Stt) (hp' : HP) (S' : Stt) : Prop := ∀ hp0, StR hp0 hp q m mo S → StR hp0 hp' q m mo S'
theorem Stp.refl {q m mo : Nat} {hp : HP} {S : Stt} : Stp q m mo hp S hp S := fun _ h => h
theorem Stp.trans {q m mo : Nat} {a b c : HP} {A B C : Stt} (h : Stp q m mo a A b B) (k : Stp q m mo b B c C) : Stp q m mo a A c C := fun hp0 x => k hp0 (h hp0 x)

theorem mapE_obj {κ ν : Type} {ek : κ → Value} {ev : ν → Value} {l : List (κ × ν)} {e : Ent} (h : MapE ek ev l e) : ∃ o, e = .obj o := by
  obtain ⟨es, clock, he, _⟩ := h; exact ⟨_, he⟩
theorem DgR.ne {hp : HP} {d : Dg} {x : Nat} {e : Ent} (h : DgR hp d) (h1 : x ≠ d.blk) (h2 : x ≠ d.rblk) : DgR (hp.set x e) d := by
  obtain ⟨h0, c, g1, g2, g3⟩ := h
  exact ⟨h0, c, g1, by rw [HP.set_ne _ _ h1.symm]; exact g2, by rw [HP.set_ne _ _ h2.symm]; exact g3⟩
theorem DgR.ne_obj {hp : HP} {d : Dg} {x : Nat} {o : Obj} (h : DgR hp d) (hx : hp x = .obj o) : x ≠ d.blk ∧ x ≠ d.rblk := by
  obtain ⟨h0, c, g1, g2, g3⟩ := h
  exact ⟨fun e => (by rw [e, g2] at hx; cases hx), fun e => (by rw [e, g3] at hx; cases hx)⟩
theorem DgR.ne_st {hp : HP} {d : Dg} {x : Nat} {cs : List Value} (h : DgR hp d) (hx : hp x = .cells 130 cs 0) : x ≠ d.blk ∧ x ≠ d.rblk := by
  obtain ⟨h0, c, g1, g2, g3⟩ := h
  exact ⟨fun e => (by rw [e, g2] at hx; cases hx), fun e => (by rw [e, g3] at hx; cases hx)⟩

section
variable {hp0 hp : HP} {q m mo : Nat} {S : Stt} {K : Value → HP → Prop}

theorem StR.sub {hp' : HP} (h : StR hp0 hp q m mo S) (hs : HSub hp hp') : StR hp0 hp' q m mo S := by
  obtain ⟨h1, h2, h3, h4, h5, h6, h7, h8, h9, h10, h11, h12⟩ := h
  refine ⟨h1.trans hs, h2, h3, h4, h5, hs.cells h6, ?_, ?_, fun kd hk => ⟨(h9 kd hk).1.sub hs, (h9 kd hk).2⟩, h10, h11, h12⟩
  · obtain ⟨es, clock, he, r⟩ := h7; exact ⟨es, clock, hs.obj he, r⟩
  · obtain ⟨es, clock, he, r⟩ := h8; exact ⟨es, clock, hs.obj he, r⟩
theorem StR.cell (h : StR hp0 hp q m mo S) (o : Nat) : hp.cell q o = (stc S m mo)[o]? := HP.cell_of h.2.2.2.2.2.1
theorem StR.mapD (h : StR hp0 hp q m mo S) : MapE sw dv S.D (hp m) := h.2.2.2.2.2.2.1
theorem StR.mapOf (h : StR hp0 hp q m mo S) : MapE sw jw S.of (hp mo) := h.2.2.2.2.2.2.2.1
theorem StR.dg (h : StR hp0 hp q m mo S) {key : ByteArray} {d : Dg} (hg : getL key S.D = some d) : DgR hp d := (h.2.2.2.2.2.2.2.2.1 _ (getL_some_mem hg)).1

/-- The store's own cells. -/
theorem Stp.own {last n : Int} : Stp q m mo hp S (hp.set q (.cells 130 (stc { S with last := last, n := n } m mo) 0)) { S with last := last, n := n } := by
  rintro hp0 ⟨h1, h2, h3, h4, h5, h6, h7, h8, h9, h10, h11, h12⟩
  obtain ⟨o1, e1⟩ := (mapE_obj h7)
  obtain ⟨o2, e2⟩ := (mapE_obj h8)
  refine ⟨h1.up h2 _, h2, h3, h4, h5, HP.set_eq .., ?_, ?_, fun kd hk => ⟨(h9 kd hk).1.ne ((h9 kd hk).1.ne_st h6).1 ((h9 kd hk).1.ne_st h6).2, (h9 kd hk).2⟩, h10, h11, h12⟩
  · rw [HP.set_ne _ _ (fun e => by rw [e, h6] at e1; cases e1)]; exact h7
  · rw [HP.set_ne _ _ (fun e => by rw [e, h6] at e2; cases e2)]; exact h8
/-- How many of a source. -/
theorem Stp.ofs {of : List (ByteArray × Int)} {e : Ent} (he : MapE sw jw of e) : Stp q m mo hp S (hp.set mo e) { S with of := of } := by
  rintro hp0 ⟨h1, h2, h3, h4, h5, h6, h7, h8, h9, h10, h11, h12⟩
  obtain ⟨o2, e2⟩ := (mapE_obj h8)
  refine ⟨h1.up h4 _, h2, h3, h4, h5, ?_, ?_, by simp only; rw [HP.set_eq]; exact he, fun kd hk => ⟨(h9 kd hk).1.ne ((h9 kd hk).1.ne_obj e2).1 ((h9 kd hk).1.ne_obj e2).2, (h9 kd hk).2⟩, h10, h11, h12⟩
  · rw [HP.set_ne _ _ (fun e => by rw [e, e2] at h6; cases h6)]; exact h6
  · rw [HP.set_ne _ _ h5]; exact h7
/-- Fewer datagrams. -/
theorem Stp.fewer {D : List (ByteArray × Dg)} {e : Ent} (he : MapE sw dv D e) (hs : D.Sublist S.D) : Stp q m mo hp S (hp.set m e) { S with D := D } := by
  rintro hp0 ⟨h1, h2, h3, h4, h5, h6, h7, h8, h9, h10, h11, h12⟩
  obtain ⟨o1, e1⟩ := (mapE_obj h7)
  refine ⟨h1.up h3 _, h2, h3, h4, h5, ?_, by simp only; rw [HP.set_eq]; exact he, ?_, fun kd hk => ?_, (hs.map _).nodup h10, (hs.map _).nodup h11, (hs.map _).nodup h12⟩
  · rw [HP.set_ne _ _ (fun e => by rw [e, e1] at h6; cases h6)]; exact h6
  · rw [HP.set_ne _ _ h5.symm]; exact h8
  · have hk' := hs.subset hk
    exact ⟨(h9 kd hk').1.ne ((h9 kd hk').1.ne_obj e1).1 ((h9 kd hk').1.ne_obj e1).2, (h9 kd hk').2⟩

theorem del_sub {κ ν : Type} [DecidableEq κ] (k : κ) : ∀ l : List (κ × ν), (delL k l).Sublist l
  | [] => .slnil
  | p :: l => by
    unfold delL
    split
    · exact List.sublist_cons_self _ _
    · exact (del_sub k l).cons_cons _

/-- What is left of the sources' numbers, and of the pieces', when a datagram goes. -/
def cutOf : List Pc → List (ByteArray × Int) → List (ByteArray × Int)
  | [], of => of
  | p :: l, of => cutOf l (if IntKind.wrap .i64 ((getL p.src of).getD 0 - 1) = 0 then delL p.src (putL p.src (IntKind.wrap .i64 ((getL p.src of).getD 0 - 1)) of) else putL p.src (IntKind.wrap .i64 ((getL p.src of).getD 0 - 1)) of)
def cutN : Nat → Int → Int
  | 0, n => n
  | k + 1, n => cutN k (IntKind.wrap .i64 (n - 1))

theorem C79 {key : ByteArray} {d : Dg} (h : StR hp0 hp q m mo S) (hg : getL key S.D = some d) (hn : d.l.length ≤ 1000000)
    (hK : ∀ hp', Stp q m mo hp S hp' { S with n := cutN d.l.length S.n, D := delL key S.D, of := cutOf d.l S.of } → K (.tuple ⟨[]⟩) hp') :
    CF Try.prog 79 [ptr q 0, .string key] hp K := by
  refine F79_ok _ key hp K ?_
  unfold F79
  have c4 : ∀ S : Stt, (stc S m mo)[4]? = some (.map (some m)) := fun _ => rfl
  have c5 : ∀ S : Stt, (stc S m mo)[5]? = some (.map (some mo)) := fun _ => rfl
  have c3 : ∀ S : Stt, (stc S m mo)[3]? = some (.int .i64 S.n) := fun _ => rfl
  simp only [ptrN_some, h.cell, Nat.zero_add, c4, ldV_some, mapV_map]
  refine rdS_lookup u128 enc9 zpt h.mapD key ?_
  simp only [Bool.false_eq_true, if_false, hg, Option.map_some, Option.getD_some, dv, ptrV_pointer, ptrN_some, Nat.zero_add]
  obtain ⟨h0, c, h1, h2, h3⟩ := h.dg hg
  have hc : ∀ o, hp.cell d.blk o = [Value.int .i64 d.id, .int .i64 d.due, .int .i64 d.fin, .slice (some ⟨d.rblk, 0, none⟩) d.l.length c][o]? := fun o => HP.cell_of h2
  simp only [hc, List.getElem?_cons_succ, List.getElem?_cons_zero, ldV_some, slcV_slice]
  unfold F79_j2
  refine LoopP.by (J := fun k (y : Int) hp' => ∃ (i : Nat) (n' : Int) (of' : List (ByteArray × Int)), y = i ∧ i + k = d.l.length ∧ Stp q m mo hp S hp' { S with n := n', of := of' } ∧ cutN d.l.length S.n = cutN (d.l.length - i) n' ∧ cutOf d.l S.of = cutOf (d.l.drop i) of') ?_ (n := d.l.length)
    ⟨0, S.n, S.of, rfl, by omega, Stp.refl, rfl, rfl⟩
  rintro I k y hp' ⟨i, n', of', rfl, hik, hS, hcn, hco⟩ hI
  have h' := hS hp0 h
  unfold F79_l3
  by_cases hi : i < d.l.length
  · rw [decide_eq_true (by omega : (i : Int) < (d.l.length : Int)), ite2_true]
    obtain ⟨_, c', h1', h2', h3'⟩ := StR.dg h' hg
    have sh : Shows hp' (some ⟨d.rblk, 0, none⟩) d.l.length 6 (d.l.flatMap pc) := .inr ⟨d.rblk, 0, rfl, by rw [HP.cellN_of h3']; exact cellsN_all (by rw [flat_len pc_len])⟩
    obtain ⟨b, o, hao, hgp⟩ := sh.get pc_len rfl hi
    have hz : splice [(Value.string ⟨#[]⟩), (Value.string ⟨#[]⟩), (Value.int .i64 0), (Value.bool false), (Value.string ⟨#[]⟩), (Value.string ⟨#[]⟩)] 0 (pc d.l[i]) = pc d.l[i] := splice_all rfl
    have k1 : (pc d.l[i])[1]? = some (.string d.l[i].src) := rfl
    cases hao
    rw [Nat.zero_add] at hgp
    simp only [ptrN_some, Int.toNat_natCast, hgp, ldL_some, pc_len, pc_one, if_true, hz, h'.cell, Nat.zero_add, c3, ldV_some, intV_int]
    refine ⟨by omega, by omega, ?_⟩
    refine ifI (Nat.le_refl _) ?_
    refine HP.st_at h'.2.2.2.2.2.1 (by simp [stc]) ?_
    have e1 : (stc { S with n := n', of := of' } m mo).set 3 (.int .i64 (IntKind.wrap .i64 (n' - 1))) = stc { S with last := S.last, n := IntKind.wrap .i64 (n' - 1), of := of' } m mo := rfl
    rw [e1]
    have s1 := hS.trans (Stp.own (last := S.last) (n := IntKind.wrap .i64 (n' - 1)))
    have g1 := s1 hp0 h
    generalize hp'.set q (.cells 130 (stc { S with last := S.last, n := IntKind.wrap .i64 (n' - 1), of := of' } m mo) 0) = hp2 at s1 g1 ⊢
    simp only [g1.cell, c5, ldV_some, mapV_map, k1, strV_string]
    refine rdS_lookup u97 enc9 zj g1.mapOf d.l[i].src ?_
    simp only [Bool.false_eq_true, if_false, jw_get, intV_int]
    refine opS_mapUpdate u97 enc9 (ev := jw) g1.mapOf d.l[i].src (IntKind.wrap .i64 ((getL d.l[i].src of').getD 0 - 1)) ?_
    intro e he
    have s2 := s1.trans (Stp.ofs he)
    have g2 := s2 hp0 h
    generalize hp2.set mo e = hp3 at s2 g2 ⊢
    simp only [g2.cell, c5, ldV_some, mapV_map, k1, strV_string]
    refine rdS_lookup u97 enc9 zj g2.mapOf d.l[i].src ?_
    have w1 : IntKind.wrap .i64 ((i : Int) + 1) = ((i + 1 : Nat) : Int) := wiN (by omega) (by omega)
    simp only [Bool.false_eq_true, if_false, jw_get, intV_int, getL_put, if_true, Option.getD_some, Option.map_some, jw]
    have hcn2 : cutN d.l.length S.n = cutN (d.l.length - (i + 1)) (IntKind.wrap .i64 (n' - 1)) := by
      rw [hcn]
      have : d.l.length - i = (d.l.length - (i + 1)) + 1 := by omega
      rw [this]; rfl
    rw [List.drop_eq_getElem_cons hi, cutOf] at hco
    by_cases hv : IntKind.wrap .i64 ((getL d.l[i].src of').getD 0 - 1) = 0
    · have e : (IntKind.wrap .i64 ((getL d.l[i].src of').getD 0 - 1) == 0) = true := by simpa using hv
      rw [e, ite2_true]
      rw [if_pos hv] at hco
      refine opS_delete u97 enc9 g2.mapOf d.l[i].src ?_
      intro e' he'
      have s3 := s2.trans (Stp.ofs he')
      unfold F79_j4
      rw [w1]
      exact hI (k - 1) _ _ (by omega) ⟨i + 1, _, _, rfl, by omega, s3, hcn2, hco⟩
    · have e : (IntKind.wrap .i64 ((getL d.l[i].src of').getD 0 - 1) == 0) = false := by simpa using hv
      rw [e, ite2_false]
      rw [if_neg hv] at hco
      unfold F79_j4
      rw [w1]
      exact hI (k - 1) _ _ (by omega) ⟨i + 1, _, _, rfl, by omega, s2, hcn2, hco⟩
  · rw [decide_eq_false (by omega : ¬ (i : Int) < (d.l.length : Int)), ite2_false]
    have hie : i = d.l.length := by omega
    subst hie
    rw [Nat.sub_self, cutN] at hcn
    rw [List.drop_of_length_le (Nat.le_refl _), cutOf] at hco
    unfold F79_j1
    simp only [ptrN_some, h'.cell, Nat.zero_add, c4, ldV_some, mapV_map]
    refine opS_delete u128 enc9 h'.mapD key ?_
    intro e he
    refine hK _ ?_
    rw [hcn, hco]
    exact hS.trans (Stp.fewer he (del_sub key _))
end
end Go.Proofs

set_option linter.unusedVariables false
set_option maxRecDepth 20000
namespace Go.Proofs
open Go Go.HL

theorem map_inj_of_nodup {α β : Type} {f : α → β} : ∀ {l : List α} {x y : α}, (l.map f).Nodup → x ∈ l → y ∈ l → f x = f y → x = y
  | a :: l, x, y, hn, hx, hy, e => by
    rw [List.map_cons, List.nodup_cons] at hn
    rcases List.mem_cons.1 hx with h1 | h1
    · rcases List.mem_cons.1 hy with h2 | h2
      · rw [h1, h2]
      · exact absurd (List.mem_map.2 ⟨y, h2, by rw [← e, h1]⟩) hn.1
    · rcases List.mem_cons.1 hy with h2 | h2
      · exact absurd (List.mem_map.2 ⟨x, h1, by rw [e, h2]⟩) hn.1
      · exact map_inj_of_nodup hn.2 h1 h2 e

section
variable {κ ν : Type} [DecidableEq κ]
theorem mem_put {k : κ} {v : ν} : ∀ {l : List (κ × ν)} {x : κ × ν}, (l.map (·.1)).Nodup → x ∈ putL k v l → x = (k, v) ∨ (x ∈ l ∧ x.1 ≠ k)
  | [], x, _, h => by simp only [putL, List.mem_singleton] at h; exact .inl h
  | p :: l, x, hn, h => by
    rw [List.map_cons, List.nodup_cons] at hn
    by_cases hk : k = p.1
    · simp only [putL, hk, if_true, List.mem_cons] at h
      rcases h with h | h
      · exact .inl (by rw [h, hk])
      · exact .inr ⟨by simp [h], fun e => hn.1 (by rw [← hk, ← e]; exact List.mem_map.2 ⟨x, h, rfl⟩)⟩
    · simp only [putL, hk, if_false, List.mem_cons] at h
      rcases h with h | h
      · exact .inr ⟨by simp [h], by rw [h]; exact fun e => hk e.symm⟩
      · rcases mem_put hn.2 h with h | ⟨h, h'⟩
        · exact .inl h
        · exact .inr ⟨by simp [h], h'⟩
theorem nodup_put_map {β : Type} {f : ν → β} {k : κ} {v : ν} : ∀ {l : List (κ × ν)}, (l.map (·.1)).Nodup → (l.map (fun x => f x.2)).Nodup → (∀ x ∈ l, x.1 ≠ k → f x.2 ≠ f v) → ((putL k v l).map (fun x => f x.2)).Nodup
  | [], _, _, _ => by simp [putL]
  | p :: l, hk, hf, h => by
    rw [List.map_cons, List.nodup_cons] at hk hf
    by_cases hkp : k = p.1
    · simp only [putL, hkp, if_true, List.map_cons, List.nodup_cons]
      refine ⟨fun hm => ?_, hf.2⟩
      obtain ⟨x, hx, e⟩ := List.mem_map.1 hm
      exact h x (by simp [hx]) (fun e' => hk.1 (by rw [← hkp, ← e']; exact List.mem_map.2 ⟨x, hx, rfl⟩)) e
    · simp only [putL, hkp, if_false, List.map_cons, List.nodup_cons]
      refine ⟨fun hm => ?_, nodup_put_map hk.2 hf.2 fun x hx => h x (by simp [hx])⟩
      obtain ⟨x, hx, e⟩ := List.mem_map.1 hm
      rcases mem_put hk.2 hx with rfl | ⟨hx, _⟩
      · exact h p (by simp) (fun e' => hkp e'.symm) e.symm
      · exact hf.1 (by rw [← e]; exact List.mem_map.2 ⟨x, hx, rfl⟩)
theorem put_same_map {β : Type} {f : κ × ν → β} {k : κ} {v u : ν} : ∀ {l : List (κ × ν)}, getL k l = some u → f (k, v) = f (k, u) → (putL k v l).map f = l.map f
  | [], h, _ => by cases h
  | p :: l, h, e => by
    simp only [getL] at h
    by_cases hk : k = p.1
    · simp only [hk, if_true, Option.some.injEq] at h
      simp only [putL, hk, if_true, List.map_cons]
      have hp : p = (k, u) := Prod.ext hk.symm h
      rw [hp] at *
      simp only [e]
    · simp only [hk, if_false] at h
      simp only [putL, hk, if_false, List.map_cons, put_same_map h e]
end
theorem mapE_same {κ ν : Type} {ek : κ → Value} {ev : ν → Value} {l l' : List (κ × ν)} {e : Ent} (h : MapE ek ev l e) (hl : l'.map (fun p => (ek p.1, ev p.2)) = l.map (fun p => (ek p.1, ev p.2))) : MapE ek ev l' e := by
  obtain ⟨es, clock, h1, h2, h3, h4⟩ := h
  exact ⟨es, clock, h1, h2.trans hl.symm, h3, h4⟩

section
variable {hp0 hp : HP} {q m mo : Nat} {S : Stt} {K : Value → HP → Prop} {p : Pc}

/-- The store, but for one datagram, of which only where it is is known. -/
def Pre (hp0 hp : HP) (q m mo : Nat) (S : Stt) (key : ByteArray) (blk : Nat) (s : Option Addr) : Prop :=
  HSub hp0 hp ∧ hp0 q = .none ∧ hp0 m = .none ∧ hp0 mo = .none ∧ m ≠ mo ∧ hp q = .cells 130 (stc S m mo) 0 ∧ MapE sw jw S.of (hp mo) ∧
  (∀ d : Dg, d.blk = blk → MapE sw dv (putL key d S.D) (hp m)) ∧ hp0 blk = .none ∧ (∀ b, s = some ⟨b, 0, none⟩ → hp0 b = .none) ∧
  (∀ kd ∈ S.D, kd.1 ≠ key → DgR hp kd.2 ∧ hp0 kd.2.blk = .none ∧ hp0 kd.2.rblk = .none ∧ kd.2.blk ≠ blk ∧ ∀ b, s = some ⟨b, 0, none⟩ → kd.2.rblk ≠ b) ∧
  (S.D.map (·.2.blk)).Nodup ∧ (S.D.map (·.2.rblk)).Nodup ∧ (S.D.map (·.1)).Nodup

/-- What stays. -/
def Fr2 (hp hp' : HP) (blk rb : Nat) (s : Option Addr) : Prop := ∀ h0 : HP, HSub h0 hp → h0 blk = .none → (∀ b, s = some ⟨b, 0, none⟩ → h0 b = .none) → HSub h0 hp' ∧ h0 rb = .none

theorem Pre.done {hp' : HP} {key : ByteArray} {d' : Dg} {s : Option Addr} (h : Pre hp0 hp q m mo S key d'.blk s) (hb : ∃ cs, hp d'.blk = .cells 135 cs 0) (hs : ∀ b, s = some ⟨b, 0, none⟩ → ∃ cs sp, hp b = .cells 29 cs sp) (hf : Fr2 hp hp' d'.blk d'.rblk s) (hd : DgR hp' d') : StR hp0 hp' q m mo { S with D := putL key d' S.D } := by
  obtain ⟨h1, h2, h3, h4, h5, h6, h7, h8, h9, h10, h11, h12, h13, h14⟩ := h
  obtain ⟨cs, hb⟩ := hb
  have hM := h8 d' rfl
  obtain ⟨o1, e1⟩ := (mapE_obj hM)
  obtain ⟨o2, e2⟩ := (mapE_obj h7)
  obtain ⟨f1, f2⟩ := hf hp0 h1 h9 h10
  -- one block that is neither
  have keep : ∀ x e, hp x = e → e ≠ .none → x ≠ d'.blk → (∀ b, s = some ⟨b, 0, none⟩ → x ≠ b) → hp' x = e ∧ x ≠ d'.rblk := by
    intro x e hx he hxb hxs
    obtain ⟨g1, g2⟩ := hf (HP.onlyF x e) (HSub.onlyF hx) (HP.onlyF_ne _ hxb.symm) (fun b e' => HP.onlyF_ne _ (hxs b e').symm)
    refine ⟨g1.some (HP.onlyF_eq ..) he, fun e' => ?_⟩
    rw [← e', HP.onlyF_eq] at g2
    exact he g2
  have kq := keep q _ h6 (by simp) (fun e => by rw [e, hb] at h6; cases h6) (fun b e e' => by obtain ⟨c, sp, hc⟩ := hs b e; rw [e', hc] at h6; cases h6)
  have km := keep m _ e1 (by simp) (fun e => by rw [e, hb] at e1; cases e1) (fun b e e' => by obtain ⟨c, sp, hc⟩ := hs b e; rw [e', hc] at e1; cases e1)
  have kmo := keep mo _ e2 (by simp) (fun e => by rw [e, hb] at e2; cases e2) (fun b e e' => by obtain ⟨c, sp, hc⟩ := hs b e; rw [e', hc] at e2; cases e2)
  have ko : ∀ kd ∈ S.D, kd.1 ≠ key → DgR hp' kd.2 ∧ kd.2.rblk ≠ d'.rblk := by
    intro kd hkd hne
    obtain ⟨⟨g0, c, g1, g2, g3⟩, _, _, g4, g5⟩ := h11 kd hkd hne
    have kb := keep kd.2.blk _ g2 (by simp) g4 (fun b e e' => by obtain ⟨c, sp, hc⟩ := hs b e; rw [e', hc] at g2; cases g2)
    have kr := keep kd.2.rblk _ g3 (by simp) (fun e => by rw [e, hb] at g3; cases g3) (fun b e => g5 b e)
    exact ⟨⟨g0, c, g1, kb.1, kr.1⟩, kr.2⟩
  refine ⟨f1, h2, h3, h4, h5, kq.1, ?_, ?_, fun kd hkd => ?_, nodup_put_map (f := fun d : Dg => d.blk) h14 h12 fun x hx hne => (h11 x hx hne).2.2.2.1, nodup_put_map (f := fun d : Dg => d.rblk) h14 h13 fun x hx hne => (ko x hx hne).2, nodup_put h14⟩
  · simp only; rw [km.1, ← e1]; exact hM
  · simp only; rw [kmo.1, ← e2]; exact h7
  · rcases mem_put h14 hkd with rfl | ⟨hkd, hne⟩
    · exact ⟨hd, h9, f2⟩
    · obtain ⟨_, a, b, _, _⟩ := h11 kd hkd hne
      exact ⟨(ko kd hkd hne).1, a, b⟩

/-- The piece is put behind the others, and its end is known, if it is the last. -/
theorem J80 {blk : Nat} {id due fin : Int} {s : Option Addr} {n c : Nat} {l : List Pc} (hb : hp blk = .cells 135 [.int .i64 id, .int .i64 due, .int .i64 fin, .slice s n c] 0) (hr : Row hp s n c 29 6 (l.flatMap pc)) (hl : l.length = n) (hn : n ≤ 1000000)
    (hK : ∀ hp' rb, DgR hp' ⟨blk, rb, id, due, if p.more then fin else p.toW, l ++ [p]⟩ → Fr2 hp hp' blk rb s → F80_j3 (some ⟨q, 0, none⟩) (pc p) hp' K) :
    F80_j1 (some ⟨q, 0, none⟩) (some ⟨blk, 0, none⟩) (pc p) hp K := by
  have hc : ∀ hp', HSub hp hp' → ∀ o, hp'.cell blk o = [Value.int .i64 id, .int .i64 due, .int .i64 fin, .slice s n c][o]? := fun hp' hs o => HP.cell_of (hs.cells hb)
  have hz : splice [(Value.string ⟨#[]⟩), (Value.string ⟨#[]⟩), (Value.int .i64 0), (Value.bool false), (Value.string ⟨#[]⟩), (Value.string ⟨#[]⟩)] 0 (pc p) = pc p := splice_all rfl
  -- behind the append
  have tail : ∀ b, hp b = .none → opS Try.prog (Builtin.append_ #[26, 26] 26 ⟨[.slice s n c, .slice (some ⟨b, 0, none⟩) 1 1]⟩) (hp.set b (.cells 29 (pc p) 0)) fun u h => slcV u fun a n c => HP.st h blk 3 (.slice a n c) fun h => F80_j2 (some ⟨q, 0, none⟩) (some ⟨blk, 0, none⟩) (pc p) h K := by
    intro b hbn
    have sb := HSub.set_fresh hp (.cells 29 (pc p) 0) hbn
    refine opS_appF (e := 29) (size := 6) (bytes := 80) (by kernel_rfl) (hr.sub sb) (.inr ⟨b, 0, rfl, by rw [HP.cellN_of (HP.set_eq ..)]; exact cellsN_all rfl⟩) (pc_one p) (by omega) (by omega) ?_
    intro s3 c3 hp3 hrow hf
    rw [slcV_slice]
    rcases hrow with ⟨_, h0, _, _⟩ | ⟨rb, rfl, hnc, _, hrb⟩
    · omega
    have hb3 : hp3 blk = .cells 135 [.int .i64 id, .int .i64 due, .int .i64 fin, .slice s n c] 0 := by
      have := (hf (HP.onlyF blk (.cells 135 [.int .i64 id, .int .i64 due, .int .i64 fin, .slice s n c] 0)) (HSub.onlyF (sb.cells hb)) (fun b' e => by
        refine HP.onlyF_ne _ fun e' => ?_
        rcases hr with ⟨h0, _, _, _⟩ | ⟨b2, h0, _, _, h3⟩
        · rw [h0] at e; cases e
        · rw [h0] at e; cases e; rw [e', hb] at h3; cases h3)).1
      exact this.cells (HP.onlyF_eq ..)
    have hne : rb ≠ blk := fun e => by rw [e, hb3] at hrb; cases hrb
    have fr : ∀ v, Fr2 hp (hp3.set blk v) blk rb s := fun v h0 g1 g2 g3 => by
      obtain ⟨k1, k2⟩ := hf h0 (g1.trans sb) g3
      exact ⟨k1.up g2 _, k2 rb rfl⟩
    refine HP.st_at hb3 (by simp) ?_
    have hfl : l.flatMap pc ++ pc p = (l ++ [p]).flatMap pc := by simp
    rw [hfl] at hrb
    have dg : ∀ fin' : Int, DgR (hp3.set blk (.cells 135 [.int .i64 id, .int .i64 due, .int .i64 fin', .slice (some ⟨rb, 0, none⟩) (n + 1) c3] 0)) ⟨blk, rb, id, due, fin', l ++ [p]⟩ := fun fin' => by
      refine ⟨by simp, c3, by simp [hl]; exact hnc, ?_, ?_⟩
      · simp only; rw [HP.set_eq]; simp [hl]
      · simp only; rw [HP.set_ne _ _ hne, hrb]; simp [hl]
    unfold F80_j2
    have k3 : (pc p)[3]? = some (.bool p.more) := rfl
    simp only [k3, ldV_some, boolV_bool]
    cases hm : p.more
    · rw [Bool.not_false, ite2_true, cellsN_all (pc_len p), ldL_some]
      refine C122 ?_
      rw [intV_int, ptrN_some]
      refine HP.st_at (HP.set_eq ..) (by simp) ?_
      rw [HP.set_set]
      have := hK _ rb (by rw [hm]; exact dg p.toW) (fr _)
      exact this
    · rw [Bool.not_true, ite2_false]
      exact hK _ rb (by rw [hm]; exact dg fin) (fr _)
  unfold F80_j1
  refine ⟨?_, ?_⟩
  · simp only [ptrN_some, hc hp (HSub.refl _), Nat.zero_add, List.getElem?_cons_succ, List.getElem?_cons_zero, ldV_some, slcV_slice, cellsN_all (pc_len p), ldL_some, hz]
    refine ifI (pc_len p) ?_
    exact tail
  · simp only [ptrN_some, cellsN_all (pc_len p), ldL_some, hz]
    refine ifI (pc_len p) ?_
    intro b hbn
    simp only [hc _ (HSub.set_fresh hp (.cells 29 (pc p) 0) hbn), Nat.zero_add, List.getElem?_cons_succ, List.getElem?_cons_zero, ldV_some, slcV_slice]
    exact tail b hbn

/-- What the store has behind a piece. -/
def takeS (S : Stt) (p : Pc) (last : Int) (d' : Dg) : Stt :=
  { S with last := last, n := IntKind.wrap .i64 (S.n + 1), D := putL p.key d' S.D, of := putL p.src (IntKind.wrap .i64 ((getL p.src S.of).getD 0 + 1)) S.of }

theorem J80c {hp' : HP} (h : StR hp0 hp' q m mo S) (hK : ∀ hp2, Stp q m mo hp' S hp2 { S with n := IntKind.wrap .i64 (S.n + 1), of := putL p.src (IntKind.wrap .i64 ((getL p.src S.of).getD 0 + 1)) S.of } → K (.tuple ⟨[]⟩) hp2) : F80_j3 (some ⟨q, 0, none⟩) (pc p) hp' K := by
  unfold F80_j3
  have c5 : ∀ S : Stt, (stc S m mo)[5]? = some (.map (some mo)) := fun _ => rfl
  have c3 : ∀ S : Stt, (stc S m mo)[3]? = some (.int .i64 S.n) := fun _ => rfl
  have k1 : (pc p)[1]? = some (.string p.src) := rfl
  simp only [ptrN_some, h.cell, Nat.zero_add, c3, ldV_some, intV_int]
  refine HP.st_at h.2.2.2.2.2.1 (by simp [stc]) ?_
  have e1 : (stc S m mo).set 3 (.int .i64 (IntKind.wrap .i64 (S.n + 1))) = stc { S with last := S.last, n := IntKind.wrap .i64 (S.n + 1) } m mo := rfl
  rw [e1]
  have s1 : Stp q m mo hp' S _ _ := Stp.own (last := S.last) (n := IntKind.wrap .i64 (S.n + 1))
  have g1 := s1 hp0 h
  generalize hp'.set q (.cells 130 (stc { S with last := S.last, n := IntKind.wrap .i64 (S.n + 1) } m mo) 0) = hp2 at s1 g1 ⊢
  simp only [g1.cell, c5, ldV_some, mapV_map, k1, strV_string]
  refine rdS_lookup u97 enc9 zj g1.mapOf p.src ?_
  simp only [Bool.false_eq_true, if_false, jw_get, intV_int]
  refine opS_mapUpdate u97 enc9 (ev := jw) g1.mapOf p.src (IntKind.wrap .i64 ((getL p.src S.of).getD 0 + 1)) ?_
  intro e he
  exact hK _ (s1.trans (Stp.ofs he))
theorem put_map_congr {κ ν β : Type} [DecidableEq κ] {f : κ × ν → β} {k : κ} {v u : ν} (e : f (k, v) = f (k, u)) : ∀ l : List (κ × ν), (putL k v l).map f = (putL k u l).map f
  | [] => by simp only [putL, List.map_cons, List.map_nil, e]
  | p :: l => by
    by_cases hk : k = p.1
    · subst hk; simp only [putL, if_true, List.map_cons, e]
    · simp only [putL, hk, if_false, List.map_cons, put_map_congr e l]

/-- What becomes of a piece's datagram. -/
def Took (S : Stt) (p : Pc) (due last' : Int) (d' : Dg) : Prop :=
  (getL p.key S.D = none ∧ last' = IntKind.wrap .i64 (S.last + 1) ∧ d'.id = last' ∧ d'.due = due ∧ d'.fin = (if p.more then -1 else p.toW) ∧ d'.l = [p]) ∨
  ∃ d, getL p.key S.D = some d ∧ last' = S.last ∧ d'.id = d.id ∧ d'.due = d.due ∧ d'.fin = (if p.more then d.fin else p.toW) ∧ d'.l = d.l ++ [p]

theorem C80 {due : Int} (h : StR hp0 hp q m mo S) (hlen : ∀ d, getL p.key S.D = some d → d.l.length ≤ 100000)
    (hK : ∀ hp' d' last', Took S p due last' d' → Stp q m mo hp S hp' (takeS S p last' d') → K (.tuple ⟨[]⟩) hp') : CF Try.prog 80 [ptr q 0, .agg ⟨pc p⟩, .int .i64 due] hp K := by
  refine F80_ok _ (pc p) due hp K ?_
  unfold F80
  have c4 : ∀ S : Stt, (stc S m mo)[4]? = some (.map (some m)) := fun _ => rfl
  have c2 : ∀ S : Stt, (stc S m mo)[2]? = some (.int .i64 S.last) := fun _ => rfl
  have k0 : (pc p)[0]? = some (.string p.key) := rfl
  simp only [ptrN_some, h.cell, Nat.zero_add, c4, k0, ldV_some, mapV_map, strV_string]
  refine rdS_lookup u128 enc9 zpt h.mapD p.key ?_
  simp only [if_true, tup2V_mk, boolV_bool]
  cases hg : getL p.key S.D with
  | none =>
    simp only [Option.map_none, Option.getD_none, Option.isSome_none, ptrV_pointer, boolV_bool, Bool.not_false, ite2_true, ptrN_some, h.cell, Nat.zero_add, c2, ldV_some, intV_int]
    refine HP.st_at h.2.2.2.2.2.1 (by simp [stc]) ?_
    have e1 : (stc S m mo).set 2 (.int .i64 (IntKind.wrap .i64 (S.last + 1))) = stc { S with last := IntKind.wrap .i64 (S.last + 1), n := S.n } m mo := rfl
    rw [e1]
    have s1 : Stp q m mo hp S _ _ := Stp.own (last := IntKind.wrap .i64 (S.last + 1)) (n := S.n)
    have g1 := s1 hp0 h
    generalize hp.set q (.cells 130 (stc { S with last := IntKind.wrap .i64 (S.last + 1), n := S.n } m mo) 0) = hp1 at s1 g1 ⊢
    simp only [ptrN_some, g1.cell, c2, ldV_some, intV_int]
    intro b hb
    have sb := HSub.set_fresh hp1 (.cells 135 [.int .i64 (IntKind.wrap .i64 (S.last + 1)), .int .i64 due, .int .i64 (-1), .slice none 0 0] 0) hb
    have g2 := g1.sub sb
    simp only [ptrN_some, g2.cell, c4, ldV_some, mapV_map, k0, strV_string]
    refine opS_mapUpdate u128 enc9 (ev := dv) g2.mapD p.key ⟨b, b, 0, 0, 0, []⟩ ?_
    intro e he
    obtain ⟨o1, ho1⟩ := (mapE_obj g1.mapD)
    have hbm : b ≠ m := fun e' => by rw [e', ho1] at hb; cases hb
    have hb3 : ((hp1.set b (.cells 135 [.int .i64 (IntKind.wrap .i64 (S.last + 1)), .int .i64 due, .int .i64 (-1), .slice none 0 0] 0)).set m e) b = .cells 135 [.int .i64 (IntKind.wrap .i64 (S.last + 1)), .int .i64 due, .int .i64 (-1), .slice none 0 0] 0 := by
      rw [HP.set_ne _ _ hbm, HP.set_eq]
    refine J80 hb3 (l := []) (.inl ⟨rfl, rfl, rfl, rfl⟩) rfl (by omega) ?_
    intro hp4 rb hd4 hf4
    have st : ∀ hp0', StR hp0' hp q m mo S → StR hp0' hp4 q m mo { S with last := IntKind.wrap .i64 (S.last + 1), n := S.n, D := putL p.key ⟨b, rb, IntKind.wrap .i64 (S.last + 1), due, if p.more then -1 else p.toW, [] ++ [p]⟩ S.D } := by
      intro hp0' x
      have x1 := s1 hp0' x
      have x2 := x1.sub sb
      obtain ⟨a1, a2, a3, a4, a5, a6, a7, a8, a9, a10, a11, a12⟩ := x2
      have hb0 : hp0' b = .none := x1.1.none hb
      obtain ⟨oo, ho⟩ := (mapE_obj a8)
      refine Pre.done (s := none) ⟨a1.up a3 e, a2, a3, a4, a5, ?_, ?_, ?_, hb0, (fun b e => by cases e), ?_, a10, a11, a12⟩ ⟨_, hb3⟩ (fun b e => by cases e) hf4 hd4
      · rw [HP.set_ne _ _ (fun e' => by rw [e'] at a6; obtain ⟨o, ho⟩ := (mapE_obj a7); rw [ho] at a6; cases a6)]; exact a6
      · rw [HP.set_ne _ _ a5.symm]; exact a8
      · intro d hdb
        rw [HP.set_eq]
        exact mapE_same he (put_map_congr (by simp only [dv, hdb]) _)
      · intro kd hkd _
        obtain ⟨o, ho⟩ := (mapE_obj a7)
        obtain ⟨y1, y2, y3⟩ := a9 kd hkd
        refine ⟨y1.ne (y1.ne_obj ho).1 (y1.ne_obj ho).2, y2, y3, fun e' => ?_, fun b e => by cases e⟩
        obtain ⟨_, _, _, z, _⟩ := (x1.2.2.2.2.2.2.2.2.1 kd hkd).1
        rw [e', hb] at z; cases z
    have g4 := st hp0 h
    refine J80c g4 fun hp5 s5 => ?_
    exact hK hp5 ⟨b, rb, IntKind.wrap .i64 (S.last + 1), due, if p.more then -1 else p.toW, [p]⟩ (IntKind.wrap .i64 (S.last + 1)) (.inl ⟨hg, rfl, rfl, rfl, rfl, rfl⟩) fun hp0' x => s5 hp0' (st hp0' x)
  | some d =>
    simp only [Option.map_some, Option.getD_some, Option.isSome_some, dv, ptrV_pointer, boolV_bool, Bool.not_true, ite2_false]
    obtain ⟨h0, c, h1, h2, h3⟩ := h.dg hg
    have hr : Row hp (some ⟨d.rblk, 0, none⟩) d.l.length c 29 6 (d.l.flatMap pc) := .inr ⟨d.rblk, rfl, h1, flat_len pc_len _, h3⟩
    refine J80 h2 hr rfl (by have := hlen d hg; omega) ?_
    intro hp4 rb hd4 hf4
    have st : ∀ hp0', StR hp0' hp q m mo S → StR hp0' hp4 q m mo { S with D := putL p.key ⟨d.blk, rb, d.id, d.due, if p.more then d.fin else p.toW, d.l ++ [p]⟩ S.D } := by
      rintro hp0' ⟨a1, a2, a3, a4, a5, a6, a7, a8, a9, a10, a11, a12⟩
      obtain ⟨y1, y2, y3⟩ := a9 _ (getL_some_mem hg)
      refine Pre.done (s := some ⟨d.rblk, 0, none⟩) ⟨a1, a2, a3, a4, a5, a6, a8, ?_, y2, (fun b e => by cases e; exact y3), ?_, a10, a11, a12⟩ ⟨_, h2⟩ (fun b e => by cases e; exact ⟨_, _, h3⟩) hf4 hd4
      · intro d2 hdb
        exact mapE_same a7 (put_same_map hg (by simp only [dv, hdb]))
      · intro kd hkd hne
        obtain ⟨z1, z2, z3⟩ := a9 kd hkd
        refine ⟨z1, z2, z3, fun e => hne ?_, fun b e e' => hne ?_⟩
        · have := map_inj_of_nodup (f := fun x : ByteArray × Dg => x.2.blk) a10 hkd (getL_some_mem hg) e
          rw [this]
        · cases e
          have := map_inj_of_nodup (f := fun x : ByteArray × Dg => x.2.rblk) a11 hkd (getL_some_mem hg) e'
          rw [this]
    have g4 := st hp0 h
    refine J80c g4 fun hp5 s5 => ?_
    exact hK hp5 ⟨d.blk, rb, d.id, d.due, if p.more then d.fin else p.toW, d.l ++ [p]⟩ S.last (.inr ⟨d, hg, rfl, rfl, rfl, rfl, rfl⟩) fun hp0' x => s5 hp0' (st hp0' x)
end
end Go.Proofs

set_option linter.unusedVariables false
set_option maxRecDepth 20000
namespace Go.Proofs
open Go Go.HL

def zeroW : List Value := wh e0s e0s e0s 0
def cutS (S : Stt) (key : ByteArray) (d : Dg) : Stt := { S with n := cutN d.l.length S.n, D := delL key S.D, of := cutOf d.l S.of }
def setS (S : Stt) (key : ByteArray) (d : Dg) : Stt := { S with D := putL key d S.D }
def okDue (due : Int) : Prop := 0 ≤ due ∧ due ≤ 4611686018427387904
/-- There is room for it in its datagram, or it begins one. -/
def Room (S : Stt) (p : Pc) : Prop := match getL p.key S.D with
  | none => ¬ (p.at_ = 0 ∧ p.more = false)
  | some d => d.l.any (sameP p) = false ∧ fitsQ d.fin d.l p = true

/-- What comes of a piece. -/
inductive PutR (S : Stt) (p : Pc) (due : Int) : List Value → Bool → Int → Stt → Prop
  | arg : ¬ okDue due → PutR S p due zeroW false 1 S
  | form : okDue due → rightP p = false → PutR S p due zeroW false 8 S
  | again (d : Dg) : okDue due → rightP p = true → getL p.key S.D = some d → d.l.any (sameP p) = true → PutR S p due zeroW false 0 S
  | clash (d : Dg) : okDue due → rightP p = true → getL p.key S.D = some d → d.l.any (sameP p) = false → fitsQ d.fin d.l p = false → PutR S p due zeroW false 5 (cutS S p.key d)
  | alone : okDue due → rightP p = true → getL p.key S.D = none → p.at_ = 0 → p.more = false → PutR S p due (wh p.key p.head p.data 1) true 0 S
  | full : okDue due → rightP p = true → Room S p → S.n ≥ S.max → PutR S p due zeroW false 6 S
  | state : okDue due → rightP p = true → Room S p → S.n < S.max → (getL p.src S.of).getD 0 ≥ S.source → PutR S p due zeroW false 11 S
  | part (d' : Dg) (last' : Int) : okDue due → rightP p = true → Room S p → S.n < S.max → (getL p.src S.of).getD 0 < S.source → Took S p due last' d' → d'.fin < 0 → PutR S p due zeroW false 0 (takeS S p last' d')
  | none (d' : Dg) (last' : Int) (l' : List Pc) : okDue due → rightP p = true → Room S p → S.n < S.max → (getL p.src S.of).getD 0 < S.source → Took S p due last' d' → 0 ≤ d'.fin →
      l'.Perm d'.l → l'.Pairwise (fun x y => ltC cfP y x = false) → wholeQ d'.fin l' = Option.none → PutR S p due zeroW false 0 (setS (takeS S p last' d') p.key { d' with l := l' })
  | whole (d' : Dg) (last' : Int) (l' : List Pc) (w : ByteArray) : okDue due → rightP p = true → Room S p → S.n < S.max → (getL p.src S.of).getD 0 < S.source → Took S p due last' d' → 0 ≤ d'.fin →
      l'.Perm d'.l → l'.Pairwise (fun x y => ltC cfP y x = false) → wholeQ d'.fin l' = some w →
      PutR S p due (wh p.key (headQ d'.l) w d'.l.length) true 0 (cutS (setS (takeS S p last' d') p.key { d' with l := l' }) p.key { d' with l := l' })

section
variable {hp0 hp : HP} {q m mo : Nat} {S : Stt} {K : Value → HP → Prop} {p : Pc}

theorem C75 (h : StR hp0 hp q m mo S) (hK : K (.bool false) hp) : CF Try.prog 75 [ptr q 0] hp K := by
  refine F75_ok _ hp K ?_
  unfold F75
  have c4 : (stc S m mo)[4]? = some (.map (some m)) := rfl
  simp only [Option.isNone_some, ite2_false, ptrN_some, h.cell, Nat.zero_add, c4, ldV_some, mapV_map]
  exact hK
theorem C27 (h : StR hp0 hp q m mo S) (hK : K (.int .i64 S.n) hp) : CF Try.prog 27 [ptr q 0] hp K := by
  refine F27_ok _ hp K ?_
  unfold F27
  refine C75 h ?_
  have c3 : (stc S m mo)[3]? = some (.int .i64 S.n) := rfl
  simp only [boolV_bool, ite2_false, ptrN_some, h.cell, Nat.zero_add, c3, ldV_some, intV_int]
  exact hK

theorem C25 {max source : Int} (hbad : ¬ (1 ≤ max ∧ max ≤ 65536 ∧ 1 ≤ source ∧ source ≤ 65536) → K (.tuple ⟨[.pointer none, .int .i64 1]⟩) hp)
    (hok : 1 ≤ max ∧ max ≤ 65536 ∧ 1 ≤ source ∧ source ≤ 65536 → ∀ (q m mo : Nat) (hp' : HP), (∀ hp0, HSub hp0 hp → StR hp0 hp' q m mo ⟨max, source, 0, 0, [], []⟩) → K (.tuple ⟨[ptr q 0, .int .i64 0]⟩) hp') :
    CF Try.prog 25 [.int .i64 max, .int .i64 source] hp K := by
  refine F25_ok max source hp K ?_
  unfold F25
  have bad : ¬ (1 ≤ max ∧ max ≤ 65536 ∧ 1 ≤ source ∧ source ≤ 65536) → F25_j1 max source true hp K := fun h => by
    unfold F25_j1; rw [ite2_true]; exact hbad h
  by_cases h1 : max < 1
  · rw [decide_eq_true h1, ite2_true]; exact bad (by omega)
  rw [decide_eq_false h1, ite2_false]
  by_cases h2 : max > 65536
  · rw [decide_eq_true h2, ite2_true]; exact bad (by omega)
  rw [decide_eq_false h2, ite2_false]
  by_cases h3 : source < 1
  · rw [decide_eq_true h3, ite2_true]; exact bad (by omega)
  rw [decide_eq_false h3, ite2_false]
  by_cases h4 : source > 65536
  · rw [decide_eq_true h4]; exact bad (by omega)
  rw [decide_eq_false h4]
  unfold F25_j1
  rw [ite2_false]
  intro b1 hb1 b2 hb2 b3 hb3
  have n21 : b2 ≠ b1 := fun e => by rw [e, HP.set_eq] at hb2; cases hb2
  have n32 : b3 ≠ b2 := fun e => by rw [e, HP.set_eq] at hb3; cases hb3
  have n31 : b3 ≠ b1 := fun e => by rw [e, HP.set_ne _ _ n21.symm, HP.set_eq] at hb3; cases hb3
  have f2 : hp b2 = .none := by rw [HP.set_ne _ _ n21] at hb2; exact hb2
  have f3 : hp b3 = .none := by rw [HP.set_ne _ _ n32, HP.set_ne _ _ n31] at hb3; exact hb3
  refine hok ⟨by omega, by omega, by omega, by omega⟩ b3 b1 b2 _ fun hp0 hs => ?_
  refine ⟨((hs.up (hs.none hb1) _).up (hs.none f2) _).up (hs.none f3) _, hs.none f3, hs.none hb1, hs.none f2, n21.symm, HP.set_eq .., ?_, ?_, (fun kd h => by cases h), .nil, .nil, .nil⟩
  · rw [HP.set_ne _ _ n31.symm, HP.set_ne _ _ n21.symm, HP.set_eq]; exact MapE.empty _ _
  · rw [HP.set_ne _ _ n32.symm, HP.set_eq]; exact MapE.empty _ _

theorem pre_of {key : ByteArray} {d : Dg} (h : StR hp0 hp q m mo S) (hg : getL key S.D = some d) : Pre hp0 hp q m mo S key d.blk (some ⟨d.rblk, 0, none⟩) := by
  obtain ⟨a1, a2, a3, a4, a5, a6, a7, a8, a9, a10, a11, a12⟩ := h
  obtain ⟨y1, y2, y3⟩ := a9 _ (getL_some_mem hg)
  refine ⟨a1, a2, a3, a4, a5, a6, a8, ?_, y2, (fun b e => by cases e; exact y3), ?_, a10, a11, a12⟩
  · intro d2 hdb
    exact mapE_same a7 (put_same_map hg (by simp only [dv, hdb]))
  · intro kd hkd hne
    obtain ⟨z1, z2, z3⟩ := a9 kd hkd
    refine ⟨z1, z2, z3, fun e => hne ?_, fun b e e' => hne ?_⟩
    · have := map_inj_of_nodup (f := fun x : ByteArray × Dg => x.2.blk) a10 hkd (getL_some_mem hg) e
      rw [this]
    · cases e
      have := map_inj_of_nodup (f := fun x : ByteArray × Dg => x.2.rblk) a11 hkd (getL_some_mem hg) e'
      rw [this]

/-- A datagram's pieces in another order. -/
theorem Stp.order {key : ByteArray} {d : Dg} {l' : List Pc} {x : Ent} (hg : getL key S.D = some d) (hd : DgR hp d) (hd' : DgR (hp.set d.rblk x) { d with l := l' }) : Stp q m mo hp S (hp.set d.rblk x) (setS S key { d with l := l' }) := by
  intro hp0 h
  obtain ⟨h0, c, h1, h2, h3⟩ := hd
  exact Pre.done (d' := { d with l := l' }) (pre_of (d := d) h hg) ⟨_, h2⟩ (fun b e => by cases e; exact ⟨_, _, h3⟩) (fun h0 g1 g2 g3 => ⟨g1.up (g3 _ rfl) _, g3 _ rfl⟩) hd'

theorem C26 {due : Int} (h : StR hp0 hp q m mo S) (hok : okP p) (hlen : ∀ d, getL p.key S.D = some d → d.l.length < 19) (hri : ∀ d, getL p.key S.D = some d → ∀ x ∈ d.l, rightP x = true)
    (hK : ∀ hp' w b e S', PutR S p due w b e S' → Stp q m mo hp S hp' S' → K (.tuple ⟨[.agg ⟨w⟩, .bool b, .int .i64 e]⟩) hp') :
    CF Try.prog 26 [ptr q 0, .agg ⟨pc p⟩, .int .i64 due] hp K := by
  refine F26_ok _ (pc p) due hp K ?_
  unfold F26
  refine C75 h ?_
  rw [boolV_bool, ite2_false]
  have hz0 : [(Value.string ⟨#[]⟩), (Value.string ⟨#[]⟩), (Value.string ⟨#[]⟩), (Value.int .i64 0)] = wh e0s e0s e0s 0 := rfl
  have whl : ∀ a b c d, (wh a b c d).length = 4 := fun _ _ _ _ => rfl
  have who : ∀ a b c d, (wh a b c d).all one = true := fun _ _ _ _ => rfl
  have hsp : ∀ a b c d a' b' c' d', splice (wh a b c d) 0 (wh a' b' c' d') = wh a' b' c' d' := fun _ _ _ _ _ _ _ _ => splice_all rfl
  have whc : ∀ a b c d, cellsN (wh a b c d) 0 4 = some (wh a b c d) := fun a b c d => cellsN_all (whl a b c d)
  have k0 : (pc p)[0]? = some (.string p.key) := rfl
  have k1 : (pc p)[1]? = some (.string p.src) := rfl
  have k2 : (pc p)[2]? = some (.int .i64 p.at_) := rfl
  have k3 : (pc p)[3]? = some (.bool p.more) := rfl
  have k4 : (pc p)[4]? = some (.string p.data) := rfl
  have k5 : (pc p)[5]? = some (.string p.head) := rfl
  have kN : cellsN (pc p) 0 6 = some (pc p) := cellsN_all (pc_len p)
  have c0 : ∀ S : Stt, (stc S m mo)[0]? = some (.int .i64 S.max) := fun _ => rfl
  have c1 : ∀ S : Stt, (stc S m mo)[1]? = some (.int .i64 S.source) := fun _ => rfl
  have c3 : ∀ S : Stt, (stc S m mo)[3]? = some (.int .i64 S.n) := fun _ => rfl
  have c4 : ∀ S : Stt, (stc S m mo)[4]? = some (.map (some m)) := fun _ => rfl
  have c5 : ∀ S : Stt, (stc S m mo)[5]? = some (.map (some mo)) := fun _ => rfl
  have bad : ¬ okDue due → F26_j1 (some ⟨q, 0, none⟩) due true (pc p) [(Value.string ⟨#[]⟩), (Value.string ⟨#[]⟩), (Value.string ⟨#[]⟩), (Value.int .i64 0)] hp K := by
    intro hd
    unfold F26_j1
    simp only [ite2_true, hz0, whl, who, if_true, hsp, whc, ldL_some]
    exact ifI (Nat.le_refl _) (hK _ _ _ _ _ (.arg hd) Stp.refl)
  by_cases hd1 : due < 0
  · rw [decide_eq_true hd1, ite2_true]; exact bad (by unfold okDue; omega)
  rw [decide_eq_false hd1, ite2_false]
  by_cases hd2 : due > 4611686018427387904
  · rw [decide_eq_true hd2]; exact bad (by unfold okDue; omega)
  rw [decide_eq_false hd2]
  have hod : okDue due := ⟨by omega, by omega⟩
  unfold F26_j1
  rw [ite2_false, kN, ldL_some]
  refine C67 hok ?_
  rw [boolV_bool]
  cases hrp : rightP p
  · simp only [Bool.not_false, ite2_true, hz0, whl, who, if_true, hsp, whc, ldL_some]
    exact ifI (Nat.le_refl _) (hK _ _ _ _ _ (.form hod hrp) Stp.refl)
  rw [Bool.not_true, ite2_false]
  simp only [ptrN_some, h.cell, Nat.zero_add, c4, k0, ldV_some, mapV_map, strV_string]
  refine rdS_lookup u128 enc9 zpt h.mapD p.key ?_
  simp only [if_true, tup2V_mk, boolV_bool]
  -- there is room
  have four : Room S p → F26_j4 (some ⟨q, 0, none⟩) due false (pc p) (wh e0s e0s e0s 0) hp K := by
    intro hroom
    unfold F26_j4
    simp only [ite2_false, ptrN_some, h.cell, Nat.zero_add, c3, c0, ldV_some, intV_int, hz0, whl, who, if_true, hsp, whc, ldL_some, Nat.le_refl]
    by_cases hf : S.n ≥ S.max
    · rw [decide_eq_true hf, ite2_true]
      exact hK _ _ _ _ _ (.full hod hrp hroom hf) Stp.refl
    rw [decide_eq_false hf, ite2_false]
    simp only [c5, c1, k1, ldV_some, mapV_map, strV_string]
    refine rdS_lookup u97 enc9 zj h.mapOf p.src ?_
    simp only [Bool.false_eq_true, if_false, jw_get, intV_int]
    by_cases hs : (getL p.src S.of).getD 0 ≥ S.source
    · rw [decide_eq_true hs, ite2_true]
      exact hK _ _ _ _ _ (.state hod hrp hroom (by omega) hs) Stp.refl
    rw [decide_eq_false hs, ite2_false, kN, ldL_some]
    refine C80 h (fun d hg => by have := hlen d hg; omega) ?_
    intro hp1 d' last' htook s1
    have g1 := s1 hp0 h
    have hg1 : getL p.key (takeS S p last' d').D = some d' := by
      unfold takeS; simp only [getL_put, if_true]
    have hll : d'.l.length < 20 := by
      rcases htook with ⟨_, _, _, _, _, e⟩ | ⟨d, hg, _, _, _, _, e⟩
      · rw [e]; simp
      · rw [e, List.length_append]; have := hlen d hg; simp only [List.length_cons, List.length_nil]; omega
    have hrr : ∀ x ∈ d'.l, rightP x = true := by
      rcases htook with ⟨_, _, _, _, _, e⟩ | ⟨d, hg, _, _, _, _, e⟩
      · rw [e]; intro x hx; rw [List.mem_singleton] at hx; rw [hx]; exact hrp
      · rw [e]; intro x hx
        rw [List.mem_append, List.mem_singleton] at hx
        rcases hx with hx | hx
        · exact hri d hg x hx
        · rw [hx]; exact hrp
    simp only [ptrN_some, g1.cell, Nat.zero_add, c4, k0, ldV_some, mapV_map, strV_string]
    refine rdS_lookup u128 enc9 zpt g1.mapD p.key ?_
    simp only [Bool.false_eq_true, if_false, hg1, Option.map_some, Option.getD_some, dv, ptrV_pointer]
    refine C81 (g1.dg hg1) hll hrr ?_ ?_
    · intro hneg
      simp only [tup2V_mk, aggV_agg, boolV_bool, whl, who, if_true, hsp, Nat.zero_add, Nat.le_refl, ite2_false]
      unfold F26_j5
      simp only [whl, who, if_true, hsp, whc, ldL_some, Nat.zero_add, Nat.le_refl]
      exact hK _ _ _ _ _ (.part d' last' hod hrp hroom (by omega) (by omega) htook hneg) s1
    · intro hpos l' x hperm hsort hd2
      have s2 := s1.trans (Stp.order hg1 (g1.dg hg1) hd2)
      generalize hp1.set d'.rblk x = hp2 at s2 hd2 ⊢
      cases hw : wholeQ d'.fin l' with
      | none =>
        simp only [whO, Option.isSome_none, tup2V_mk, aggV_agg, boolV_bool, whl, who, if_true, hsp, Nat.zero_add, Nat.le_refl, ite2_false]
        unfold F26_j5
        simp only [whl, who, if_true, hsp, whc, ldL_some, Nat.zero_add, Nat.le_refl]
        exact hK _ _ _ _ _ (.none d' last' l' hod hrp hroom (by omega) (by omega) htook hpos hperm hsort hw) s2
      | some w =>
        simp only [whO, Option.isSome_some, tup2V_mk, aggV_agg, boolV_bool, whl, who, if_true, hsp, Nat.zero_add, Nat.le_refl, ite2_true, k0, ldV_some, strV_string]
        have g2 := s2 hp0 h
        have hg2 : getL p.key (setS (takeS S p last' d') p.key { d' with l := l' }).D = some { d' with l := l' } := by
          unfold setS; simp only [getL_put, if_true]
        refine C79 g2 hg2 (by simp only; rw [hperm.length_eq]; omega) ?_
        intro hp3 s3
        unfold F26_j5
        simp only [whl, who, if_true, hsp, whc, ldL_some, Nat.zero_add, Nat.le_refl]
        exact hK _ _ _ _ _ (.whole d' last' l' w hod hrp hroom (by omega) (by omega) htook hpos hperm hsort hw) (s2.trans s3)
  cases hg : getL p.key S.D with
  | none =>
    simp only [Option.map_none, Option.getD_none, Option.isSome_none, ptrV_pointer, boolV_bool, ite2_false, hz0]
    unfold F26_j2
    simp only [ite2_false]
    unfold F26_j3
    simp only [ite2_false, Bool.not_false, ite2_true, k2, k3, ldV_some, intV_int, boolV_bool]
    by_cases ha : p.at_ = 0
    · have e : (p.at_ == 0) = true := by simpa using ha
      rw [e, ite2_true]
      cases hm : p.more
      · rw [Bool.not_false]
        unfold F26_j4
        have hl3 : [Value.string p.key, .string p.head, .string p.data, .int .i64 1] = wh p.key p.head p.data 1 := rfl
        simp only [ite2_true, k0, k4, k5, ldV_some, strV_string, hl3, whl, who, if_true, hsp, whc, ldL_some, Nat.zero_add, Nat.le_refl]
        exact hK _ _ _ _ _ (.alone hod hrp hg ha hm) Stp.refl
      · rw [Bool.not_true]
        exact four (by unfold Room; rw [hg]; simp [hm])
    · have e : (p.at_ == 0) = false := by simpa using ha
      rw [e, ite2_false]
      exact four (by unfold Room; rw [hg]; simp [ha])
  | some d =>
    simp only [Option.map_some, Option.getD_some, Option.isSome_some, dv, ptrV_pointer, boolV_bool, ite2_true, ptrN_some, Nat.zero_add, hz0]
    have hdg := h.dg hg
    have hl19 := hlen d hg
    obtain ⟨h0, c, h1, h2, h3⟩ := hdg
    have hc : ∀ o, hp.cell d.blk o = [Value.int .i64 d.id, .int .i64 d.due, .int .i64 d.fin, .slice (some ⟨d.rblk, 0, none⟩) d.l.length c][o]? := fun o => HP.cell_of h2
    have sh : Shows hp (some ⟨d.rblk, 0, none⟩) d.l.length 6 (d.l.flatMap pc) := .inr ⟨d.rblk, 0, rfl, by rw [HP.cellN_of h3]; exact cellsN_all (by rw [flat_len pc_len])⟩
    simp only [hc, List.getElem?_cons_succ, List.getElem?_cons_zero, ldV_some, slcV_slice, kN, ldL_some]
    refine C76 (g := sameP p) sh rfl (by omega) (fun x _ K' hK' => C77 hK') ?_
    rw [boolV_bool]
    unfold F26_j2
    cases hany : d.l.any (sameP p)
    rotate_left
    · simp only [ite2_true, hz0, whl, who, if_true, hsp, whc, ldL_some, Nat.zero_add, Nat.le_refl]
      exact hK _ _ _ _ _ (.again d hod hrp hg hany) Stp.refl
    simp only [ite2_false, ite2_true, kN, ldL_some]
    refine C78 (h.dg hg) (by omega) ?_
    rw [boolV_bool]
    unfold F26_j3
    cases hfit : fitsQ d.fin d.l p
    · simp only [Bool.not_false, ite2_true, k0, ldV_some, strV_string]
      refine C79 h hg (by omega) ?_
      intro hp3 s3
      simp only [hz0, whl, who, if_true, hsp, whc, ldL_some, Nat.zero_add, Nat.le_refl]
      exact hK _ _ _ _ _ (.clash d hod hrp hg hany hfit) s3
    · simp only [Bool.not_true, ite2_false]
      exact four (by unfold Room; rw [hg]; exact ⟨hany, hfit⟩)
end
end Go.Proofs

set_option linter.unusedVariables false
set_option maxRecDepth 20000
namespace Go.Proofs
open Go Go.HL
-- 22 interpreter/interpreterlaw16.wakes
section
variable (e : Env) (x1 : Option Addr) (x2 : Int) (x4 : Bool) (x5 : Int) (x7 : Bool) (x8 : Int) (x10 : Bool) (x11 : Int) (k9 : List Value) (hp : HP) (K : Env → PV → HP → Prop)
abbrev R22 (p : List Nat) (n : Nat) := RW Try.prog 79 [3, 6, 9, 65, 70] (opsAt Try.f22 p) (List.range n)
theorem F22_r0 : R22 [0] 1 e V0 hp K =
    (K (upd e 0 (sB false)) V0 hp) := by kernel_rfl
theorem F22_r1 : R22 [1, 0] 6 e V0 hp K =
    (CF Try.prog 25 [(.int .i64 4), (.int .i64 3)] hp fun u1 h2 => (tup2V u1 fun u3 u4 => (ptrV u3 fun p5 => (intV u4 .i64 fun i6 => (K (upd (upd (upd (upd (upd (upd e 13 (sV (.tuple ⟨[(.pointer p5), (.int .i64 i6)]⟩))) 12 (sV (.tuple ⟨[(.pointer p5), (.int .i64 i6)]⟩))) 14 (sP p5)) 15 (sI i6)) 1 (sP p5)) 2 (sI i6)) V0 h2))))) := by kernel_rfl
theorem F22_r2 : R22 [1, 1, 0, 1, 0, 0] 1 e V0 hp K =
    (K (upd e 0 (sB false)) V0 hp) := by kernel_rfl
theorem F22_r3 : R22 [1, 1, 1, 0] 11 (upd e 1 (sP x1)) V0 hp K =
    (CF Try.prog 72 [(.int .i64 8), .bool false, (.string (⟨#[97, 98]⟩ : ByteArray))] hp fun u1 h2 => (aggV u1 fun l3 => (CF Try.prog 26 [(.pointer x1), (.agg ⟨l3⟩), (.int .i64 5)] h2 fun u4 h5 => (tup3V u4 fun u6 u7 u8 => (aggV u6 fun l9 => (boolV u7 fun q10 => (intV u8 .i64 fun i11 => (if List.length l9 = 4 then (if List.all l9 one = true then (if 0 + List.length l9 ≤ List.length [(Value.string ⟨#[]⟩), .string ⟨#[]⟩, .string ⟨#[]⟩, .int .i64 0] then (K (upd (upd (upd (upd (upd (upd (upd (upd (upd (upd (upd e 1 (sP x1)) 23 (sP x1)) 24 (sA l3)) 25 (sV (.tuple ⟨[(.agg ⟨l9⟩), (.bool q10), (.int .i64 i11)]⟩))) 22 (sV (.tuple ⟨[(.agg ⟨l9⟩), (.bool q10), (.int .i64 i11)]⟩))) 26 (sA l9)) 27 (sB q10)) 28 (sI i11)) 3 (sR 3 0)) 4 (sB q10)) 5 (sI i11)) (upd (upd V0 3 (36, [.string ⟨#[]⟩, .string ⟨#[]⟩, .string ⟨#[]⟩, .int .i64 0])) 3 (36, (splice [.string ⟨#[]⟩, .string ⟨#[]⟩, .string ⟨#[]⟩, .int .i64 0] 0 l9))) h5) else False) else False) else False)))))))) := by kernel_rfl
theorem F22_r4 : R22 [1, 1, 1, 1, 0] 11 (upd e 1 (sP x1)) V0 hp K =
    (CF Try.prog 72 [(.int .i64 8), .bool false, (.string (⟨#[97, 98]⟩ : ByteArray))] hp fun u1 h2 => (aggV u1 fun l3 => (CF Try.prog 26 [(.pointer x1), (.agg ⟨l3⟩), (.int .i64 9)] h2 fun u4 h5 => (tup3V u4 fun u6 u7 u8 => (aggV u6 fun l9 => (boolV u7 fun q10 => (intV u8 .i64 fun i11 => (if List.length l9 = 4 then (if List.all l9 one = true then (if 0 + List.length l9 ≤ List.length [(Value.string ⟨#[]⟩), .string ⟨#[]⟩, .string ⟨#[]⟩, .int .i64 0] then (K (upd (upd (upd (upd (upd (upd (upd (upd (upd (upd (upd e 1 (sP x1)) 30 (sP x1)) 31 (sA l3)) 32 (sV (.tuple ⟨[(.agg ⟨l9⟩), (.bool q10), (.int .i64 i11)]⟩))) 29 (sV (.tuple ⟨[(.agg ⟨l9⟩), (.bool q10), (.int .i64 i11)]⟩))) 33 (sA l9)) 34 (sB q10)) 35 (sI i11)) 6 (sR 6 0)) 7 (sB q10)) 8 (sI i11)) (upd (upd V0 6 (36, [.string ⟨#[]⟩, .string ⟨#[]⟩, .string ⟨#[]⟩, .int .i64 0])) 6 (36, (splice [.string ⟨#[]⟩, .string ⟨#[]⟩, .string ⟨#[]⟩, .int .i64 0] 0 l9))) h5) else False) else False) else False)))))))) := by kernel_rfl
theorem F22_r5 : R22 [1, 1, 1, 1, 1, 0] 11 (upd e 1 (sP x1)) V0 hp K =
    (CF Try.prog 72 [.int .i64 0, (.bool true), (.string (⟨#[49, 50, 51, 52, 53, 54, 55, 56]⟩ : ByteArray))] hp fun u1 h2 => (aggV u1 fun l3 => (CF Try.prog 26 [(.pointer x1), (.agg ⟨l3⟩), (.int .i64 9)] h2 fun u4 h5 => (tup3V u4 fun u6 u7 u8 => (aggV u6 fun l9 => (boolV u7 fun q10 => (intV u8 .i64 fun i11 => (if List.length l9 = 4 then (if List.all l9 one = true then (if 0 + List.length l9 ≤ List.length [(Value.string ⟨#[]⟩), .string ⟨#[]⟩, .string ⟨#[]⟩, .int .i64 0] then (K (upd (upd (upd (upd (upd (upd (upd (upd (upd (upd (upd e 1 (sP x1)) 37 (sP x1)) 38 (sA l3)) 39 (sV (.tuple ⟨[(.agg ⟨l9⟩), (.bool q10), (.int .i64 i11)]⟩))) 36 (sV (.tuple ⟨[(.agg ⟨l9⟩), (.bool q10), (.int .i64 i11)]⟩))) 40 (sA l9)) 41 (sB q10)) 42 (sI i11)) 9 (sR 9 0)) 10 (sB q10)) 11 (sI i11)) (upd (upd V0 9 (36, [.string ⟨#[]⟩, .string ⟨#[]⟩, .string ⟨#[]⟩, .int .i64 0])) 9 (36, (splice [.string ⟨#[]⟩, .string ⟨#[]⟩, .string ⟨#[]⟩, .int .i64 0] 0 l9))) h5) else False) else False) else False)))))))) := by kernel_rfl
theorem F22_r6 : R22 [1, 1, 1, 1, 1, 1, 0] 37 (upd (upd (upd (upd (upd (upd (upd (upd e 11 (sI x11)) 10 (sB x10)) 9 (sR 9 0)) 8 (sI x8)) 7 (sB x7)) 5 (sI x5)) 4 (sB x4)) 1 (sP x1)) (upd V0 9 (36, k9)) hp K =
    (ite2 (!x4) (ite2 (x5 == 0) (ite2 (!x7) (ite2 (x8 == 0) (ite2 x10 (ite2 (x11 == 0) (ldV (k9)[2]? fun v1 => (strV v1 fun s2 => (ite2 ((ByteArray.toList s2) == (ByteArray.toList (⟨#[49, 50, 51, 52, 53, 54, 55, 56, 97, 98]⟩ : ByteArray))) (ldV (k9)[3]? fun v3 => (intV v3 .i64 fun i4 => (ite2 (i4 == 2) (CF Try.prog 27 [(.pointer x1)] hp fun u5 h6 => (intV u5 .i64 fun i7 => (K (upd (upd (upd (upd (upd (upd (upd (upd (upd (upd (upd (upd (upd (upd (upd (upd (upd (upd (upd (upd (upd (upd (upd (upd (upd (upd (upd (upd (upd (upd (upd (upd (upd (upd (upd (upd (upd (upd (upd (upd (upd (upd (upd (upd (upd e 11 (sI x11)) 10 (sB x10)) 9 (sR 9 0)) 8 (sI x8)) 7 (sB x7)) 5 (sI x5)) 4 (sB x4)) 1 (sP x1)) 43 (sB x4)) 44 (sB ((!x4)))) 45 (sB true)) 46 (sI x5)) 47 (sB ((x5 == 0)))) 48 (sB ((x5 == 0)))) 49 (sB true)) 50 (sB x7)) 51 (sB ((!x7)))) 52 (sB ((!x7)))) 53 (sB true)) 54 (sI x8)) 55 (sB ((x8 == 0)))) 56 (sB ((x8 == 0)))) 57 (sB true)) 58 (sB x10)) 59 (sB x10)) 60 (sB true)) 61 (sI x11)) 62 (sB ((x11 == 0)))) 63 (sB ((x11 == 0)))) 64 (sB true)) 65 (sR 9 2)) 66 (sV (.string s2))) 67 (sB (((ByteArray.toList s2) == (ByteArray.toList (⟨#[49, 50, 51, 52, 53, 54, 55, 56, 97, 98]⟩ : ByteArray)))))) 68 (sB (((ByteArray.toList s2) == (ByteArray.toList (⟨#[49, 50, 51, 52, 53, 54, 55, 56, 97, 98]⟩ : ByteArray)))))) 69 (sB true)) 70 (sR 9 3)) 71 (sI i4)) 72 (sB ((i4 == 2)))) 73 (sB ((i4 == 2)))) 74 (sB true)) 75 (sP x1)) 76 (sI i7)) 77 (sB ((i7 == 0)))) 78 (sB ((i7 == 0)))) 0 (sB ((i7 == 0)))) (upd V0 9 (36, k9)) h6))) (K (upd (upd (upd (upd (upd (upd (upd (upd (upd (upd (upd (upd (upd (upd (upd (upd (upd (upd (upd (upd (upd (upd (upd (upd (upd (upd (upd (upd (upd (upd (upd (upd (upd (upd (upd (upd (upd (upd (upd (upd (upd (upd (upd (upd (upd e 11 (sI x11)) 10 (sB x10)) 9 (sR 9 0)) 8 (sI x8)) 7 (sB x7)) 5 (sI x5)) 4 (sB x4)) 1 (sP x1)) 43 (sB x4)) 44 (sB ((!x4)))) 45 (sB true)) 46 (sI x5)) 47 (sB ((x5 == 0)))) 48 (sB ((x5 == 0)))) 49 (sB true)) 50 (sB x7)) 51 (sB ((!x7)))) 52 (sB ((!x7)))) 53 (sB true)) 54 (sI x8)) 55 (sB ((x8 == 0)))) 56 (sB ((x8 == 0)))) 57 (sB true)) 58 (sB x10)) 59 (sB x10)) 60 (sB true)) 61 (sI x11)) 62 (sB ((x11 == 0)))) 63 (sB ((x11 == 0)))) 64 (sB true)) 65 (sR 9 2)) 66 (sV (.string s2))) 67 (sB (((ByteArray.toList s2) == (ByteArray.toList (⟨#[49, 50, 51, 52, 53, 54, 55, 56, 97, 98]⟩ : ByteArray)))))) 68 (sB (((ByteArray.toList s2) == (ByteArray.toList (⟨#[49, 50, 51, 52, 53, 54, 55, 56, 97, 98]⟩ : ByteArray)))))) 69 (sB true)) 70 (sR 9 3)) 71 (sI i4)) 72 (sB ((i4 == 2)))) 73 (sB ((i4 == 2)))) 74 (sB false)) 75 sU) 76 sU) 77 sU) 78 (sB false)) 0 (sB false)) (upd V0 9 (36, k9)) hp)))) (K (upd (upd (upd (upd (upd (upd (upd (upd (upd (upd (upd (upd (upd (upd (upd (upd (upd (upd (upd (upd (upd (upd (upd (upd (upd (upd (upd (upd (upd (upd (upd (upd (upd (upd (upd (upd (upd (upd (upd (upd (upd (upd (upd (upd (upd e 11 (sI x11)) 10 (sB x10)) 9 (sR 9 0)) 8 (sI x8)) 7 (sB x7)) 5 (sI x5)) 4 (sB x4)) 1 (sP x1)) 43 (sB x4)) 44 (sB ((!x4)))) 45 (sB true)) 46 (sI x5)) 47 (sB ((x5 == 0)))) 48 (sB ((x5 == 0)))) 49 (sB true)) 50 (sB x7)) 51 (sB ((!x7)))) 52 (sB ((!x7)))) 53 (sB true)) 54 (sI x8)) 55 (sB ((x8 == 0)))) 56 (sB ((x8 == 0)))) 57 (sB true)) 58 (sB x10)) 59 (sB x10)) 60 (sB true)) 61 (sI x11)) 62 (sB ((x11 == 0)))) 63 (sB ((x11 == 0)))) 64 (sB true)) 65 (sR 9 2)) 66 (sV (.string s2))) 67 (sB (((ByteArray.toList s2) == (ByteArray.toList (⟨#[49, 50, 51, 52, 53, 54, 55, 56, 97, 98]⟩ : ByteArray)))))) 68 (sB (((ByteArray.toList s2) == (ByteArray.toList (⟨#[49, 50, 51, 52, 53, 54, 55, 56, 97, 98]⟩ : ByteArray)))))) 69 (sB false)) 70 sU) 71 sU) 72 sU) 73 (sB false)) 74 (sB false)) 75 sU) 76 sU) 77 sU) 78 (sB false)) 0 (sB false)) (upd V0 9 (36, k9)) hp)))) (K (upd (upd (upd (upd (upd (upd (upd (upd (upd (upd (upd (upd (upd (upd (upd (upd (upd (upd (upd (upd (upd (upd (upd (upd (upd (upd (upd (upd (upd (upd (upd (upd (upd (upd (upd (upd (upd (upd (upd (upd (upd (upd (upd (upd (upd e 11 (sI x11)) 10 (sB x10)) 9 (sR 9 0)) 8 (sI x8)) 7 (sB x7)) 5 (sI x5)) 4 (sB x4)) 1 (sP x1)) 43 (sB x4)) 44 (sB ((!x4)))) 45 (sB true)) 46 (sI x5)) 47 (sB ((x5 == 0)))) 48 (sB ((x5 == 0)))) 49 (sB true)) 50 (sB x7)) 51 (sB ((!x7)))) 52 (sB ((!x7)))) 53 (sB true)) 54 (sI x8)) 55 (sB ((x8 == 0)))) 56 (sB ((x8 == 0)))) 57 (sB true)) 58 (sB x10)) 59 (sB x10)) 60 (sB true)) 61 (sI x11)) 62 (sB ((x11 == 0)))) 63 (sB ((x11 == 0)))) 64 (sB false)) 65 sU) 66 sU) 67 sU) 68 (sB false)) 69 (sB false)) 70 sU) 71 sU) 72 sU) 73 (sB false)) 74 (sB false)) 75 sU) 76 sU) 77 sU) 78 (sB false)) 0 (sB false)) (upd V0 9 (36, k9)) hp)) (K (upd (upd (upd (upd (upd (upd (upd (upd (upd (upd (upd (upd (upd (upd (upd (upd (upd (upd (upd (upd (upd (upd (upd (upd (upd (upd (upd (upd (upd (upd (upd (upd (upd (upd (upd (upd (upd (upd (upd (upd (upd (upd (upd (upd (upd e 11 (sI x11)) 10 (sB x10)) 9 (sR 9 0)) 8 (sI x8)) 7 (sB x7)) 5 (sI x5)) 4 (sB x4)) 1 (sP x1)) 43 (sB x4)) 44 (sB ((!x4)))) 45 (sB true)) 46 (sI x5)) 47 (sB ((x5 == 0)))) 48 (sB ((x5 == 0)))) 49 (sB true)) 50 (sB x7)) 51 (sB ((!x7)))) 52 (sB ((!x7)))) 53 (sB true)) 54 (sI x8)) 55 (sB ((x8 == 0)))) 56 (sB ((x8 == 0)))) 57 (sB true)) 58 (sB x10)) 59 (sB x10)) 60 (sB false)) 61 sU) 62 sU) 63 (sB false)) 64 (sB false)) 65 sU) 66 sU) 67 sU) 68 (sB false)) 69 (sB false)) 70 sU) 71 sU) 72 sU) 73 (sB false)) 74 (sB false)) 75 sU) 76 sU) 77 sU) 78 (sB false)) 0 (sB false)) (upd V0 9 (36, k9)) hp)) (K (upd (upd (upd (upd (upd (upd (upd (upd (upd (upd (upd (upd (upd (upd (upd (upd (upd (upd (upd (upd (upd (upd (upd (upd (upd (upd (upd (upd (upd (upd (upd (upd (upd (upd (upd (upd (upd (upd (upd (upd (upd (upd (upd (upd (upd e 11 (sI x11)) 10 (sB x10)) 9 (sR 9 0)) 8 (sI x8)) 7 (sB x7)) 5 (sI x5)) 4 (sB x4)) 1 (sP x1)) 43 (sB x4)) 44 (sB ((!x4)))) 45 (sB true)) 46 (sI x5)) 47 (sB ((x5 == 0)))) 48 (sB ((x5 == 0)))) 49 (sB true)) 50 (sB x7)) 51 (sB ((!x7)))) 52 (sB ((!x7)))) 53 (sB true)) 54 (sI x8)) 55 (sB ((x8 == 0)))) 56 (sB ((x8 == 0)))) 57 (sB false)) 58 sU) 59 (sB false)) 60 (sB false)) 61 sU) 62 sU) 63 (sB false)) 64 (sB false)) 65 sU) 66 sU) 67 sU) 68 (sB false)) 69 (sB false)) 70 sU) 71 sU) 72 sU) 73 (sB false)) 74 (sB false)) 75 sU) 76 sU) 77 sU) 78 (sB false)) 0 (sB false)) (upd V0 9 (36, k9)) hp)) (K (upd (upd (upd (upd (upd (upd (upd (upd (upd (upd (upd (upd (upd (upd (upd (upd (upd (upd (upd (upd (upd (upd (upd (upd (upd (upd (upd (upd (upd (upd (upd (upd (upd (upd (upd (upd (upd (upd (upd (upd (upd (upd (upd (upd (upd e 11 (sI x11)) 10 (sB x10)) 9 (sR 9 0)) 8 (sI x8)) 7 (sB x7)) 5 (sI x5)) 4 (sB x4)) 1 (sP x1)) 43 (sB x4)) 44 (sB ((!x4)))) 45 (sB true)) 46 (sI x5)) 47 (sB ((x5 == 0)))) 48 (sB ((x5 == 0)))) 49 (sB true)) 50 (sB x7)) 51 (sB ((!x7)))) 52 (sB ((!x7)))) 53 (sB false)) 54 sU) 55 sU) 56 (sB false)) 57 (sB false)) 58 sU) 59 (sB false)) 60 (sB false)) 61 sU) 62 sU) 63 (sB false)) 64 (sB false)) 65 sU) 66 sU) 67 sU) 68 (sB false)) 69 (sB false)) 70 sU) 71 sU) 72 sU) 73 (sB false)) 74 (sB false)) 75 sU) 76 sU) 77 sU) 78 (sB false)) 0 (sB false)) (upd V0 9 (36, k9)) hp)) (K (upd (upd (upd (upd (upd (upd (upd (upd (upd (upd (upd (upd (upd (upd (upd (upd (upd (upd (upd (upd (upd (upd (upd (upd (upd (upd (upd (upd (upd (upd (upd (upd (upd (upd (upd (upd (upd (upd (upd (upd (upd (upd (upd (upd (upd e 11 (sI x11)) 10 (sB x10)) 9 (sR 9 0)) 8 (sI x8)) 7 (sB x7)) 5 (sI x5)) 4 (sB x4)) 1 (sP x1)) 43 (sB x4)) 44 (sB ((!x4)))) 45 (sB true)) 46 (sI x5)) 47 (sB ((x5 == 0)))) 48 (sB ((x5 == 0)))) 49 (sB false)) 50 sU) 51 sU) 52 (sB false)) 53 (sB false)) 54 sU) 55 sU) 56 (sB false)) 57 (sB false)) 58 sU) 59 (sB false)) 60 (sB false)) 61 sU) 62 sU) 63 (sB false)) 64 (sB false)) 65 sU) 66 sU) 67 sU) 68 (sB false)) 69 (sB false)) 70 sU) 71 sU) 72 sU) 73 (sB false)) 74 (sB false)) 75 sU) 76 sU) 77 sU) 78 (sB false)) 0 (sB false)) (upd V0 9 (36, k9)) hp)) (K (upd (upd (upd (upd (upd (upd (upd (upd (upd (upd (upd (upd (upd (upd (upd (upd (upd (upd (upd (upd (upd (upd (upd (upd (upd (upd (upd (upd (upd (upd (upd (upd (upd (upd (upd (upd (upd (upd (upd (upd (upd (upd (upd (upd (upd e 11 (sI x11)) 10 (sB x10)) 9 (sR 9 0)) 8 (sI x8)) 7 (sB x7)) 5 (sI x5)) 4 (sB x4)) 1 (sP x1)) 43 (sB x4)) 44 (sB ((!x4)))) 45 (sB false)) 46 sU) 47 sU) 48 (sB false)) 49 (sB false)) 50 sU) 51 sU) 52 (sB false)) 53 (sB false)) 54 sU) 55 sU) 56 (sB false)) 57 (sB false)) 58 sU) 59 (sB false)) 60 (sB false)) 61 sU) 62 sU) 63 (sB false)) 64 (sB false)) 65 sU) 66 sU) 67 sU) 68 (sB false)) 69 (sB false)) 70 sU) 71 sU) 72 sU) 73 (sB false)) 74 (sB false)) 75 sU) 76 sU) 77 sU) 78 (sB false)) 0 (sB false)) (upd V0 9 (36, k9)) hp)) := by kernel_rfl
def F22_j1 (x1 : Option Addr) (x21 : Bool) (hp : HP) (K : Value → HP → Prop) : Prop :=
  (ite2 x21 (K (.bool false) hp) (CF Try.prog 72 [(.int .i64 8), .bool false, (.string (⟨#[97, 98]⟩ : ByteArray))] hp fun u_7 h_8 => (aggV u_7 fun l_9 => (CF Try.prog 26 [(.pointer x1), (.agg ⟨l_9⟩), (.int .i64 5)] h_8 fun u_10 h_11 => (tup3V u_10 fun u_12 u_13 u_14 => (aggV u_12 fun l_15 => (boolV u_13 fun q_16 => (intV u_14 .i64 fun i_17 => (if List.length l_15 = 4 then (if List.all l_15 one = true then (if 0 + List.length l_15 ≤ List.length [(Value.string ⟨#[]⟩), .string ⟨#[]⟩, .string ⟨#[]⟩, .int .i64 0] then (CF Try.prog 72 [(.int .i64 8), .bool false, (.string (⟨#[97, 98]⟩ : ByteArray))] h_11 fun u_18 h_19 => (aggV u_18 fun l_20 => (CF Try.prog 26 [(.pointer x1), (.agg ⟨l_20⟩), (.int .i64 9)] h_19 fun u_21 h_22 => (tup3V u_21 fun u_23 u_24 u_25 => (aggV u_23 fun l_26 => (boolV u_24 fun q_27 => (intV u_25 .i64 fun i_28 => (if List.length l_26 = 4 then (if List.all l_26 one = true then (if 0 + List.length l_26 ≤ List.length [(Value.string ⟨#[]⟩), .string ⟨#[]⟩, .string ⟨#[]⟩, .int .i64 0] then (CF Try.prog 72 [.int .i64 0, (.bool true), (.string (⟨#[49, 50, 51, 52, 53, 54, 55, 56]⟩ : ByteArray))] h_22 fun u_29 h_30 => (aggV u_29 fun l_31 => (CF Try.prog 26 [(.pointer x1), (.agg ⟨l_31⟩), (.int .i64 9)] h_30 fun u_32 h_33 => (tup3V u_32 fun u_34 u_35 u_36 => (aggV u_34 fun l_37 => (boolV u_35 fun q_38 => (intV u_36 .i64 fun i_39 => (if List.length l_37 = 4 then (if List.all l_37 one = true then (if 0 + List.length l_37 ≤ List.length [(Value.string ⟨#[]⟩), .string ⟨#[]⟩, .string ⟨#[]⟩, .int .i64 0] then (ite2 (!q_16) (ite2 (i_17 == 0) (ite2 (!q_27) (ite2 (i_28 == 0) (ite2 q_38 (ite2 (i_39 == 0) (ldV ((splice [.string ⟨#[]⟩, .string ⟨#[]⟩, .string ⟨#[]⟩, .int .i64 0] 0 l_37))[2]? fun v_40 => (strV v_40 fun s_41 => (ite2 ((ByteArray.toList s_41) == (ByteArray.toList (⟨#[49, 50, 51, 52, 53, 54, 55, 56, 97, 98]⟩ : ByteArray))) (ldV ((splice [.string ⟨#[]⟩, .string ⟨#[]⟩, .string ⟨#[]⟩, .int .i64 0] 0 l_37))[3]? fun v_42 => (intV v_42 .i64 fun i_43 => (ite2 (i_43 == 2) (CF Try.prog 27 [(.pointer x1)] h_33 fun u_44 h_45 => (intV u_44 .i64 fun i_46 => (K (.bool (i_46 == 0)) h_45))) (K (.bool false) h_33)))) (K (.bool false) h_33)))) (K (.bool false) h_33)) (K (.bool false) h_33)) (K (.bool false) h_33)) (K (.bool false) h_33)) (K (.bool false) h_33)) (K (.bool false) h_33)) else False) else False) else False)))))))) else False) else False) else False)))))))) else False) else False) else False)))))))))
theorem F22_r7 : R22 [1, 1, 0, 0] 6 (upd (upd e 2 (sI x2)) 1 (sP x1)) V0 hp K =
    (ite2 (x2 != 0) (K (upd (upd (upd (upd (upd (upd (upd (upd e 2 (sI x2)) 1 (sP x1)) 16 (sI x2)) 17 (sB ((x2 != 0)))) 18 (sB true)) 19 sU) 20 sU) 21 (sB true)) V0 hp) (K (upd (upd (upd (upd (upd (upd (upd (upd e 2 (sI x2)) 1 (sP x1)) 16 (sI x2)) 17 (sB ((x2 != 0)))) 18 (sB false)) 19 (sP x1)) 20 (sB ((Option.isNone x1)))) 21 (sB ((Option.isNone x1)))) V0 hp)) := by kernel_rfl
def F22 (hp : HP) (K : Value → HP → Prop) : Prop :=
  (CF Try.prog 25 [(.int .i64 4), (.int .i64 3)] hp fun u_1 h_2 => (tup2V u_1 fun u_3 u_4 => (ptrV u_3 fun p_5 => (intV u_4 .i64 fun i_6 => (ite2 (i_6 != 0) (F22_j1 p_5 true h_2  K) (F22_j1 p_5 (Option.isNone p_5) h_2  K))))))
noncomputable def F22_code : Code := (.seq (.region 0 (opsAt Try.f22 [0]) false) (.seq (.region 1 (opsAt Try.f22 [1, 0]) false) (.seq (.seq (.region 2 (opsAt Try.f22 [1, 1, 0, 0]) false) (.cond (.tmp 21) (.seq (.region 3 (opsAt Try.f22 [1, 1, 0, 1, 0, 0]) false) .ret) .skip)) (.seq (.region 4 (opsAt Try.f22 [1, 1, 1, 0]) false) (.seq (.region 5 (opsAt Try.f22 [1, 1, 1, 1, 0]) false) (.seq (.region 6 (opsAt Try.f22 [1, 1, 1, 1, 1, 0]) false) (.seq (.region 7 (opsAt Try.f22 [1, 1, 1, 1, 1, 1, 0]) false) .ret)))))))
theorem F22_body : Try.f22.body = some F22_code := by kernel_rfl
theorem F22_ok (hp : HP) (K : Value → HP → Prop) (h : F22  hp K) : CF Try.prog 22 [] hp K := by
 refine .inl ⟨by kernel_rfl, AC.intro (N := 79) Try.func22 F22_body rfl (Nat.le_of_ble_eq_true rfl) ?_⟩
 unfold F22 at h
 unfold F22_code
 refine AWP.seq' ?_
 refine AWP.rgn (F22_r0 E0  hp _) ?_ Rn Sn Sn
 refine AWP.seq' ?_
 refine AWP.rgn (F22_r1 E0  hp _) ?_ Rn Sn Sn
 refine mC h fun u_1 h_2 h => mT h fun u_3 u_4 h => mP h fun p_5 h => mI h fun i_6 h => ?_
 refine AWP.seq' ?_
 refine AWP.seq (fun env pv hp => ∃ (x1 : Option Addr) (x21 : Bool), Sub (upd (upd E0 21 (sB x21)) 1 (sP x1)) env ∧ Sub V0 pv ∧ (F22_j1 x1 x21 hp  K)) ?_ ?_
 ·refine AWP.rgn (F22_r7 E0 p_5 i_6 h_2 _) ?_ (Ru 1 (Ru 2 Rn)) (Sc rfl (Sc rfl Sn)) Sn
  refine mt h (fun h => ?_) (fun h => ?_)
  ·exact ⟨p_5, true, (Sc rfl (Sc rfl Sn)), Sn, h⟩
  ·exact ⟨p_5, (Option.isNone p_5), (Sc rfl (Sc rfl Sn)), Sn, h⟩
 ·rintro env pv hp ⟨x1, x21, he, hv, h⟩
  refine AWP.sub (env' := (upd (upd E0 21 (sB x21)) 1 (sP x1))) (pv' := V0) ?_ (Ru 1 (Ru 21 Rn)) he hv (HSub.refl _)
  clear he hv
  unfold F22_j1 at h
  refine AWP.cond (t := x21) rfl (fun e => ?_) (fun e => ?_)
  ·replace h := ite2_t h e
   refine AWP.seq' ?_
   refine AWP.rgn (F22_r2 E0  hp _) ?_ Rn Sn Sn
   refine AWP.ret ?_
   exact h
  ·replace h := ite2_f h e
   refine AWP.skip ?_
   refine AWP.seq' ?_
   refine AWP.rgn (F22_r3 E0 x1 hp _) ?_ (Ru 1 Rn) (Sc rfl Sn) Sn
   refine mC h fun u_7 h_8 h => mA h fun l_9 h => mC h fun u_10 h_11 h => mU h fun u_12 u_13 u_14 h => mA h fun l_15 h => mB h fun q_16 h => mI h fun i_17 h => mf h fun h => mf h fun h => mf h fun h => ?_
   refine AWP.seq' ?_
   refine AWP.rgn (F22_r4 (upd (upd E0 5 (sI i_17)) 4 (sB q_16)) x1 h_11 _) ?_ (Ru 1 (Ru 4 (Ru 5 Rn))) (Sc rfl (Sc rfl (Sc rfl Sn))) Sn
   refine mC h fun u_18 h_19 h => mA h fun l_20 h => mC h fun u_21 h_22 h => mU h fun u_23 u_24 u_25 h => mA h fun l_26 h => mB h fun q_27 h => mI h fun i_28 h => mf h fun h => mf h fun h => mf h fun h => ?_
   refine AWP.seq' ?_
   refine AWP.rgn (F22_r5 (upd (upd (upd (upd E0 8 (sI i_28)) 7 (sB q_27)) 5 (sI i_17)) 4 (sB q_16)) x1 h_22 _) ?_ (Ru 1 (Ru 4 (Ru 5 (Ru 7 (Ru 8 Rn))))) (Sc rfl (Sc rfl (Sc rfl (Sc rfl (Sc rfl Sn))))) Sn
   refine mC h fun u_29 h_30 h => mA h fun l_31 h => mC h fun u_32 h_33 h => mU h fun u_34 u_35 u_36 h => mA h fun l_37 h => mB h fun q_38 h => mI h fun i_39 h => mf h fun h => mf h fun h => mf h fun h => ?_
   refine AWP.seq' ?_
   refine AWP.rgn (F22_r6 E0 x1 q_16 i_17 q_27 i_28 q_38 i_39 (splice [.string ⟨#[]⟩, .string ⟨#[]⟩, .string ⟨#[]⟩, .int .i64 0] 0 l_37) h_33 _) ?_ (Ru 1 (Ru 4 (Ru 5 (Ru 7 (Ru 8 (RefOk.p 9 9 0 (Ru 10 (Ru 11 Rn)) (fun e => by cases e))))))) (Sc rfl (Sc rfl (Sc rfl (Sc rfl (Sc rfl (Sc rfl (Sc rfl (Sc rfl Sn)))))))) (Sc rfl Sn)
   refine mt h (fun h => ?_) (fun h => ?_)
   ·refine mt h (fun h => ?_) (fun h => ?_)
    ·refine mt h (fun h => ?_) (fun h => ?_)
     ·refine mt h (fun h => ?_) (fun h => ?_)
      ·refine mt h (fun h => ?_) (fun h => ?_)
       ·refine mt h (fun h => ?_) (fun h => ?_)
        ·refine mV h fun v_40 h => ms h fun s_41 h => ?_
         refine mt h (fun h => ?_) (fun h => ?_)
         ·refine mV h fun v_42 h => mI h fun i_43 h => ?_
          refine mt h (fun h => ?_) (fun h => ?_)
          ·refine mC h fun u_44 h_45 h => mI h fun i_46 h => ?_
           refine AWP.ret ?_
           exact h
          ·refine AWP.ret ?_
           exact h
         ·refine AWP.ret ?_
          exact h
        ·refine AWP.ret ?_
         exact h
       ·refine AWP.ret ?_
        exact h
      ·refine AWP.ret ?_
       exact h
     ·refine AWP.ret ?_
      exact h
    ·refine AWP.ret ?_
     exact h
   ·refine AWP.ret ?_
    exact h
end
-- 72 interpreter/interpreterlaw16.piece
section
variable (e : Env) (x0 : Int) (x1 : Bool) (x2 : ByteArray) (k6 : List Value) (hp : HP) (K : Env → PV → HP → Prop)
abbrev R72 (p : List Nat) (n : Nat) := RW Try.prog 11 [6] (opsAt Try.f72 p) (List.range n)
theorem F72_r0 : R72 [0] 1 e V0 hp K =
    (K (upd e 6 (sR 6 0)) (upd V0 6 (29, [.string ⟨#[]⟩, .string ⟨#[]⟩, .int .i64 0, .bool false, .string ⟨#[]⟩, .string ⟨#[]⟩])) hp) := by kernel_rfl
theorem F72_r1 : R72 [1, 0] 5 (upd (upd (upd (upd e 6 (sR 6 0)) 2 (sV (.string x2))) 1 (sB x1)) 0 (sI x0)) (upd V0 6 (29, k6)) hp K =
    (if List.length [(Value.string (⟨#[107]⟩ : ByteArray)), (.string (⟨#[115]⟩ : ByteArray)), (.int .i64 x0), (.bool x1), (.string x2), .string ⟨#[]⟩] = 6 then (if List.all [(Value.string (⟨#[107]⟩ : ByteArray)), (.string (⟨#[115]⟩ : ByteArray)), (.int .i64 x0), (.bool x1), (.string x2), .string ⟨#[]⟩] one = true then (if 0 + List.length [(Value.string (⟨#[107]⟩ : ByteArray)), (.string (⟨#[115]⟩ : ByteArray)), (.int .i64 x0), (.bool x1), (.string x2), .string ⟨#[]⟩] ≤ List.length k6 then (K (upd (upd (upd (upd (upd (upd (upd (upd e 6 (sR 6 0)) 2 (sV (.string x2))) 1 (sB x1)) 0 (sI x0)) 7 (sI x0)) 8 (sB x1)) 9 (sV (.string x2))) 10 (sV (.agg ⟨[(.string (⟨#[107]⟩ : ByteArray)), (.string (⟨#[115]⟩ : ByteArray)), (.int .i64 x0), (.bool x1), (.string x2), .string ⟨#[]⟩]⟩))) (upd (upd V0 6 (29, k6)) 6 (29, (splice k6 0 [(.string (⟨#[107]⟩ : ByteArray)), (.string (⟨#[115]⟩ : ByteArray)), (.int .i64 x0), (.bool x1), (.string x2), .string ⟨#[]⟩]))) hp) else False) else False) else False) := by kernel_rfl
def F72 (x0 : Int) (x1 : Bool) (x2 : ByteArray) (hp : HP) (K : Value → HP → Prop) : Prop :=
  (if List.length [(Value.string (⟨#[107]⟩ : ByteArray)), (.string (⟨#[115]⟩ : ByteArray)), (.int .i64 x0), (.bool x1), (.string x2), .string ⟨#[]⟩] = 6 then (if List.all [(Value.string (⟨#[107]⟩ : ByteArray)), (.string (⟨#[115]⟩ : ByteArray)), (.int .i64 x0), (.bool x1), (.string x2), .string ⟨#[]⟩] one = true then (if 0 + List.length [(Value.string (⟨#[107]⟩ : ByteArray)), (.string (⟨#[115]⟩ : ByteArray)), (.int .i64 x0), (.bool x1), (.string x2), .string ⟨#[]⟩] ≤ List.length [(Value.string ⟨#[]⟩), .string ⟨#[]⟩, .int .i64 0, .bool false, .string ⟨#[]⟩, .string ⟨#[]⟩] then (ldL (cellsN (splice [.string ⟨#[]⟩, .string ⟨#[]⟩, .int .i64 0, .bool false, .string ⟨#[]⟩, .string ⟨#[]⟩] 0 [(.string (⟨#[107]⟩ : ByteArray)), (.string (⟨#[115]⟩ : ByteArray)), (.int .i64 x0), (.bool x1), (.string x2), .string ⟨#[]⟩]) 0 6) fun l_1 => (K (.agg ⟨l_1⟩) hp)) else False) else False) else False)
noncomputable def F72_code : Code := (.seq (.region 0 (opsAt Try.f72 [0]) false) (.seq (.region 1 (opsAt Try.f72 [1, 0]) false) .ret))
theorem F72_body : Try.f72.body = some F72_code := by kernel_rfl
theorem F72_ok (x0 : Int) (x1 : Bool) (x2 : ByteArray) (hp : HP) (K : Value → HP → Prop) (h : F72 x0 x1 x2 hp K) : CF Try.prog 72 [(.int .i64 x0), (.bool x1), (.string x2)] hp K := by
 refine .inl ⟨by kernel_rfl, AC.intro (N := 11) Try.func72 F72_body rfl (Nat.le_of_ble_eq_true rfl) ?_⟩
 unfold F72 at h
 unfold F72_code
 refine AWP.seq' ?_
 refine AWP.rgn (F72_r0 (upd (upd (upd E0 2 (sV (.string x2))) 1 (sB x1)) 0 (sI x0))  hp _) ?_ (Ru 0 (Ru 1 (Ru 2 Rn))) (Sc rfl (Sc rfl (Sc rfl Sn))) Sn
 refine AWP.seq' ?_
 refine AWP.rgn (F72_r1 E0 x0 x1 x2 [.string ⟨#[]⟩, .string ⟨#[]⟩, .int .i64 0, .bool false, .string ⟨#[]⟩, .string ⟨#[]⟩] hp _) ?_ (Ru 0 (Ru 1 (Ru 2 (RefOk.p 6 6 0 Rn (fun e => by cases e))))) (Sc rfl (Sc rfl (Sc rfl (Sc rfl Sn)))) (Sc rfl Sn)
 refine mf h fun h => mf h fun h => mf h fun h => ?_
 refine AWP.ret ?_
 exact h
end
-- 24 interpreter/interpreterlaw16.turn
section
variable (e : Env) (x0 x1 x5 : Int) (hp : HP) (K : Env → PV → HP → Prop)
abbrev R24 (p : List Nat) (n : Nat) := RW Try.prog 15 [] (opsAt Try.f24 p) (List.range n)
theorem F24_r0 : R24 [0] 1 e V0 hp K =
    (K (upd e 4 (sI 0)) V0 hp) := by kernel_rfl
theorem F24_r1 : R24 [1, 0] 4 (upd (upd e 1 (sI x1)) 0 (sI x0)) V0 hp K =
    (((x1 : Int) ≠ 0) ∧ (K (upd (upd (upd (upd (upd (upd e 1 (sI x1)) 0 (sI x0)) 6 (sI x0)) 7 (sI x1)) 8 (sI ((Int.tmod x0 x1)))) 5 (sI ((Int.tmod x0 x1)))) V0 hp)) := by kernel_rfl
theorem F24_r2 : R24 [1, 1, 1, 0] 2 (upd e 5 (sI x5)) V0 hp K =
    (K (upd (upd (upd e 5 (sI x5)) 14 (sI x5)) 4 (sI x5)) V0 hp) := by kernel_rfl
def F24_j1 (x5 : Int) (hp : HP) (K : Value → HP → Prop) : Prop :=
  (K (.int .i64 x5) hp)
theorem F24_r3 : R24 [1, 1, 0, 0] 2 (upd e 5 (sI x5)) V0 hp K =
    (K (upd (upd (upd e 5 (sI x5)) 9 (sI x5)) 10 (sB (decide (x5 < 0)))) V0 hp) := by kernel_rfl
theorem F24_r4 : R24 [1, 1, 0, 1, 0] 4 (upd (upd e 5 (sI x5)) 1 (sI x1)) V0 hp K =
    (K (upd (upd (upd (upd (upd (upd e 5 (sI x5)) 1 (sI x1)) 11 (sI x5)) 12 (sI x1)) 13 (sI ((wr (x5 + x1))))) 5 (sI ((wr (x5 + x1))))) V0 hp) := by kernel_rfl
def F24 (x0 : Int) (x1 : Int) (hp : HP) (K : Value → HP → Prop) : Prop :=
  (((x1 : Int) ≠ 0) ∧ (ite2 (decide (((Int.tmod x0 x1) : Int) < 0)) (F24_j1 (IntKind.wrap .i64 ((Int.tmod x0 x1) + x1)) hp  K) (F24_j1 (Int.tmod x0 x1) hp  K)))
noncomputable def F24_code : Code := (.seq (.region 0 (opsAt Try.f24 [0]) false) (.seq (.region 1 (opsAt Try.f24 [1, 0]) false) (.seq (.seq (.region 2 (opsAt Try.f24 [1, 1, 0, 0]) false) (.cond (.tmp 10) (.region 3 (opsAt Try.f24 [1, 1, 0, 1, 0]) false) .skip)) (.seq (.region 4 (opsAt Try.f24 [1, 1, 1, 0]) false) .ret))))
theorem F24_body : Try.f24.body = some F24_code := by kernel_rfl
theorem F24_ok (x0 : Int) (x1 : Int) (hp : HP) (K : Value → HP → Prop) (h : F24 x0 x1 hp K) : CF Try.prog 24 [(.int .i64 x0), (.int .i64 x1)] hp K := by
 refine .inl ⟨by kernel_rfl, AC.intro (N := 15) Try.func24 F24_body rfl (Nat.le_of_ble_eq_true rfl) ?_⟩
 unfold F24 at h
 unfold F24_code
 refine AWP.seq' ?_
 refine AWP.rgn (F24_r0 (upd (upd E0 1 (sI x1)) 0 (sI x0))  hp _) ?_ (Ru 0 (Ru 1 Rn)) (Sc rfl (Sc rfl Sn)) Sn
 refine AWP.seq' ?_
 refine AWP.rgn (F24_r1 E0 x0 x1 hp _) ?_ (Ru 0 (Ru 1 Rn)) (Sc rfl (Sc rfl Sn)) Sn
 refine ⟨h.1, ?_⟩
 replace h := h.2
 refine AWP.seq (fun env pv hp => ∃ (x5 : Int), Sub (upd E0 5 (sI x5)) env ∧ Sub V0 pv ∧ (F24_j1 x5 hp  K)) ?_ ?_
 ·refine AWP.seq' ?_
  refine AWP.rgn (F24_r3 (upd E0 1 (sI x1)) (Int.tmod x0 x1) hp _) ?_ (Ru 5 (Ru 1 Rn)) (Sc rfl (Sc rfl Sn)) Sn
  refine AWP.cond (t := (decide (((Int.tmod x0 x1) : Int) < 0))) rfl (fun e => ?_) (fun e => ?_)
  ·replace h := ite2_t h e
   refine AWP.rgn (F24_r4 E0 x1 (Int.tmod x0 x1) hp _) ?_ (Ru 1 (Ru 5 Rn)) (Sc rfl (Sc rfl Sn)) Sn
   exact ⟨(wr ((Int.tmod x0 x1) + x1)), (Sc rfl Sn), Sn, h⟩
  ·replace h := ite2_f h e
   refine AWP.skip ?_
   exact ⟨(Int.tmod x0 x1), (Sc rfl Sn), Sn, h⟩
 ·rintro env pv hp ⟨x5, he, hv, h⟩
  refine AWP.sub (env' := (upd E0 5 (sI x5))) (pv' := V0) ?_ (Ru 5 Rn) he hv (HSub.refl _)
  clear he hv
  unfold F24_j1 at h
  refine AWP.seq' ?_
  refine AWP.rgn (F24_r2 E0 x5 hp _) ?_ (Ru 5 Rn) (Sc rfl Sn) Sn
  refine AWP.ret ?_
  exact h
end
end Go.Proofs

set_option linter.unusedVariables false
set_option maxRecDepth 20000
namespace Go.Proofs
open Go Go.HL

theorem C72 {x : Int} {b : Bool} {s : ByteArray} {hp : HP} {K : Value → HP → Prop} (h : K (.agg ⟨pc ⟨⟨#[107]⟩, ⟨#[115]⟩, x, b, s, ⟨#[]⟩⟩⟩) hp) : CF Try.prog 72 [.int .i64 x, .bool b, .string s] hp K := by
  refine F72_ok x b s hp K ?_
  unfold F72
  exact ifI rfl (ifI rfl (ifI (Nat.le_refl 6) h))

def pA : Pc := ⟨⟨#[107]⟩, ⟨#[115]⟩, 8, false, ⟨#[97, 98]⟩, ⟨#[]⟩⟩
def pB : Pc := ⟨⟨#[107]⟩, ⟨#[115]⟩, 0, true, ⟨#[49, 50, 51, 52, 53, 54, 55, 56]⟩, ⟨#[]⟩⟩
def stA (d : Dg) : Stt := ⟨4, 3, 1, 1, [(pA.key, d)], [(pA.src, 1)]⟩

theorem put1 {w : List Value} {b : Bool} {e : Int} {S' : Stt} (h : PutR ⟨4, 3, 0, 0, [], []⟩ pA 5 w b e S') : w = zeroW ∧ b = false ∧ e = 0 ∧ ∃ d : Dg, d.fin = 10 ∧ d.l = [pA] ∧ S' = stA d := by
  have hr : rightP pA = true := by decide
  have ht : pA.toW = 10 := by decide
  cases h with
  | arg h => exact absurd ⟨by decide, by decide⟩ h
  | form _ h => rw [hr] at h; cases h
  | again d _ _ h => cases h
  | clash d _ _ h => cases h
  | alone _ _ _ h => exact absurd h (by decide)
  | full _ _ _ h => exact absurd h (by decide)
  | state _ _ _ _ h => exact absurd h (by decide)
  | part d' last' _ _ _ _ _ htk hn =>
    rcases htk with ⟨_, _, _, _, hf, _⟩ | ⟨d, hg, _⟩
    · have : d'.fin = 10 := hf.trans ht
      omega
    · cases hg
  | none d' last' l' _ _ _ _ _ htk hp hperm hs hw =>
    rcases htk with ⟨_, h1, _, _, hf, hl⟩ | ⟨d, hg, _⟩
    · have hf' : d'.fin = 10 := hf.trans ht
      rw [hl] at hperm
      have hl' := List.perm_singleton.1 hperm
      subst h1
      exact ⟨rfl, rfl, rfl, { d' with l := l' }, hf', hl', rfl⟩
    · cases hg
  | whole d' last' l' w _ _ _ _ _ htk hp hperm hs hw =>
    rcases htk with ⟨_, h1, _, _, hf, hl⟩ | ⟨d, hg, _⟩
    · have hf' : d'.fin = 10 := hf.trans ht
      rw [hl] at hperm
      have hl' := List.perm_singleton.1 hperm
      rw [hl', hf'] at hw
      have : wholeQ 10 [pA] = none := by decide
      rw [this] at hw; cases hw
    · cases hg

theorem put2 {d : Dg} (hd : d.fin = 10) (hl : d.l = [pA]) {w : List Value} {b : Bool} {e : Int} {S' : Stt} (h : PutR (stA d) pA 9 w b e S') : w = zeroW ∧ b = false ∧ e = 0 ∧ S' = stA d := by
  have hr : rightP pA = true := by decide
  have hg : getL pA.key (stA d).D = some d := by unfold stA; simp [getL]
  have hs : d.l.any (sameP pA) = true := by rw [hl]; decide
  have no : ¬ Room (stA d) pA := by
    unfold Room; rw [hg]; simp only; rw [hs]; simp
  cases h with
  | arg h => exact absurd ⟨by decide, by decide⟩ h
  | form _ h => rw [hr] at h; cases h
  | again => exact ⟨rfl, rfl, rfl, rfl⟩
  | clash d' _ _ h h' => rw [hg] at h; cases h; rw [hs] at h'; cases h'
  | alone _ _ h => rw [hg] at h; cases h
  | full _ _ h => exact absurd h no
  | state _ _ h => exact absurd h no
  | part _ _ _ _ h => exact absurd h no
  | none _ _ _ _ _ h => exact absurd h no
  | whole _ _ _ _ _ _ h => exact absurd h no

theorem put3 {d : Dg} (hd : d.fin = 10) (hl : d.l = [pA]) {w : List Value} {b : Bool} {e : Int} {S' : Stt} (h : PutR (stA d) pB 9 w b e S') : (∃ head : ByteArray, w = wh pB.key head ⟨#[49, 50, 51, 52, 53, 54, 55, 56, 97, 98]⟩ 2) ∧ b = true ∧ e = 0 ∧ S'.n = 0 := by
  have hr : rightP pB = true := by decide
  have hg : getL pB.key (stA d).D = some d := by
    have : pB.key = pA.key := rfl
    rw [this]; unfold stA; simp [getL]
  have hs : d.l.any (sameP pB) = false := by rw [hl]; decide
  have hfit : fitsQ d.fin d.l pB = true := by rw [hl, hd]; decide
  have took : ∀ {last' : Int} {d' : Dg}, Took (stA d) pB 9 last' d' → d'.fin = 10 ∧ d'.l = [pA, pB] := by
    intro last' d' htk
    rcases htk with ⟨h, _⟩ | ⟨d2, h, _, _, _, hf, hl2⟩
    · rw [hg] at h; cases h
    · rw [hg] at h; cases h
      exact ⟨hf.trans hd, by rw [hl2, hl]; rfl⟩
  have sorted : ∀ {l' : List Pc}, l'.Perm [pA, pB] → l'.Pairwise (fun x y => ltC cfP y x = false) → l' = [pB, pA] := by
    intro l' hp hs
    have hlen := hp.length_eq
    match l', hlen with
    | [x, y], _ =>
      have hx : x = pA ∨ x = pB := by simpa using hp.mem_iff.1 (List.mem_cons_self)
      rcases hx with rfl | rfl
      · have := List.perm_singleton.1 hp.cons_inv
        simp only [List.cons.injEq, and_true] at this
        subst this
        rw [List.pairwise_cons] at hs
        have := hs.1 pB (by simp)
        have h2 : ltC cfP pB pA = true := by decide
        rw [h2] at this; cases this
      · have hp2 := hp.trans (List.Perm.swap pB pA [])
        have := List.perm_singleton.1 hp2.cons_inv
        rw [this]
  have hwq : wholeQ 10 [pB, pA] = some ⟨#[49, 50, 51, 52, 53, 54, 55, 56, 97, 98]⟩ := by decide
  cases h with
  | arg h => exact absurd ⟨by decide, by decide⟩ h
  | form _ h => rw [hr] at h; cases h
  | again d' _ _ h h' => rw [hg] at h; cases h; rw [hs] at h'; cases h'
  | clash d' _ _ h _ h' => rw [hg] at h; cases h; rw [hfit] at h'; cases h'
  | alone _ _ h => rw [hg] at h; cases h
  | full _ _ _ h =>
    have h1 : (1 : Int) ≥ 4 := h
    omega
  | state _ _ _ _ h =>
    have h0 : (getL pB.src (stA d).of).getD 0 = 1 := by
      have e : pB.src = pA.src := rfl
      rw [e]; unfold stA; simp [getL]
    rw [h0] at h
    have h1 : (1 : Int) ≥ 3 := h
    omega
  | part d' last' _ _ _ _ _ htk hn => have := (took htk).1; omega
  | none d' last' l' _ _ _ _ _ htk hp hperm hso hw =>
    obtain ⟨t1, t2⟩ := took htk
    rw [t2] at hperm
    rw [sorted hperm hso, t1, hwq] at hw; cases hw
  | whole d' last' l' w _ _ _ _ _ htk hp hperm hso hw =>
    obtain ⟨t1, t2⟩ := took htk
    rw [t2] at hperm
    have hl' := sorted hperm hso
    rw [hl', t1, hwq] at hw
    cases hw
    refine ⟨⟨headQ d'.l, by rw [t2]; rfl⟩, rfl, rfl, ?_⟩
    unfold cutS setS takeS stA
    simp only [hl']
    decide

theorem C22 {hp : HP} {K : Value → HP → Prop} (h : K (.bool true) hp) : CF Try.prog 22 [] hp K := by
  refine CF.drop (F22_ok hp _ ?_)
  unfold F22
  refine C25 (fun hn => absurd (by omega) hn) ?_
  intro _ q m mo hp1 hst
  have g1 := hst hp (HSub.refl _)
  have pp : ∀ c : Option Addr → Prop, ptrV (ptr q 0) c = c (some ⟨q, 0, none⟩) := fun _ => rfl
  simp only [tup2V_mk, intV_int, pp]
  show ite2 false _ (F22_j1 _ false _ _)
  rw [ite2_false]
  unfold F22_j1
  rw [ite2_false]
  have whl : ∀ a b c d, (wh a b c d).length = 4 := fun _ _ _ _ => rfl
  have who : ∀ a b c d, (wh a b c d).all one = true := fun _ _ _ _ => rfl
  have hz0 : [(Value.string ⟨#[]⟩), (Value.string ⟨#[]⟩), (Value.string ⟨#[]⟩), (Value.int .i64 0)] = wh e0s e0s e0s 0 := rfl
  have hsp : ∀ a b c d a' b' c' d', splice (wh a b c d) 0 (wh a' b' c' d') = wh a' b' c' d' := fun _ _ _ _ _ _ _ _ => splice_all rfl
  refine C72 ?_
  rw [aggV_agg]
  refine C26 (p := pA) g1 ⟨by decide, by decide⟩ (fun d hd => by cases hd) (fun d hd => by cases hd) ?_
  intro hp2 w b e S1 hput s1
  obtain ⟨rfl, rfl, rfl, d, hd, hl, rfl⟩ := put1 hput
  have g2 := s1 hp g1
  have hgd : ∀ {k : ByteArray} {d2 : Dg}, getL k (stA d).D = some d2 → d2 = d := by
    intro k d2 h2
    unfold stA at h2
    simp only [getL] at h2
    split at h2
    · cases h2; rfl
    · cases h2
  simp only [tup3V_mk, aggV_agg, boolV_bool, intV_int, zeroW, whl, who, if_true, hz0, Nat.zero_add]
  refine ifI (Nat.le_refl _) ?_
  refine C72 ?_
  rw [aggV_agg]
  have len1 : ∀ {k : ByteArray} (d2 : Dg), getL k (stA d).D = some d2 → d2.l.length < 19 := fun d2 h2 => by rw [hgd h2, hl]; decide
  have ri1 : ∀ {k : ByteArray} (d2 : Dg), getL k (stA d).D = some d2 → ∀ x ∈ d2.l, rightP x = true := fun d2 h2 x hx => by
    rw [hgd h2, hl, List.mem_singleton] at hx; rw [hx]; decide
  refine C26 (p := pA) g2 ⟨by decide, by decide⟩ len1 ri1 ?_
  intro hp3 w b e S2 hput s2
  obtain ⟨rfl, rfl, rfl, rfl⟩ := put2 hd hl hput
  have g3 := s2 hp g2
  simp only [tup3V_mk, aggV_agg, boolV_bool, intV_int, zeroW, whl, who, if_true, hz0, Nat.zero_add]
  refine ifI (Nat.le_refl _) ?_
  refine C72 ?_
  rw [aggV_agg]
  refine C26 (p := pB) g3 ⟨by decide, by decide⟩ len1 ri1 ?_
  intro hp4 w b e S3 hput s3
  obtain ⟨⟨head, rfl⟩, rfl, rfl, hn⟩ := put3 hd hl hput
  have g4 := s3 hp g3
  have w2 : ∀ a b c d, (wh a b c d)[2]? = some (.string c) := fun _ _ _ _ => rfl
  have w3 : ∀ a b c d, (wh a b c d)[3]? = some (.int .i64 d) := fun _ _ _ _ => rfl
  simp only [tup3V_mk, aggV_agg, boolV_bool, intV_int, whl, who, if_true, hz0, Nat.zero_add, hsp, w2, w3, ldV_some, strV_string, str_eq]
  refine ifI (Nat.le_refl _) ?_
  show ite2 true (ite2 true (ite2 true (ite2 true (ite2 true (ite2 true (ite2 _ _ _) _) _) _) _) _) _
  simp only [ite2_true, decide_eq_true_eq]
  show ite2 true _ _
  rw [ite2_true]
  show ite2 true _ _
  rw [ite2_true]
  refine C27 g4 ?_
  rw [intV_int, hn]
  exact ⟨hp, g4.1, h⟩
end Go.Proofs

set_option linter.unusedVariables false
set_option maxRecDepth 20000
namespace Go.Proofs
open Go Go.HL
-- 4 interpreter/interpreterlaw16.FragOverlaps
section
variable (e : Env) (x0 : ByteArray) (x1 x2 : Int) (x3 : ByteArray) (x9a : Option Addr) (x9n x9c : Nat) (x11 : Int) (x13 : Option Addr) (x14 x17 x20 x21 : Int) (x23 : Bool) (x24 : Int) (k10 k12 k22 : List Value) (hp : HP) (K : Env → PV → HP → Prop)
abbrev R4 (p : List Nat) (n : Nat) := RW Try.prog 171 [10, 12, 15, 18, 22, 53, 75, 77, 84, 86, 90, 92, 97, 99, 164] (opsAt Try.f4 p) (List.range n)
theorem F4_r0 : R4 [0] 1 e V0 hp K =
    (K (upd e 8 (sB false)) V0 hp) := by kernel_rfl
theorem F4_r1 : R4 [1, 0, 1, 0, 0] 2 e V0 hp K =
    (CF Try.prog 22 [] hp fun u1 h2 => (boolV u1 fun q3 => (K (upd (upd e 43 (sB q3)) 8 (sB q3)) V0 h2))) := by kernel_rfl
theorem F4_r2 : R4 [1, 1, 0] 3 (upd e 0 (sV (.string x0))) V0 hp K =
    (CF Try.prog 23 [(.string (⟨#[107]⟩ : ByteArray)), (.string (⟨#[104]⟩ : ByteArray)), (.string x0), (.int .i64 32)] hp fun u1 h2 => (slcV u1 fun a3 n4 c5 => (K (upd (upd (upd (upd e 0 (sV (.string x0))) 44 (sV (.string x0))) 45 (sS a3 n4 c5)) 9 (sS a3 n4 c5)) V0 h2))) := by kernel_rfl
theorem F4_r3 : R4 [1, 1, 1, 0] 9 (upd (upd e 9 (sS x9a x9n x9c)) 1 (sI x1)) V0 hp K =
    (CF Try.prog 24 [(.int .i64 x1), (.int .i64 (x9n : Nat))] hp fun u1 h2 => (intV u1 .i64 fun i3 => ((0 ≤ i3) ∧ (i3 < x9n) ∧ (ptrN x9a fun b4 o5 => (ldL (HP.cellN h2 b4 (o5 + Int.toNat i3 * 6) 6) fun l6 => (if List.length l6 = 6 then (if List.all l6 one = true then (if 0 + List.length l6 ≤ List.length [(Value.string ⟨#[]⟩), .string ⟨#[]⟩, .int .i64 0, .bool false, .string ⟨#[]⟩, .string ⟨#[]⟩] then (K (upd (upd (upd (upd (upd (upd (upd (upd (upd (upd e 9 (sS x9a x9n x9c)) 1 (sI x1)) 46 (sS x9a x9n x9c)) 47 (sI x1)) 48 (sS x9a x9n x9c)) 49 (sI ((x9n : Nat)))) 50 (sI i3)) 51 (sQ b4 (o5 + Int.toNat i3 * 6))) 52 (sA l6)) 10 (sR 10 0)) (upd (upd V0 10 (29, [.string ⟨#[]⟩, .string ⟨#[]⟩, .int .i64 0, .bool false, .string ⟨#[]⟩, .string ⟨#[]⟩])) 10 (29, (splice [.string ⟨#[]⟩, .string ⟨#[]⟩, .int .i64 0, .bool false, .string ⟨#[]⟩, .string ⟨#[]⟩] 0 l6))) h2) else False) else False) else False)))))) := by kernel_rfl
theorem F4_r4 : R4 [1, 1, 1, 1, 0] 7 (upd (upd e 10 (sR 10 0)) 2 (sI x2)) (upd V0 10 (29, k10)) hp K =
    (ldV (k10)[2]? fun v1 => (intV v1 .i64 fun i2 => (CF Try.prog 24 [(.int .i64 x2), (.int .i64 3)] hp fun u3 h4 => (intV u3 .i64 fun i5 => (K (upd (upd (upd (upd (upd (upd (upd (upd (upd e 10 (sR 10 0)) 2 (sI x2)) 53 (sR 10 2)) 54 (sI i2)) 55 (sI x2)) 56 (sI i5)) 57 (sI ((wr (8 * i5))))) 58 (sI ((wr (i2 + (wr (8 * i5))))))) 11 (sI ((wr (i2 + (wr (8 * i5))))))) (upd V0 10 (29, k10)) h4))))) := by kernel_rfl
theorem F4_r5 : R4 [1, 1, 1, 1, 1, 0] 10 (upd (upd e 11 (sI x11)) 3 (sV (.string x3))) (upd V0 10 (29, k10)) hp K =
    (((8 : Int) ≠ 0) ∧ ((0 ≤ ((wr ((wr (Int.tdiv (ByteArray.size x3 : Nat) 8)) * 8)) : Int)) ∧ (((wr ((wr (Int.tdiv (ByteArray.size x3 : Nat) 8)) * 8)) : Int) ≤ (ByteArray.size x3 : Nat)) ∧ (if List.length [(Value.string (⟨#[107]⟩ : ByteArray)), (.string (⟨#[115]⟩ : ByteArray)), (.int .i64 x11), (.bool true), (.string (ByteArray.extract x3 0 (Int.toNat (wr ((wr (Int.tdiv (ByteArray.size x3 : Nat) 8)) * 8))))), .string ⟨#[]⟩] = 6 then (if List.all [(Value.string (⟨#[107]⟩ : ByteArray)), (.string (⟨#[115]⟩ : ByteArray)), (.int .i64 x11), (.bool true), (.string (ByteArray.extract x3 0 (Int.toNat (wr ((wr (Int.tdiv (ByteArray.size x3 : Nat) 8)) * 8))))), .string ⟨#[]⟩] one = true then (if 0 + List.length [(Value.string (⟨#[107]⟩ : ByteArray)), (.string (⟨#[115]⟩ : ByteArray)), (.int .i64 x11), (.bool true), (.string (ByteArray.extract x3 0 (Int.toNat (wr ((wr (Int.tdiv (ByteArray.size x3 : Nat) 8)) * 8))))), .string ⟨#[]⟩] ≤ List.length [(Value.string ⟨#[]⟩), .string ⟨#[]⟩, .int .i64 0, .bool false, .string ⟨#[]⟩, .string ⟨#[]⟩] then (K (upd (upd (upd (upd (upd (upd (upd (upd (upd (upd (upd e 11 (sI x11)) 3 (sV (.string x3))) 59 (sI x11)) 60 (sV (.string x3))) 61 (sV (.string x3))) 62 (sI ((ByteArray.size x3 : Nat)))) 63 (sI ((wr (Int.tdiv (ByteArray.size x3 : Nat) 8))))) 64 (sI ((wr ((wr (Int.tdiv (ByteArray.size x3 : Nat) 8)) * 8))))) 65 (sV (.string (ByteArray.extract x3 0 (Int.toNat (wr ((wr (Int.tdiv (ByteArray.size x3 : Nat) 8)) * 8))))))) 66 (sV (.agg ⟨[(.string (⟨#[107]⟩ : ByteArray)), (.string (⟨#[115]⟩ : ByteArray)), (.int .i64 x11), (.bool true), (.string (ByteArray.extract x3 0 (Int.toNat (wr ((wr (Int.tdiv (ByteArray.size x3 : Nat) 8)) * 8))))), .string ⟨#[]⟩]⟩))) 12 (sR 12 0)) (upd (upd (upd V0 10 (29, k10)) 12 (29, [.string ⟨#[]⟩, .string ⟨#[]⟩, .int .i64 0, .bool false, .string ⟨#[]⟩, .string ⟨#[]⟩])) 12 (29, (splice [.string ⟨#[]⟩, .string ⟨#[]⟩, .int .i64 0, .bool false, .string ⟨#[]⟩, .string ⟨#[]⟩] 0 [(.string (⟨#[107]⟩ : ByteArray)), (.string (⟨#[115]⟩ : ByteArray)), (.int .i64 x11), (.bool true), (.string (ByteArray.extract x3 0 (Int.toNat (wr ((wr (Int.tdiv (ByteArray.size x3 : Nat) 8)) * 8))))), .string ⟨#[]⟩]))) hp) else False) else False) else False))) := by kernel_rfl
theorem F4_r6 : R4 [1, 1, 1, 1, 1, 1, 0] 6 e (upd (upd V0 12 (29, k12)) 10 (29, k10)) hp K =
    (CF Try.prog 25 [(.int .i64 50), (.int .i64 50)] hp fun u1 h2 => (tup2V u1 fun u3 u4 => (ptrV u3 fun p5 => (intV u4 .i64 fun i6 => (K (upd (upd (upd (upd (upd (upd e 68 (sV (.tuple ⟨[(.pointer p5), (.int .i64 i6)]⟩))) 67 (sV (.tuple ⟨[(.pointer p5), (.int .i64 i6)]⟩))) 69 (sP p5)) 70 (sI i6)) 13 (sP p5)) 14 (sI i6)) (upd (upd V0 12 (29, k12)) 10 (29, k10)) h2))))) := by kernel_rfl
theorem F4_r7 : R4 [1, 1, 1, 1, 1, 1, 1, 0, 1, 0, 0] 2 e V0 hp K =
    (CF Try.prog 22 [] hp fun u1 h2 => (boolV u1 fun q3 => (K (upd (upd e 104 (sB q3)) 8 (sB q3)) V0 h2))) := by kernel_rfl
theorem F4_r8 : R4 [1, 1, 1, 1, 1, 1, 1, 1, 0] 11 (upd (upd e 13 (sP x13)) 10 (sR 10 0)) (upd (upd V0 12 (29, k12)) 10 (29, k10)) hp K =
    (ldL (cellsN k10 0 6) fun l1 => (CF Try.prog 26 [(.pointer x13), (.agg ⟨l1⟩), (.int .i64 5)] hp fun u2 h3 => (tup3V u2 fun u4 u5 u6 => (aggV u4 fun l7 => (boolV u5 fun q8 => (intV u6 .i64 fun i9 => (if List.length l7 = 4 then (if List.all l7 one = true then (if 0 + List.length l7 ≤ List.length [(Value.string ⟨#[]⟩), .string ⟨#[]⟩, .string ⟨#[]⟩, .int .i64 0] then (K (upd (upd (upd (upd (upd (upd (upd (upd (upd (upd (upd (upd e 13 (sP x13)) 10 (sR 10 0)) 106 (sP x13)) 107 (sA l1)) 108 (sV (.tuple ⟨[(.agg ⟨l7⟩), (.bool q8), (.int .i64 i9)]⟩))) 105 (sV (.tuple ⟨[(.agg ⟨l7⟩), (.bool q8), (.int .i64 i9)]⟩))) 109 (sA l7)) 110 (sB q8)) 111 (sI i9)) 15 (sR 15 0)) 16 (sB q8)) 17 (sI i9)) (upd (upd (upd (upd V0 12 (29, k12)) 10 (29, k10)) 15 (36, [.string ⟨#[]⟩, .string ⟨#[]⟩, .string ⟨#[]⟩, .int .i64 0])) 15 (36, (splice [.string ⟨#[]⟩, .string ⟨#[]⟩, .string ⟨#[]⟩, .int .i64 0] 0 l7))) h3) else False) else False) else False))))))) := by kernel_rfl
theorem F4_r9 : R4 [1, 1, 1, 1, 1, 1, 1, 1, 1, 0, 0] 3 (upd e 13 (sP x13)) (upd V0 12 (29, k12)) hp K =
    (CF Try.prog 27 [(.pointer x13)] hp fun u1 h2 => (intV u1 .i64 fun i3 => (K (upd (upd (upd (upd e 13 (sP x13)) 112 (sP x13)) 113 (sI i3)) 114 (sB ((i3 == 0)))) (upd V0 12 (29, k12)) h2))) := by kernel_rfl
theorem F4_r10 : R4 [1, 1, 1, 1, 1, 1, 1, 1, 1, 0, 1, 0, 0] 2 e V0 hp K =
    (CF Try.prog 22 [] hp fun u1 h2 => (boolV u1 fun q3 => (K (upd (upd e 115 (sB q3)) 8 (sB q3)) V0 h2))) := by kernel_rfl
theorem F4_r11 : R4 [1, 1, 1, 1, 1, 1, 1, 1, 1, 1, 0] 11 (upd (upd e 13 (sP x13)) 12 (sR 12 0)) (upd V0 12 (29, k12)) hp K =
    (ldL (cellsN k12 0 6) fun l1 => (CF Try.prog 26 [(.pointer x13), (.agg ⟨l1⟩), (.int .i64 5)] hp fun u2 h3 => (tup3V u2 fun u4 u5 u6 => (aggV u4 fun l7 => (boolV u5 fun q8 => (intV u6 .i64 fun i9 => (if List.length l7 = 4 then (if List.all l7 one = true then (if 0 + List.length l7 ≤ List.length [(Value.string ⟨#[]⟩), .string ⟨#[]⟩, .string ⟨#[]⟩, .int .i64 0] then (K (upd (upd (upd (upd (upd (upd (upd (upd (upd (upd (upd (upd e 13 (sP x13)) 12 (sR 12 0)) 117 (sP x13)) 118 (sA l1)) 119 (sV (.tuple ⟨[(.agg ⟨l7⟩), (.bool q8), (.int .i64 i9)]⟩))) 116 (sV (.tuple ⟨[(.agg ⟨l7⟩), (.bool q8), (.int .i64 i9)]⟩))) 120 (sA l7)) 121 (sB q8)) 122 (sI i9)) 18 (sR 18 0)) 19 (sB q8)) 20 (sI i9)) (upd (upd (upd V0 12 (29, k12)) 18 (36, [.string ⟨#[]⟩, .string ⟨#[]⟩, .string ⟨#[]⟩, .int .i64 0])) 18 (36, (splice [.string ⟨#[]⟩, .string ⟨#[]⟩, .string ⟨#[]⟩, .int .i64 0] 0 l7))) h3) else False) else False) else False))))))) := by kernel_rfl
theorem F4_r12 : R4 [1, 1, 1, 1, 1, 1, 1, 1, 1, 1, 1, 0, 1, 0, 0] 1 e V0 hp K =
    (K (upd e 8 (sB false)) V0 hp) := by kernel_rfl
theorem F4_r13 : R4 [1, 1, 1, 1, 1, 1, 1, 1, 1, 1, 1, 1, 1, 0] 2 e V0 hp K =
    (CF Try.prog 22 [] hp fun u1 h2 => (boolV u1 fun q3 => (K (upd (upd e 170 (sB q3)) 8 (sB q3)) V0 h2))) := by kernel_rfl
def F4_j4 (hp : HP) (K : Value → HP → Prop) : Prop :=
  (CF Try.prog 22 [] hp fun u_53 h_54 => (boolV u_53 fun q_55 => (K (.bool q_55) h_54)))
theorem F4_r14 : R4 [1, 1, 1, 1, 1, 1, 1, 1, 1, 1, 1, 1, 0, 1, 0, 0, 0, 0] 4 (upd (upd e 21 (sI x21)) 9 (sS x9a x9n x9c)) V0 hp K =
    (K (upd (upd (upd (upd (upd (upd e 21 (sI x21)) 9 (sS x9a x9n x9c)) 134 (sI x21)) 135 (sS x9a x9n x9c)) 136 (sI ((x9n : Nat)))) 137 (sB ((decide (x21 < x9n))))) V0 hp) := by kernel_rfl
theorem F4_r15 : R4 [1, 1, 1, 1, 1, 1, 1, 1, 1, 1, 1, 1, 0, 1, 0, 0, 1, 0, 0, 0] 14 (upd (upd (upd e 21 (sI x21)) 13 (sP x13)) 9 (sS x9a x9n x9c)) V0 hp K =
    ((0 ≤ x21) ∧ (x21 < x9n) ∧ (ptrN x9a fun b1 o2 => (ldL (HP.cellN hp b1 (o2 + Int.toNat x21 * 6) 6) fun l3 => (CF Try.prog 26 [(.pointer x13), (.agg ⟨l3⟩), (.int .i64 5)] hp fun u4 h5 => (tup3V u4 fun u6 u7 u8 => (aggV u6 fun l9 => (boolV u7 fun q10 => (intV u8 .i64 fun i11 => (if List.length l9 = 4 then (if List.all l9 one = true then (if 0 + List.length l9 ≤ List.length [(Value.string ⟨#[]⟩), .string ⟨#[]⟩, .string ⟨#[]⟩, .int .i64 0] then (K (upd (upd (upd (upd (upd (upd (upd (upd (upd (upd (upd (upd (upd (upd (upd (upd e 21 (sI x21)) 13 (sP x13)) 9 (sS x9a x9n x9c)) 141 (sP x13)) 142 (sS x9a x9n x9c)) 143 (sI x21)) 144 (sQ b1 (o2 + Int.toNat x21 * 6))) 145 (sA l3)) 146 (sV (.tuple ⟨[(.agg ⟨l9⟩), (.bool q10), (.int .i64 i11)]⟩))) 140 (sV (.tuple ⟨[(.agg ⟨l9⟩), (.bool q10), (.int .i64 i11)]⟩))) 147 (sA l9)) 148 (sB q10)) 149 (sI i11)) 22 (sR 22 0)) 23 (sB q10)) 24 (sI i11)) (upd (upd V0 22 (36, [.string ⟨#[]⟩, .string ⟨#[]⟩, .string ⟨#[]⟩, .int .i64 0])) 22 (36, (splice [.string ⟨#[]⟩, .string ⟨#[]⟩, .string ⟨#[]⟩, .int .i64 0] 0 l9))) h5) else False) else False) else False))))))))) := by kernel_rfl
theorem F4_r16 : R4 [1, 1, 1, 1, 1, 1, 1, 1, 1, 1, 1, 1, 0, 1, 0, 0, 1, 0, 0, 1, 1, 0, 0] 1 e V0 hp K =
    (K (upd e 8 (sB false)) V0 hp) := by kernel_rfl
theorem F4_r17 : R4 [1, 1, 1, 1, 1, 1, 1, 1, 1, 1, 1, 1, 0, 1, 0, 0, 1, 1] 3 (upd e 21 (sI x21)) V0 hp K =
    (K (upd (upd (upd (upd e 21 (sI x21)) 138 (sI x21)) 139 (sI ((wr (x21 + 1))))) 21 (sI ((wr (x21 + 1))))) V0 hp) := by kernel_rfl
def F4_j7 (x0 : ByteArray) (x9a : Option Addr) (x9n : Nat) (x9c : Nat) (x13 : Option Addr) (x21 : Int) (x169 : Bool) (hp : HP) (I6 : (Int) → HP → Prop) (K : Value → HP → Prop) : Prop :=
  (ite2 x169 (K (.bool false) hp) (I6 (IntKind.wrap .i64 (x21 + 1)) hp))
theorem F4_r18 : R4 [1, 1, 1, 1, 1, 1, 1, 1, 1, 1, 1, 1, 0, 1, 0, 0, 1, 0, 0, 1, 0] 20 (upd (upd (upd (upd (upd (upd e 24 (sI x24)) 23 (sB x23)) 22 (sR 22 0)) 21 (sI x21)) 9 (sS x9a x9n x9c)) 0 (sV (.string x0))) (upd V0 22 (36, k22)) hp K =
    (ite2 (x24 != 0) (K (upd (upd (upd (upd (upd (upd (upd (upd (upd (upd (upd (upd (upd (upd (upd (upd (upd (upd (upd (upd (upd (upd (upd (upd (upd (upd e 24 (sI x24)) 23 (sB x23)) 22 (sR 22 0)) 21 (sI x21)) 9 (sS x9a x9n x9c)) 0 (sV (.string x0))) 150 (sI x24)) 151 (sB ((x24 != 0)))) 152 (sB true)) 153 sU) 154 sU) 155 sU) 156 sU) 157 sU) 158 sU) 159 sU) 160 (sB true)) 161 (sB true)) 162 sU) 163 sU) 164 sU) 165 sU) 166 sU) 167 sU) 168 sU) 169 (sB true)) (upd V0 22 (36, k22)) hp) (ite2 (!(x23 == (x21 == (wr ((x9n : Nat) - 1))))) (K (upd (upd (upd (upd (upd (upd (upd (upd (upd (upd (upd (upd (upd (upd (upd (upd (upd (upd (upd (upd (upd (upd (upd (upd (upd (upd e 24 (sI x24)) 23 (sB x23)) 22 (sR 22 0)) 21 (sI x21)) 9 (sS x9a x9n x9c)) 0 (sV (.string x0))) 150 (sI x24)) 151 (sB ((x24 != 0)))) 152 (sB false)) 153 (sB x23)) 154 (sI x21)) 155 (sS x9a x9n x9c)) 156 (sI ((x9n : Nat)))) 157 (sI ((wr ((x9n : Nat) - 1))))) 158 (sB ((x21 == (wr ((x9n : Nat) - 1)))))) 159 (sB ((!(x23 == (x21 == (wr ((x9n : Nat) - 1)))))))) 160 (sB ((!(x23 == (x21 == (wr ((x9n : Nat) - 1)))))))) 161 (sB true)) 162 sU) 163 sU) 164 sU) 165 sU) 166 sU) 167 sU) 168 sU) 169 (sB true)) (upd V0 22 (36, k22)) hp) (ite2 x23 (ldV (k22)[2]? fun v1 => (strV v1 fun s2 => (K (upd (upd (upd (upd (upd (upd (upd (upd (upd (upd (upd (upd (upd (upd (upd (upd (upd (upd (upd (upd (upd (upd (upd (upd (upd (upd e 24 (sI x24)) 23 (sB x23)) 22 (sR 22 0)) 21 (sI x21)) 9 (sS x9a x9n x9c)) 0 (sV (.string x0))) 150 (sI x24)) 151 (sB ((x24 != 0)))) 152 (sB false)) 153 (sB x23)) 154 (sI x21)) 155 (sS x9a x9n x9c)) 156 (sI ((x9n : Nat)))) 157 (sI ((wr ((x9n : Nat) - 1))))) 158 (sB ((x21 == (wr ((x9n : Nat) - 1)))))) 159 (sB ((!(x23 == (x21 == (wr ((x9n : Nat) - 1)))))))) 160 (sB ((!(x23 == (x21 == (wr ((x9n : Nat) - 1)))))))) 161 (sB false)) 162 (sB x23)) 163 (sB true)) 164 (sR 22 2)) 165 (sV (.string s2))) 166 (sV (.string x0))) 167 (sB ((!((ByteArray.toList s2) == (ByteArray.toList x0)))))) 168 (sB ((!((ByteArray.toList s2) == (ByteArray.toList x0)))))) 169 (sB ((!((ByteArray.toList s2) == (ByteArray.toList x0)))))) (upd V0 22 (36, k22)) hp))) (K (upd (upd (upd (upd (upd (upd (upd (upd (upd (upd (upd (upd (upd (upd (upd (upd (upd (upd (upd (upd (upd (upd (upd (upd (upd (upd e 24 (sI x24)) 23 (sB x23)) 22 (sR 22 0)) 21 (sI x21)) 9 (sS x9a x9n x9c)) 0 (sV (.string x0))) 150 (sI x24)) 151 (sB ((x24 != 0)))) 152 (sB false)) 153 (sB x23)) 154 (sI x21)) 155 (sS x9a x9n x9c)) 156 (sI ((x9n : Nat)))) 157 (sI ((wr ((x9n : Nat) - 1))))) 158 (sB ((x21 == (wr ((x9n : Nat) - 1)))))) 159 (sB ((!(x23 == (x21 == (wr ((x9n : Nat) - 1)))))))) 160 (sB ((!(x23 == (x21 == (wr ((x9n : Nat) - 1)))))))) 161 (sB false)) 162 (sB x23)) 163 (sB false)) 164 sU) 165 sU) 166 sU) 167 sU) 168 (sB false)) 169 (sB false)) (upd V0 22 (36, k22)) hp)))) := by kernel_rfl
def F4_l6 (x0 : ByteArray) (x9a : Option Addr) (x9n : Nat) (x9c : Nat) (x13 : Option Addr) (K : Value → HP → Prop) (I6 : (Int) → HP → Prop) (x21 : Int) (hp : HP) : Prop :=
  (ite2 (decide (x21 < x9n)) ((0 ≤ x21) ∧ (x21 < x9n) ∧ (ptrN x9a fun b_56 o_57 => (ldL (HP.cellN hp b_56 (o_57 + Int.toNat x21 * 6) 6) fun l_58 => (CF Try.prog 26 [(.pointer x13), (.agg ⟨l_58⟩), (.int .i64 5)] hp fun u_59 h_60 => (tup3V u_59 fun u_61 u_62 u_63 => (aggV u_61 fun l_64 => (boolV u_62 fun q_65 => (intV u_63 .i64 fun i_66 => (if List.length l_64 = 4 then (if List.all l_64 one = true then (if 0 + List.length l_64 ≤ List.length [(Value.string ⟨#[]⟩), .string ⟨#[]⟩, .string ⟨#[]⟩, .int .i64 0] then (ite2 (i_66 != 0) (F4_j7 x0 x9a x9n x9c x13 x21 true h_60 I6 K) (ite2 (!(q_65 == (x21 == (IntKind.wrap .i64 ((x9n : Nat) - 1))))) (F4_j7 x0 x9a x9n x9c x13 x21 true h_60 I6 K) (ite2 q_65 (ldV ((splice [.string ⟨#[]⟩, .string ⟨#[]⟩, .string ⟨#[]⟩, .int .i64 0] 0 l_64))[2]? fun v_67 => (strV v_67 fun s_68 => (F4_j7 x0 x9a x9n x9c x13 x21 (!((ByteArray.toList s_68) == (ByteArray.toList x0))) h_60 I6 K))) (F4_j7 x0 x9a x9n x9c x13 x21 false h_60 I6 K)))) else False) else False) else False))))))))) (F4_j4  hp  K))
def F4_j5 (x0 : ByteArray) (x9a : Option Addr) (x9n : Nat) (x9c : Nat) (x13 : Option Addr) (x21 : Int) (hp : HP) (K : Value → HP → Prop) : Prop :=
  (LoopP (σ := Int) (fun I s hp => F4_l6 x0 x9a x9n x9c x13  K I s hp) x21 hp)
theorem F4_r19 : R4 [1, 1, 1, 1, 1, 1, 1, 1, 1, 1, 1, 1, 0, 0] 1 e V0 hp K =
    (K (upd e 21 (sI 0)) V0 hp) := by kernel_rfl
def F4_j3 (x0 : ByteArray) (x9a : Option Addr) (x9n : Nat) (x9c : Nat) (x13 : Option Addr) (x133 : Bool) (hp : HP) (K : Value → HP → Prop) : Prop :=
  (ite2 x133 (K (.bool false) hp) (F4_j5 x0 x9a x9n x9c x13 0 hp  K))
theorem F4_r20 : R4 [1, 1, 1, 1, 1, 1, 1, 1, 1, 1, 1, 0, 0] 11 (upd (upd (upd e 20 (sI x20)) 17 (sI x17)) 13 (sP x13)) V0 hp K =
    (ite2 (x17 != 0) (K (upd (upd (upd (upd (upd (upd (upd (upd (upd (upd (upd (upd (upd (upd e 20 (sI x20)) 17 (sI x17)) 13 (sP x13)) 123 (sI x17)) 124 (sB ((x17 != 0)))) 125 (sB true)) 126 sU) 127 sU) 128 (sB true)) 129 (sB true)) 130 sU) 131 sU) 132 sU) 133 (sB true)) V0 hp) (ite2 (x20 != 5) (K (upd (upd (upd (upd (upd (upd (upd (upd (upd (upd (upd (upd (upd (upd e 20 (sI x20)) 17 (sI x17)) 13 (sP x13)) 123 (sI x17)) 124 (sB ((x17 != 0)))) 125 (sB false)) 126 (sI x20)) 127 (sB ((x20 != 5)))) 128 (sB ((x20 != 5)))) 129 (sB true)) 130 sU) 131 sU) 132 sU) 133 (sB true)) V0 hp) (CF Try.prog 27 [(.pointer x13)] hp fun u1 h2 => (intV u1 .i64 fun i3 => (K (upd (upd (upd (upd (upd (upd (upd (upd (upd (upd (upd (upd (upd (upd e 20 (sI x20)) 17 (sI x17)) 13 (sP x13)) 123 (sI x17)) 124 (sB ((x17 != 0)))) 125 (sB false)) 126 (sI x20)) 127 (sB ((x20 != 5)))) 128 (sB ((x20 != 5)))) 129 (sB false)) 130 (sP x13)) 131 (sI i3)) 132 (sB ((i3 != 0)))) 133 (sB ((i3 != 0)))) V0 h2))))) := by kernel_rfl
def F4_j2 (x0 : ByteArray) (x9a : Option Addr) (x9n : Nat) (x9c : Nat) (x13 : Option Addr) (x103 : Bool) (k10 : List Value) (k12 : List Value) (hp : HP) (K : Value → HP → Prop) : Prop :=
  (ite2 x103 (CF Try.prog 22 [] hp fun u_26 h_27 => (boolV u_26 fun q_28 => (K (.bool q_28) h_27))) (ldL (cellsN k10 0 6) fun l_29 => (CF Try.prog 26 [(.pointer x13), (.agg ⟨l_29⟩), (.int .i64 5)] hp fun u_30 h_31 => (tup3V u_30 fun u_32 u_33 u_34 => (aggV u_32 fun l_35 => (boolV u_33 fun q_36 => (intV u_34 .i64 fun i_37 => (if List.length l_35 = 4 then (if List.all l_35 one = true then (if 0 + List.length l_35 ≤ List.length [(Value.string ⟨#[]⟩), .string ⟨#[]⟩, .string ⟨#[]⟩, .int .i64 0] then (CF Try.prog 27 [(.pointer x13)] h_31 fun u_38 h_39 => (intV u_38 .i64 fun i_40 => (ite2 (i_40 == 0) (CF Try.prog 22 [] h_39 fun u_41 h_42 => (boolV u_41 fun q_43 => (K (.bool q_43) h_42))) (ldL (cellsN k12 0 6) fun l_44 => (CF Try.prog 26 [(.pointer x13), (.agg ⟨l_44⟩), (.int .i64 5)] h_39 fun u_45 h_46 => (tup3V u_45 fun u_47 u_48 u_49 => (aggV u_47 fun l_50 => (boolV u_48 fun q_51 => (intV u_49 .i64 fun i_52 => (if List.length l_50 = 4 then (if List.all l_50 one = true then (if 0 + List.length l_50 ≤ List.length [(Value.string ⟨#[]⟩), .string ⟨#[]⟩, .string ⟨#[]⟩, .int .i64 0] then (ite2 (i_37 != 0) (F4_j3 x0 x9a x9n x9c x13 true h_46  K) (ite2 (i_52 != 5) (F4_j3 x0 x9a x9n x9c x13 true h_46  K) (CF Try.prog 27 [(.pointer x13)] h_46 fun u_69 h_70 => (intV u_69 .i64 fun i_71 => (F4_j3 x0 x9a x9n x9c x13 (i_71 != 0) h_70  K))))) else False) else False) else False)))))))))) else False) else False) else False))))))))
theorem F4_r21 : R4 [1, 1, 1, 1, 1, 1, 1, 0, 0] 33 (upd (upd (upd (upd e 14 (sI x14)) 12 (sR 12 0)) 11 (sI x11)) 10 (sR 10 0)) (upd (upd V0 12 (29, k12)) 10 (29, k10)) hp K =
    (ite2 (x14 != 0) (K (upd (upd (upd (upd (upd (upd (upd (upd (upd (upd (upd (upd (upd (upd (upd (upd (upd (upd (upd (upd (upd (upd (upd (upd (upd (upd (upd (upd (upd (upd (upd (upd (upd (upd (upd (upd (upd e 14 (sI x14)) 12 (sR 12 0)) 11 (sI x11)) 10 (sR 10 0)) 71 (sI x14)) 72 (sB ((x14 != 0)))) 73 (sB true)) 74 sU) 75 sU) 76 sU) 77 sU) 78 sU) 79 sU) 80 sU) 81 sU) 82 (sB true)) 83 (sB true)) 84 sU) 85 sU) 86 sU) 87 sU) 88 sU) 89 sU) 90 sU) 91 sU) 92 sU) 93 sU) 94 sU) 95 sU) 96 sU) 97 sU) 98 sU) 99 sU) 100 sU) 101 sU) 102 sU) 103 (sB true)) (upd (upd V0 12 (29, k12)) 10 (29, k10)) hp) (ldV (k10)[2]? fun v1 => (intV v1 .i64 fun i2 => (ldV (k10)[4]? fun v3 => (strV v3 fun s4 => (ite2 (decide (x11 ≥ (wr (i2 + (ByteArray.size s4 : Nat))))) (K (upd (upd (upd (upd (upd (upd (upd (upd (upd (upd (upd (upd (upd (upd (upd (upd (upd (upd (upd (upd (upd (upd (upd (upd (upd (upd (upd (upd (upd (upd (upd (upd (upd (upd (upd (upd (upd e 14 (sI x14)) 12 (sR 12 0)) 11 (sI x11)) 10 (sR 10 0)) 71 (sI x14)) 72 (sB ((x14 != 0)))) 73 (sB false)) 74 (sI x11)) 75 (sR 10 2)) 76 (sI i2)) 77 (sR 10 4)) 78 (sV (.string s4))) 79 (sI ((ByteArray.size s4 : Nat)))) 80 (sI ((wr (i2 + (ByteArray.size s4 : Nat)))))) 81 (sB ((decide (x11 ≥ (wr (i2 + (ByteArray.size s4 : Nat)))))))) 82 (sB ((decide (x11 ≥ (wr (i2 + (ByteArray.size s4 : Nat)))))))) 83 (sB true)) 84 sU) 85 sU) 86 sU) 87 sU) 88 sU) 89 sU) 90 sU) 91 sU) 92 sU) 93 sU) 94 sU) 95 sU) 96 sU) 97 sU) 98 sU) 99 sU) 100 sU) 101 sU) 102 sU) 103 (sB true)) (upd (upd V0 12 (29, k12)) 10 (29, k10)) hp) (ldV (k12)[2]? fun v5 => (intV v5 .i64 fun i6 => (ldV (k10)[2]? fun v7 => (intV v7 .i64 fun i8 => (ite2 (i6 == i8) (ldV (k12)[3]? fun v9 => (boolV v9 fun q10 => (ldV (k10)[3]? fun v11 => (boolV v11 fun q12 => (ite2 (q10 == q12) (ldV (k12)[4]? fun v13 => (strV v13 fun s14 => (ldV (k10)[4]? fun v15 => (strV v15 fun s16 => (K (upd (upd (upd (upd (upd (upd (upd (upd (upd (upd (upd (upd (upd (upd (upd (upd (upd (upd (upd (upd (upd (upd (upd (upd (upd (upd (upd (upd (upd (upd (upd (upd (upd (upd (upd (upd (upd e 14 (sI x14)) 12 (sR 12 0)) 11 (sI x11)) 10 (sR 10 0)) 71 (sI x14)) 72 (sB ((x14 != 0)))) 73 (sB false)) 74 (sI x11)) 75 (sR 10 2)) 76 (sI i2)) 77 (sR 10 4)) 78 (sV (.string s4))) 79 (sI ((ByteArray.size s4 : Nat)))) 80 (sI ((wr (i2 + (ByteArray.size s4 : Nat)))))) 81 (sB ((decide (x11 ≥ (wr (i2 + (ByteArray.size s4 : Nat)))))))) 82 (sB ((decide (x11 ≥ (wr (i2 + (ByteArray.size s4 : Nat)))))))) 83 (sB false)) 84 (sR 12 2)) 85 (sI i6)) 86 (sR 10 2)) 87 (sI i8)) 88 (sB ((i6 == i8)))) 89 (sB true)) 90 (sR 12 3)) 91 (sB q10)) 92 (sR 10 3)) 93 (sB q12)) 94 (sB ((q10 == q12)))) 95 (sB ((q10 == q12)))) 96 (sB true)) 97 (sR 12 4)) 98 (sV (.string s14))) 99 (sR 10 4)) 100 (sV (.string s16))) 101 (sB (((ByteArray.toList s14) == (ByteArray.toList s16))))) 102 (sB (((ByteArray.toList s14) == (ByteArray.toList s16))))) 103 (sB (((ByteArray.toList s14) == (ByteArray.toList s16))))) (upd (upd V0 12 (29, k12)) 10 (29, k10)) hp))))) (K (upd (upd (upd (upd (upd (upd (upd (upd (upd (upd (upd (upd (upd (upd (upd (upd (upd (upd (upd (upd (upd (upd (upd (upd (upd (upd (upd (upd (upd (upd (upd (upd (upd (upd (upd (upd (upd e 14 (sI x14)) 12 (sR 12 0)) 11 (sI x11)) 10 (sR 10 0)) 71 (sI x14)) 72 (sB ((x14 != 0)))) 73 (sB false)) 74 (sI x11)) 75 (sR 10 2)) 76 (sI i2)) 77 (sR 10 4)) 78 (sV (.string s4))) 79 (sI ((ByteArray.size s4 : Nat)))) 80 (sI ((wr (i2 + (ByteArray.size s4 : Nat)))))) 81 (sB ((decide (x11 ≥ (wr (i2 + (ByteArray.size s4 : Nat)))))))) 82 (sB ((decide (x11 ≥ (wr (i2 + (ByteArray.size s4 : Nat)))))))) 83 (sB false)) 84 (sR 12 2)) 85 (sI i6)) 86 (sR 10 2)) 87 (sI i8)) 88 (sB ((i6 == i8)))) 89 (sB true)) 90 (sR 12 3)) 91 (sB q10)) 92 (sR 10 3)) 93 (sB q12)) 94 (sB ((q10 == q12)))) 95 (sB ((q10 == q12)))) 96 (sB false)) 97 sU) 98 sU) 99 sU) 100 sU) 101 sU) 102 (sB false)) 103 (sB false)) (upd (upd V0 12 (29, k12)) 10 (29, k10)) hp)))))) (K (upd (upd (upd (upd (upd (upd (upd (upd (upd (upd (upd (upd (upd (upd (upd (upd (upd (upd (upd (upd (upd (upd (upd (upd (upd (upd (upd (upd (upd (upd (upd (upd (upd (upd (upd (upd (upd e 14 (sI x14)) 12 (sR 12 0)) 11 (sI x11)) 10 (sR 10 0)) 71 (sI x14)) 72 (sB ((x14 != 0)))) 73 (sB false)) 74 (sI x11)) 75 (sR 10 2)) 76 (sI i2)) 77 (sR 10 4)) 78 (sV (.string s4))) 79 (sI ((ByteArray.size s4 : Nat)))) 80 (sI ((wr (i2 + (ByteArray.size s4 : Nat)))))) 81 (sB ((decide (x11 ≥ (wr (i2 + (ByteArray.size s4 : Nat)))))))) 82 (sB ((decide (x11 ≥ (wr (i2 + (ByteArray.size s4 : Nat)))))))) 83 (sB false)) 84 (sR 12 2)) 85 (sI i6)) 86 (sR 10 2)) 87 (sI i8)) 88 (sB ((i6 == i8)))) 89 (sB false)) 90 sU) 91 sU) 92 sU) 93 sU) 94 sU) 95 (sB false)) 96 (sB false)) 97 sU) 98 sU) 99 sU) 100 sU) 101 sU) 102 (sB false)) 103 (sB false)) (upd (upd V0 12 (29, k12)) 10 (29, k10)) hp)))))))))))) := by kernel_rfl
def F4_j1 (x0 : ByteArray) (x1 : Int) (x2 : Int) (x3 : ByteArray) (x42 : Bool) (hp : HP) (K : Value → HP → Prop) : Prop :=
  (ite2 x42 (CF Try.prog 22 [] hp fun u_1 h_2 => (boolV u_1 fun q_3 => (K (.bool q_3) h_2))) (CF Try.prog 23 [(.string (⟨#[107]⟩ : ByteArray)), (.string (⟨#[104]⟩ : ByteArray)), (.string x0), (.int .i64 32)] hp fun u_4 h_5 => (slcV u_4 fun a_6 n_7 c_8 => (CF Try.prog 24 [(.int .i64 x1), (.int .i64 (n_7 : Nat))] h_5 fun u_9 h_10 => (intV u_9 .i64 fun i_11 => ((0 ≤ i_11) ∧ (i_11 < n_7) ∧ (ptrN a_6 fun b_12 o_13 => (ldL (HP.cellN h_10 b_12 (o_13 + Int.toNat i_11 * 6) 6) fun l_14 => (if List.length l_14 = 6 then (if List.all l_14 one = true then (if 0 + List.length l_14 ≤ List.length [(Value.string ⟨#[]⟩), .string ⟨#[]⟩, .int .i64 0, .bool false, .string ⟨#[]⟩, .string ⟨#[]⟩] then (ldV ((splice [.string ⟨#[]⟩, .string ⟨#[]⟩, .int .i64 0, .bool false, .string ⟨#[]⟩, .string ⟨#[]⟩] 0 l_14))[2]? fun v_15 => (intV v_15 .i64 fun i_16 => (CF Try.prog 24 [(.int .i64 x2), (.int .i64 3)] h_10 fun u_17 h_18 => (intV u_17 .i64 fun i_19 => (((8 : Int) ≠ 0) ∧ ((0 ≤ ((IntKind.wrap .i64 ((IntKind.wrap .i64 (Int.tdiv (ByteArray.size x3 : Nat) 8)) * 8)) : Int)) ∧ (((IntKind.wrap .i64 ((IntKind.wrap .i64 (Int.tdiv (ByteArray.size x3 : Nat) 8)) * 8)) : Int) ≤ (ByteArray.size x3 : Nat)) ∧ (if List.length [(Value.string (⟨#[107]⟩ : ByteArray)), (.string (⟨#[115]⟩ : ByteArray)), (.int .i64 (IntKind.wrap .i64 (i_16 + (IntKind.wrap .i64 (8 * i_19))))), (.bool true), (.string (ByteArray.extract x3 0 (Int.toNat (IntKind.wrap .i64 ((IntKind.wrap .i64 (Int.tdiv (ByteArray.size x3 : Nat) 8)) * 8))))), .string ⟨#[]⟩] = 6 then (if List.all [(Value.string (⟨#[107]⟩ : ByteArray)), (.string (⟨#[115]⟩ : ByteArray)), (.int .i64 (IntKind.wrap .i64 (i_16 + (IntKind.wrap .i64 (8 * i_19))))), (.bool true), (.string (ByteArray.extract x3 0 (Int.toNat (IntKind.wrap .i64 ((IntKind.wrap .i64 (Int.tdiv (ByteArray.size x3 : Nat) 8)) * 8))))), .string ⟨#[]⟩] one = true then (if 0 + List.length [(Value.string (⟨#[107]⟩ : ByteArray)), (.string (⟨#[115]⟩ : ByteArray)), (.int .i64 (IntKind.wrap .i64 (i_16 + (IntKind.wrap .i64 (8 * i_19))))), (.bool true), (.string (ByteArray.extract x3 0 (Int.toNat (IntKind.wrap .i64 ((IntKind.wrap .i64 (Int.tdiv (ByteArray.size x3 : Nat) 8)) * 8))))), .string ⟨#[]⟩] ≤ List.length [(Value.string ⟨#[]⟩), .string ⟨#[]⟩, .int .i64 0, .bool false, .string ⟨#[]⟩, .string ⟨#[]⟩] then (CF Try.prog 25 [(.int .i64 50), (.int .i64 50)] h_18 fun u_20 h_21 => (tup2V u_20 fun u_22 u_23 => (ptrV u_22 fun p_24 => (intV u_23 .i64 fun i_25 => (ite2 (i_25 != 0) (F4_j2 x0 a_6 n_7 c_8 p_24 true (splice [.string ⟨#[]⟩, .string ⟨#[]⟩, .int .i64 0, .bool false, .string ⟨#[]⟩, .string ⟨#[]⟩] 0 l_14) (splice [.string ⟨#[]⟩, .string ⟨#[]⟩, .int .i64 0, .bool false, .string ⟨#[]⟩, .string ⟨#[]⟩] 0 [(.string (⟨#[107]⟩ : ByteArray)), (.string (⟨#[115]⟩ : ByteArray)), (.int .i64 (IntKind.wrap .i64 (i_16 + (IntKind.wrap .i64 (8 * i_19))))), (.bool true), (.string (ByteArray.extract x3 0 (Int.toNat (IntKind.wrap .i64 ((IntKind.wrap .i64 (Int.tdiv (ByteArray.size x3 : Nat) 8)) * 8))))), .string ⟨#[]⟩]) h_21  K) (ldV ((splice [.string ⟨#[]⟩, .string ⟨#[]⟩, .int .i64 0, .bool false, .string ⟨#[]⟩, .string ⟨#[]⟩] 0 l_14))[2]? fun v_72 => (intV v_72 .i64 fun i_73 => (ldV ((splice [.string ⟨#[]⟩, .string ⟨#[]⟩, .int .i64 0, .bool false, .string ⟨#[]⟩, .string ⟨#[]⟩] 0 l_14))[4]? fun v_74 => (strV v_74 fun s_75 => (ite2 (decide (((IntKind.wrap .i64 (i_16 + (IntKind.wrap .i64 (8 * i_19)))) : Int) ≥ (IntKind.wrap .i64 (i_73 + (ByteArray.size s_75 : Nat))))) (F4_j2 x0 a_6 n_7 c_8 p_24 true (splice [.string ⟨#[]⟩, .string ⟨#[]⟩, .int .i64 0, .bool false, .string ⟨#[]⟩, .string ⟨#[]⟩] 0 l_14) (splice [.string ⟨#[]⟩, .string ⟨#[]⟩, .int .i64 0, .bool false, .string ⟨#[]⟩, .string ⟨#[]⟩] 0 [(.string (⟨#[107]⟩ : ByteArray)), (.string (⟨#[115]⟩ : ByteArray)), (.int .i64 (IntKind.wrap .i64 (i_16 + (IntKind.wrap .i64 (8 * i_19))))), (.bool true), (.string (ByteArray.extract x3 0 (Int.toNat (IntKind.wrap .i64 ((IntKind.wrap .i64 (Int.tdiv (ByteArray.size x3 : Nat) 8)) * 8))))), .string ⟨#[]⟩]) h_21  K) (ldV ((splice [.string ⟨#[]⟩, .string ⟨#[]⟩, .int .i64 0, .bool false, .string ⟨#[]⟩, .string ⟨#[]⟩] 0 [(.string (⟨#[107]⟩ : ByteArray)), (.string (⟨#[115]⟩ : ByteArray)), (.int .i64 (IntKind.wrap .i64 (i_16 + (IntKind.wrap .i64 (8 * i_19))))), (.bool true), (.string (ByteArray.extract x3 0 (Int.toNat (IntKind.wrap .i64 ((IntKind.wrap .i64 (Int.tdiv (ByteArray.size x3 : Nat) 8)) * 8))))), .string ⟨#[]⟩]))[2]? fun v_76 => (intV v_76 .i64 fun i_77 => (ldV ((splice [.string ⟨#[]⟩, .string ⟨#[]⟩, .int .i64 0, .bool false, .string ⟨#[]⟩, .string ⟨#[]⟩] 0 l_14))[2]? fun v_78 => (intV v_78 .i64 fun i_79 => (ite2 (i_77 == i_79) (ldV ((splice [.string ⟨#[]⟩, .string ⟨#[]⟩, .int .i64 0, .bool false, .string ⟨#[]⟩, .string ⟨#[]⟩] 0 [(.string (⟨#[107]⟩ : ByteArray)), (.string (⟨#[115]⟩ : ByteArray)), (.int .i64 (IntKind.wrap .i64 (i_16 + (IntKind.wrap .i64 (8 * i_19))))), (.bool true), (.string (ByteArray.extract x3 0 (Int.toNat (IntKind.wrap .i64 ((IntKind.wrap .i64 (Int.tdiv (ByteArray.size x3 : Nat) 8)) * 8))))), .string ⟨#[]⟩]))[3]? fun v_80 => (boolV v_80 fun q_81 => (ldV ((splice [.string ⟨#[]⟩, .string ⟨#[]⟩, .int .i64 0, .bool false, .string ⟨#[]⟩, .string ⟨#[]⟩] 0 l_14))[3]? fun v_82 => (boolV v_82 fun q_83 => (ite2 (q_81 == q_83) (ldV ((splice [.string ⟨#[]⟩, .string ⟨#[]⟩, .int .i64 0, .bool false, .string ⟨#[]⟩, .string ⟨#[]⟩] 0 [(.string (⟨#[107]⟩ : ByteArray)), (.string (⟨#[115]⟩ : ByteArray)), (.int .i64 (IntKind.wrap .i64 (i_16 + (IntKind.wrap .i64 (8 * i_19))))), (.bool true), (.string (ByteArray.extract x3 0 (Int.toNat (IntKind.wrap .i64 ((IntKind.wrap .i64 (Int.tdiv (ByteArray.size x3 : Nat) 8)) * 8))))), .string ⟨#[]⟩]))[4]? fun v_84 => (strV v_84 fun s_85 => (ldV ((splice [.string ⟨#[]⟩, .string ⟨#[]⟩, .int .i64 0, .bool false, .string ⟨#[]⟩, .string ⟨#[]⟩] 0 l_14))[4]? fun v_86 => (strV v_86 fun s_87 => (F4_j2 x0 a_6 n_7 c_8 p_24 ((ByteArray.toList s_85) == (ByteArray.toList s_87)) (splice [.string ⟨#[]⟩, .string ⟨#[]⟩, .int .i64 0, .bool false, .string ⟨#[]⟩, .string ⟨#[]⟩] 0 l_14) (splice [.string ⟨#[]⟩, .string ⟨#[]⟩, .int .i64 0, .bool false, .string ⟨#[]⟩, .string ⟨#[]⟩] 0 [(.string (⟨#[107]⟩ : ByteArray)), (.string (⟨#[115]⟩ : ByteArray)), (.int .i64 (IntKind.wrap .i64 (i_16 + (IntKind.wrap .i64 (8 * i_19))))), (.bool true), (.string (ByteArray.extract x3 0 (Int.toNat (IntKind.wrap .i64 ((IntKind.wrap .i64 (Int.tdiv (ByteArray.size x3 : Nat) 8)) * 8))))), .string ⟨#[]⟩]) h_21  K))))) (F4_j2 x0 a_6 n_7 c_8 p_24 false (splice [.string ⟨#[]⟩, .string ⟨#[]⟩, .int .i64 0, .bool false, .string ⟨#[]⟩, .string ⟨#[]⟩] 0 l_14) (splice [.string ⟨#[]⟩, .string ⟨#[]⟩, .int .i64 0, .bool false, .string ⟨#[]⟩, .string ⟨#[]⟩] 0 [(.string (⟨#[107]⟩ : ByteArray)), (.string (⟨#[115]⟩ : ByteArray)), (.int .i64 (IntKind.wrap .i64 (i_16 + (IntKind.wrap .i64 (8 * i_19))))), (.bool true), (.string (ByteArray.extract x3 0 (Int.toNat (IntKind.wrap .i64 ((IntKind.wrap .i64 (Int.tdiv (ByteArray.size x3 : Nat) 8)) * 8))))), .string ⟨#[]⟩]) h_21  K)))))) (F4_j2 x0 a_6 n_7 c_8 p_24 false (splice [.string ⟨#[]⟩, .string ⟨#[]⟩, .int .i64 0, .bool false, .string ⟨#[]⟩, .string ⟨#[]⟩] 0 l_14) (splice [.string ⟨#[]⟩, .string ⟨#[]⟩, .int .i64 0, .bool false, .string ⟨#[]⟩, .string ⟨#[]⟩] 0 [(.string (⟨#[107]⟩ : ByteArray)), (.string (⟨#[115]⟩ : ByteArray)), (.int .i64 (IntKind.wrap .i64 (i_16 + (IntKind.wrap .i64 (8 * i_19))))), (.bool true), (.string (ByteArray.extract x3 0 (Int.toNat (IntKind.wrap .i64 ((IntKind.wrap .i64 (Int.tdiv (ByteArray.size x3 : Nat) 8)) * 8))))), .string ⟨#[]⟩]) h_21  K)))))))))))))))) else False) else False) else False))))))) else False) else False) else False)))))))))
theorem F4_r22 : R4 [1, 0, 0] 18 (upd (upd e 3 (sV (.string x3))) 0 (sV (.string x0))) V0 hp K =
    (ite2 (decide (((ByteArray.size x0 : Nat) : Int) < 40)) (K (upd (upd (upd (upd (upd (upd (upd (upd (upd (upd (upd (upd (upd (upd (upd (upd (upd (upd (upd (upd e 3 (sV (.string x3))) 0 (sV (.string x0))) 25 (sV (.string x0))) 26 (sI ((ByteArray.size x0 : Nat)))) 27 (sB ((decide (((ByteArray.size x0 : Nat) : Int) < 40))))) 28 (sB true)) 29 sU) 30 sU) 31 sU) 32 (sB true)) 33 (sB true)) 34 sU) 35 sU) 36 sU) 37 (sB true)) 38 (sB true)) 39 sU) 40 sU) 41 sU) 42 (sB true)) V0 hp) (ite2 (decide (((ByteArray.size x0 : Nat) : Int) > 600)) (K (upd (upd (upd (upd (upd (upd (upd (upd (upd (upd (upd (upd (upd (upd (upd (upd (upd (upd (upd (upd e 3 (sV (.string x3))) 0 (sV (.string x0))) 25 (sV (.string x0))) 26 (sI ((ByteArray.size x0 : Nat)))) 27 (sB ((decide (((ByteArray.size x0 : Nat) : Int) < 40))))) 28 (sB false)) 29 (sV (.string x0))) 30 (sI ((ByteArray.size x0 : Nat)))) 31 (sB ((decide (((ByteArray.size x0 : Nat) : Int) > 600))))) 32 (sB ((decide (((ByteArray.size x0 : Nat) : Int) > 600))))) 33 (sB true)) 34 sU) 35 sU) 36 sU) 37 (sB true)) 38 (sB true)) 39 sU) 40 sU) 41 sU) 42 (sB true)) V0 hp) (ite2 (decide (((ByteArray.size x3 : Nat) : Int) < 8)) (K (upd (upd (upd (upd (upd (upd (upd (upd (upd (upd (upd (upd (upd (upd (upd (upd (upd (upd (upd (upd e 3 (sV (.string x3))) 0 (sV (.string x0))) 25 (sV (.string x0))) 26 (sI ((ByteArray.size x0 : Nat)))) 27 (sB ((decide (((ByteArray.size x0 : Nat) : Int) < 40))))) 28 (sB false)) 29 (sV (.string x0))) 30 (sI ((ByteArray.size x0 : Nat)))) 31 (sB ((decide (((ByteArray.size x0 : Nat) : Int) > 600))))) 32 (sB ((decide (((ByteArray.size x0 : Nat) : Int) > 600))))) 33 (sB false)) 34 (sV (.string x3))) 35 (sI ((ByteArray.size x3 : Nat)))) 36 (sB ((decide (((ByteArray.size x3 : Nat) : Int) < 8))))) 37 (sB ((decide (((ByteArray.size x3 : Nat) : Int) < 8))))) 38 (sB true)) 39 sU) 40 sU) 41 sU) 42 (sB true)) V0 hp) (K (upd (upd (upd (upd (upd (upd (upd (upd (upd (upd (upd (upd (upd (upd (upd (upd (upd (upd (upd (upd e 3 (sV (.string x3))) 0 (sV (.string x0))) 25 (sV (.string x0))) 26 (sI ((ByteArray.size x0 : Nat)))) 27 (sB ((decide (((ByteArray.size x0 : Nat) : Int) < 40))))) 28 (sB false)) 29 (sV (.string x0))) 30 (sI ((ByteArray.size x0 : Nat)))) 31 (sB ((decide (((ByteArray.size x0 : Nat) : Int) > 600))))) 32 (sB ((decide (((ByteArray.size x0 : Nat) : Int) > 600))))) 33 (sB false)) 34 (sV (.string x3))) 35 (sI ((ByteArray.size x3 : Nat)))) 36 (sB ((decide (((ByteArray.size x3 : Nat) : Int) < 8))))) 37 (sB ((decide (((ByteArray.size x3 : Nat) : Int) < 8))))) 38 (sB false)) 39 (sV (.string x3))) 40 (sI ((ByteArray.size x3 : Nat)))) 41 (sB ((decide (((ByteArray.size x3 : Nat) : Int) > 200))))) 42 (sB ((decide (((ByteArray.size x3 : Nat) : Int) > 200))))) V0 hp)))) := by kernel_rfl
def F4 (x0 : ByteArray) (x1 : Int) (x2 : Int) (x3 : ByteArray) (hp : HP) (K : Value → HP → Prop) : Prop :=
  (ite2 (decide (((ByteArray.size x0 : Nat) : Int) < 40)) (F4_j1 x0 x1 x2 x3 true hp  K) (ite2 (decide (((ByteArray.size x0 : Nat) : Int) > 600)) (F4_j1 x0 x1 x2 x3 true hp  K) (ite2 (decide (((ByteArray.size x3 : Nat) : Int) < 8)) (F4_j1 x0 x1 x2 x3 true hp  K) (F4_j1 x0 x1 x2 x3 (decide (((ByteArray.size x3 : Nat) : Int) > 200)) hp  K))))
noncomputable def F4_code : Code := (.seq (.region 0 (opsAt Try.f4 [0]) false) (.seq (.seq (.region 1 (opsAt Try.f4 [1, 0, 0]) false) (.cond (.tmp 42) (.seq (.region 2 (opsAt Try.f4 [1, 0, 1, 0, 0]) false) .ret) .skip)) (.seq (.region 3 (opsAt Try.f4 [1, 1, 0]) false) (.seq (.region 4 (opsAt Try.f4 [1, 1, 1, 0]) false) (.seq (.region 5 (opsAt Try.f4 [1, 1, 1, 1, 0]) true) (.seq (.region 6 (opsAt Try.f4 [1, 1, 1, 1, 1, 0]) false) (.seq (.region 7 (opsAt Try.f4 [1, 1, 1, 1, 1, 1, 0]) false) (.seq (.seq (.region 8 (opsAt Try.f4 [1, 1, 1, 1, 1, 1, 1, 0, 0]) false) (.cond (.tmp 103) (.seq (.region 9 (opsAt Try.f4 [1, 1, 1, 1, 1, 1, 1, 0, 1, 0, 0]) false) .ret) .skip)) (.seq (.region 10 (opsAt Try.f4 [1, 1, 1, 1, 1, 1, 1, 1, 0]) false) (.seq (.seq (.region 11 (opsAt Try.f4 [1, 1, 1, 1, 1, 1, 1, 1, 1, 0, 0]) false) (.cond (.tmp 114) (.seq (.region 12 (opsAt Try.f4 [1, 1, 1, 1, 1, 1, 1, 1, 1, 0, 1, 0, 0]) false) .ret) .skip)) (.seq (.region 13 (opsAt Try.f4 [1, 1, 1, 1, 1, 1, 1, 1, 1, 1, 0]) false) (.seq (.seq (.region 14 (opsAt Try.f4 [1, 1, 1, 1, 1, 1, 1, 1, 1, 1, 1, 0, 0]) false) (.cond (.tmp 133) (.seq (.region 15 (opsAt Try.f4 [1, 1, 1, 1, 1, 1, 1, 1, 1, 1, 1, 0, 1, 0, 0]) false) .ret) .skip)) (.seq (.seq (.region 16 (opsAt Try.f4 [1, 1, 1, 1, 1, 1, 1, 1, 1, 1, 1, 1, 0, 0]) false) (.block 0 (.loop (.seq (.seq (.region 17 (opsAt Try.f4 [1, 1, 1, 1, 1, 1, 1, 1, 1, 1, 1, 1, 0, 1, 0, 0, 0, 0]) false) (.cond (.tmp 137) .skip (.exit 0))) (.seq (.block 1 (.seq (.region 19 (opsAt Try.f4 [1, 1, 1, 1, 1, 1, 1, 1, 1, 1, 1, 1, 0, 1, 0, 0, 1, 0, 0, 0]) false) (.seq (.region 20 (opsAt Try.f4 [1, 1, 1, 1, 1, 1, 1, 1, 1, 1, 1, 1, 0, 1, 0, 0, 1, 0, 0, 1, 0]) false) (.cond (.tmp 169) (.seq (.region 21 (opsAt Try.f4 [1, 1, 1, 1, 1, 1, 1, 1, 1, 1, 1, 1, 0, 1, 0, 0, 1, 0, 0, 1, 1, 0, 0]) false) .ret) .skip)))) (.region 18 (opsAt Try.f4 [1, 1, 1, 1, 1, 1, 1, 1, 1, 1, 1, 1, 0, 1, 0, 0, 1, 1]) false)))))) (.seq (.region 22 (opsAt Try.f4 [1, 1, 1, 1, 1, 1, 1, 1, 1, 1, 1, 1, 1, 0]) false) .ret))))))))))))))
theorem F4_body : Try.f4.body = some F4_code := by kernel_rfl
theorem F4_ok (x0 : ByteArray) (x1 : Int) (x2 : Int) (x3 : ByteArray) (hp : HP) (K : Value → HP → Prop) (h : F4 x0 x1 x2 x3 hp K) : CF Try.prog 4 [(.string x0), (.int .i64 x1), (.int .i64 x2), (.string x3)] hp K := by
 refine .inl ⟨by kernel_rfl, AC.intro (N := 171) Try.func4 F4_body rfl (Nat.le_of_ble_eq_true rfl) ?_⟩
 unfold F4 at h
 unfold F4_code
 refine AWP.seq' ?_
 refine AWP.rgn (F4_r0 (upd (upd (upd (upd E0 3 (sV (.string x3))) 2 (sI x2)) 1 (sI x1)) 0 (sV (.string x0)))  hp _) ?_ (Ru 0 (Ru 1 (Ru 2 (Ru 3 Rn)))) (Sc rfl (Sc rfl (Sc rfl (Sc rfl Sn)))) Sn
 refine AWP.seq' ?_
 refine AWP.seq (fun env pv hp => ∃ (x0 : ByteArray) (x1 : Int) (x2 : Int) (x3 : ByteArray) (x42 : Bool), Sub (upd (upd (upd (upd (upd E0 42 (sB x42)) 3 (sV (.string x3))) 2 (sI x2)) 1 (sI x1)) 0 (sV (.string x0))) env ∧ Sub V0 pv ∧ (F4_j1 x0 x1 x2 x3 x42 hp  K)) ?_ ?_
 ·refine AWP.rgn (F4_r22 (upd (upd E0 2 (sI x2)) 1 (sI x1)) x0 x3 hp _) ?_ (Ru 0 (Ru 3 (Ru 1 (Ru 2 Rn)))) (Sc rfl (Sc rfl (Sc rfl (Sc rfl Sn)))) Sn
  refine mt h (fun h => ?_) (fun h => ?_)
  ·exact ⟨x0, x1, x2, x3, true, (Sc rfl (Sc rfl (Sc rfl (Sc rfl (Sc rfl Sn))))), Sn, h⟩
  ·refine mt h (fun h => ?_) (fun h => ?_)
   ·exact ⟨x0, x1, x2, x3, true, (Sc rfl (Sc rfl (Sc rfl (Sc rfl (Sc rfl Sn))))), Sn, h⟩
   ·refine mt h (fun h => ?_) (fun h => ?_)
    ·exact ⟨x0, x1, x2, x3, true, (Sc rfl (Sc rfl (Sc rfl (Sc rfl (Sc rfl Sn))))), Sn, h⟩
    ·exact ⟨x0, x1, x2, x3, (decide (((ByteArray.size x3 : Nat) : Int) > 200)), (Sc rfl (Sc rfl (Sc rfl (Sc rfl (Sc rfl Sn))))), Sn, h⟩
 ·rintro env pv hp ⟨x0, x1, x2, x3, x42, he, hv, h⟩
  refine AWP.sub (env' := (upd (upd (upd (upd (upd E0 42 (sB x42)) 3 (sV (.string x3))) 2 (sI x2)) 1 (sI x1)) 0 (sV (.string x0)))) (pv' := V0) ?_ (Ru 0 (Ru 1 (Ru 2 (Ru 3 (Ru 42 Rn))))) he hv (HSub.refl _)
  clear he hv
  unfold F4_j1 at h
  refine AWP.cond (t := x42) rfl (fun e => ?_) (fun e => ?_)
  ·replace h := ite2_t h e
   refine AWP.seq' ?_
   refine AWP.rgn (F4_r1 E0  hp _) ?_ Rn Sn Sn
   refine mC h fun u_1 h_2 h => mB h fun q_3 h => ?_
   refine AWP.ret ?_
   exact h
  ·replace h := ite2_f h e
   refine AWP.skip ?_
   refine AWP.seq' ?_
   refine AWP.rgn (F4_r2 (upd (upd (upd E0 3 (sV (.string x3))) 2 (sI x2)) 1 (sI x1)) x0 hp _) ?_ (Ru 0 (Ru 1 (Ru 2 (Ru 3 Rn)))) (Sc rfl (Sc rfl (Sc rfl (Sc rfl Sn)))) Sn
   refine mC h fun u_4 h_5 h => mS h fun a_6 n_7 c_8 h => ?_
   refine AWP.seq' ?_
   refine AWP.rgn (F4_r3 (upd (upd (upd E0 3 (sV (.string x3))) 2 (sI x2)) 0 (sV (.string x0))) x1 a_6 n_7 c_8 h_5 _) ?_ (Ru 1 (Ru 9 (Ru 0 (Ru 2 (Ru 3 Rn))))) (Sc rfl (Sc rfl (Sc rfl (Sc rfl (Sc rfl Sn))))) Sn
   refine mC h (fun u_9 h_10 h => mI h (fun i_11 h => ⟨h.1, h.2.1, mN h.2.2 fun b_12 o_13 h => mL h fun l_14 h => mf h fun h => mf h fun h => mf h fun h => ?_⟩))
   refine AWP.seq' ?_
   refine AWP.rgnD (by kernel_rfl) (by kernel_rfl) (F4_r4 (upd (upd (upd E0 9 (sS a_6 n_7 c_8)) 3 (sV (.string x3))) 0 (sV (.string x0))) x2 (splice [.string ⟨#[]⟩, .string ⟨#[]⟩, .int .i64 0, .bool false, .string ⟨#[]⟩, .string ⟨#[]⟩] 0 l_14) h_10 _) ?_ (Ru 2 (RefOk.p 10 10 0 (Ru 0 (Ru 3 (Ru 9 Rn))) (fun e => by cases e))) (Sc rfl (Sc rfl (Sc rfl (Sc rfl (Sc rfl Sn))))) (Sc rfl Sn)
   refine mV h fun v_15 h => mI h fun i_16 h => mC h fun u_17 h_18 h => mI h fun i_19 h => ?_
   refine AWP.seq' ?_
   refine AWP.rgn (F4_r5 (upd (upd (upd E0 10 (sR 10 0)) 9 (sS a_6 n_7 c_8)) 0 (sV (.string x0))) x3 (wr (i_16 + (wr (8 * i_19)))) (splice [.string ⟨#[]⟩, .string ⟨#[]⟩, .int .i64 0, .bool false, .string ⟨#[]⟩, .string ⟨#[]⟩] 0 l_14) h_18 _) ?_ (Ru 3 (Ru 11 (Ru 0 (Ru 9 (RefOk.p 10 10 0 Rn (fun e => by cases e)))))) (Sc rfl (Sc rfl (Sc rfl (Sc rfl (Sc rfl Sn))))) (Sc rfl Sn)
   refine ⟨h.1, ?_⟩
   replace h := h.2
   refine ⟨h.1, h.2.1, mf h.2.2 fun h => mf h fun h => mf h fun h => ?_⟩
   refine AWP.seq' ?_
   refine AWP.rgn (F4_r6 (upd (upd (upd (upd (upd E0 12 (sR 12 0)) 11 (sI ((wr (i_16 + (wr (8 * i_19))))))) 10 (sR 10 0)) 9 (sS a_6 n_7 c_8)) 0 (sV (.string x0))) (splice [.string ⟨#[]⟩, .string ⟨#[]⟩, .int .i64 0, .bool false, .string ⟨#[]⟩, .string ⟨#[]⟩] 0 l_14) (splice [.string ⟨#[]⟩, .string ⟨#[]⟩, .int .i64 0, .bool false, .string ⟨#[]⟩, .string ⟨#[]⟩] 0 [(.string (⟨#[107]⟩ : ByteArray)), (.string (⟨#[115]⟩ : ByteArray)), (.int .i64 (wr (i_16 + (wr (8 * i_19))))), (.bool true), (.string (ByteArray.extract x3 0 (Int.toNat (wr ((wr (Int.tdiv (ByteArray.size x3 : Nat) 8)) * 8))))), .string ⟨#[]⟩]) h_18 _) ?_ (Ru 0 (Ru 9 (RefOk.p 10 10 0 (Ru 11 (RefOk.p 12 12 0 Rn (fun e => by cases e))) (fun e => by cases e)))) (Sc rfl (Sc rfl (Sc rfl (Sc rfl (Sc rfl Sn))))) (Sc rfl (Sc rfl Sn))
   refine mC h fun u_20 h_21 h => mT h fun u_22 u_23 h => mP h fun p_24 h => mI h fun i_25 h => ?_
   refine AWP.seq' ?_
   refine AWP.seq (fun env pv hp => ∃ (x0 : ByteArray) (x9a : Option Addr) (x9n : Nat) (x9c : Nat) (x13 : Option Addr) (x103 : Bool) (k10 : List Value) (k12 : List Value), Sub (upd (upd (upd (upd (upd (upd E0 103 (sB x103)) 13 (sP x13)) 12 (sR 12 0)) 10 (sR 10 0)) 9 (sS x9a x9n x9c)) 0 (sV (.string x0))) env ∧ Sub (upd (upd V0 12 (29, k12)) 10 (29, k10)) pv ∧ (F4_j2 x0 x9a x9n x9c x13 x103 k10 k12 hp  K)) ?_ ?_
   ·refine AWP.rgn (F4_r21 (upd (upd (upd E0 13 (sP p_24)) 9 (sS a_6 n_7 c_8)) 0 (sV (.string x0))) (wr (i_16 + (wr (8 * i_19)))) i_25 (splice [.string ⟨#[]⟩, .string ⟨#[]⟩, .int .i64 0, .bool false, .string ⟨#[]⟩, .string ⟨#[]⟩] 0 l_14) (splice [.string ⟨#[]⟩, .string ⟨#[]⟩, .int .i64 0, .bool false, .string ⟨#[]⟩, .string ⟨#[]⟩] 0 [(.string (⟨#[107]⟩ : ByteArray)), (.string (⟨#[115]⟩ : ByteArray)), (.int .i64 (wr (i_16 + (wr (8 * i_19))))), (.bool true), (.string (ByteArray.extract x3 0 (Int.toNat (wr ((wr (Int.tdiv (ByteArray.size x3 : Nat) 8)) * 8))))), .string ⟨#[]⟩]) h_21 _) ?_ (RefOk.p 10 10 0 (Ru 11 (RefOk.p 12 12 0 (Ru 14 (Ru 0 (Ru 9 (Ru 13 Rn)))) (fun e => by cases e))) (fun e => by cases e)) (Sc rfl (Sc rfl (Sc rfl (Sc rfl (Sc rfl (Sc rfl (Sc rfl Sn))))))) (Sc rfl (Sc rfl Sn))
    refine mt h (fun h => ?_) (fun h => ?_)
    ·exact ⟨x0, a_6, n_7, c_8, p_24, true, (splice [.string ⟨#[]⟩, .string ⟨#[]⟩, .int .i64 0, .bool false, .string ⟨#[]⟩, .string ⟨#[]⟩] 0 l_14), (splice [.string ⟨#[]⟩, .string ⟨#[]⟩, .int .i64 0, .bool false, .string ⟨#[]⟩, .string ⟨#[]⟩] 0 [(.string (⟨#[107]⟩ : ByteArray)), (.string (⟨#[115]⟩ : ByteArray)), (.int .i64 (wr (i_16 + (wr (8 * i_19))))), (.bool true), (.string (ByteArray.extract x3 0 (Int.toNat (wr ((wr (Int.tdiv (ByteArray.size x3 : Nat) 8)) * 8))))), .string ⟨#[]⟩]), (Sc rfl (Sc rfl (Sc rfl (Sc rfl (Sc rfl (Sc rfl Sn)))))), (Sc rfl (Sc rfl Sn)), h⟩
    ·refine mV h fun v_72 h => mI h fun i_73 h => mV h fun v_74 h => ms h fun s_75 h => ?_
     refine mt h (fun h => ?_) (fun h => ?_)
     ·exact ⟨x0, a_6, n_7, c_8, p_24, true, (splice [.string ⟨#[]⟩, .string ⟨#[]⟩, .int .i64 0, .bool false, .string ⟨#[]⟩, .string ⟨#[]⟩] 0 l_14), (splice [.string ⟨#[]⟩, .string ⟨#[]⟩, .int .i64 0, .bool false, .string ⟨#[]⟩, .string ⟨#[]⟩] 0 [(.string (⟨#[107]⟩ : ByteArray)), (.string (⟨#[115]⟩ : ByteArray)), (.int .i64 (wr (i_16 + (wr (8 * i_19))))), (.bool true), (.string (ByteArray.extract x3 0 (Int.toNat (wr ((wr (Int.tdiv (ByteArray.size x3 : Nat) 8)) * 8))))), .string ⟨#[]⟩]), (Sc rfl (Sc rfl (Sc rfl (Sc rfl (Sc rfl (Sc rfl Sn)))))), (Sc rfl (Sc rfl Sn)), h⟩
     ·refine mV h fun v_76 h => mI h fun i_77 h => mV h fun v_78 h => mI h fun i_79 h => ?_
      refine mt h (fun h => ?_) (fun h => ?_)
      ·refine mV h fun v_80 h => mB h fun q_81 h => mV h fun v_82 h => mB h fun q_83 h => ?_
       refine mt h (fun h => ?_) (fun h => ?_)
       ·refine mV h fun v_84 h => ms h fun s_85 h => mV h fun v_86 h => ms h fun s_87 h => ?_
        exact ⟨x0, a_6, n_7, c_8, p_24, ((ByteArray.toList s_85) == (ByteArray.toList s_87)), (splice [.string ⟨#[]⟩, .string ⟨#[]⟩, .int .i64 0, .bool false, .string ⟨#[]⟩, .string ⟨#[]⟩] 0 l_14), (splice [.string ⟨#[]⟩, .string ⟨#[]⟩, .int .i64 0, .bool false, .string ⟨#[]⟩, .string ⟨#[]⟩] 0 [(.string (⟨#[107]⟩ : ByteArray)), (.string (⟨#[115]⟩ : ByteArray)), (.int .i64 (wr (i_16 + (wr (8 * i_19))))), (.bool true), (.string (ByteArray.extract x3 0 (Int.toNat (wr ((wr (Int.tdiv (ByteArray.size x3 : Nat) 8)) * 8))))), .string ⟨#[]⟩]), (Sc rfl (Sc rfl (Sc rfl (Sc rfl (Sc rfl (Sc rfl Sn)))))), (Sc rfl (Sc rfl Sn)), h⟩
       ·exact ⟨x0, a_6, n_7, c_8, p_24, false, (splice [.string ⟨#[]⟩, .string ⟨#[]⟩, .int .i64 0, .bool false, .string ⟨#[]⟩, .string ⟨#[]⟩] 0 l_14), (splice [.string ⟨#[]⟩, .string ⟨#[]⟩, .int .i64 0, .bool false, .string ⟨#[]⟩, .string ⟨#[]⟩] 0 [(.string (⟨#[107]⟩ : ByteArray)), (.string (⟨#[115]⟩ : ByteArray)), (.int .i64 (wr (i_16 + (wr (8 * i_19))))), (.bool true), (.string (ByteArray.extract x3 0 (Int.toNat (wr ((wr (Int.tdiv (ByteArray.size x3 : Nat) 8)) * 8))))), .string ⟨#[]⟩]), (Sc rfl (Sc rfl (Sc rfl (Sc rfl (Sc rfl (Sc rfl Sn)))))), (Sc rfl (Sc rfl Sn)), h⟩
      ·exact ⟨x0, a_6, n_7, c_8, p_24, false, (splice [.string ⟨#[]⟩, .string ⟨#[]⟩, .int .i64 0, .bool false, .string ⟨#[]⟩, .string ⟨#[]⟩] 0 l_14), (splice [.string ⟨#[]⟩, .string ⟨#[]⟩, .int .i64 0, .bool false, .string ⟨#[]⟩, .string ⟨#[]⟩] 0 [(.string (⟨#[107]⟩ : ByteArray)), (.string (⟨#[115]⟩ : ByteArray)), (.int .i64 (wr (i_16 + (wr (8 * i_19))))), (.bool true), (.string (ByteArray.extract x3 0 (Int.toNat (wr ((wr (Int.tdiv (ByteArray.size x3 : Nat) 8)) * 8))))), .string ⟨#[]⟩]), (Sc rfl (Sc rfl (Sc rfl (Sc rfl (Sc rfl (Sc rfl Sn)))))), (Sc rfl (Sc rfl Sn)), h⟩
   ·rintro env pv hp ⟨x0, x9a, x9n, x9c, x13, x103, k10, k12, he, hv, h⟩
    refine AWP.sub (env' := (upd (upd (upd (upd (upd (upd E0 103 (sB x103)) 13 (sP x13)) 12 (sR 12 0)) 10 (sR 10 0)) 9 (sS x9a x9n x9c)) 0 (sV (.string x0)))) (pv' := (upd (upd V0 12 (29, k12)) 10 (29, k10))) ?_ (Ru 0 (Ru 9 (RefOk.p 10 10 0 (RefOk.p 12 12 0 (Ru 13 (Ru 103 Rn)) (fun e => by cases e)) (fun e => by cases e)))) he hv (HSub.refl _)
    clear he hv
    unfold F4_j2 at h
    refine AWP.cond (t := x103) rfl (fun e => ?_) (fun e => ?_)
    ·replace h := ite2_t h e
     refine AWP.seq' ?_
     refine AWP.rgn (F4_r7 E0  hp _) ?_ Rn Sn Sn
     refine mC h fun u_26 h_27 h => mB h fun q_28 h => ?_
     refine AWP.ret ?_
     exact h
    ·replace h := ite2_f h e
     refine AWP.skip ?_
     refine AWP.seq' ?_
     refine AWP.rgn (F4_r8 (upd (upd (upd E0 12 (sR 12 0)) 9 (sS x9a x9n x9c)) 0 (sV (.string x0))) x13 k10 k12 hp _) ?_ (RefOk.p 10 10 0 (Ru 13 (Ru 0 (Ru 9 (RefOk.p 12 12 0 Rn (fun e => by cases e))))) (fun e => by cases e)) (Sc rfl (Sc rfl (Sc rfl (Sc rfl (Sc rfl Sn))))) (Sc rfl (Sc rfl Sn))
     refine mL h fun l_29 h => mC h fun u_30 h_31 h => mU h fun u_32 u_33 u_34 h => mA h fun l_35 h => mB h fun q_36 h => mI h fun i_37 h => mf h fun h => mf h fun h => mf h fun h => ?_
     refine AWP.seq' ?_
     refine AWP.seq' ?_
     refine AWP.rgn (F4_r9 (upd (upd (upd (upd E0 17 (sI i_37)) 12 (sR 12 0)) 9 (sS x9a x9n x9c)) 0 (sV (.string x0))) x13 k12 h_31 _) ?_ (Ru 13 (Ru 0 (Ru 9 (RefOk.p 12 12 0 (Ru 17 Rn) (fun e => by cases e))))) (Sc rfl (Sc rfl (Sc rfl (Sc rfl (Sc rfl Sn))))) (Sc rfl Sn)
     refine mC h fun u_38 h_39 h => mI h fun i_40 h => ?_
     refine AWP.cond (t := (i_40 == 0)) rfl (fun e => ?_) (fun e => ?_)
     ·replace h := ite2_t h e
      refine AWP.seq' ?_
      refine AWP.rgn (F4_r10 E0  h_39 _) ?_ Rn Sn Sn
      refine mC h fun u_41 h_42 h => mB h fun q_43 h => ?_
      refine AWP.ret ?_
      exact h
     ·replace h := ite2_f h e
      refine AWP.skip ?_
      refine AWP.seq' ?_
      refine AWP.rgn (F4_r11 (upd (upd (upd E0 17 (sI i_37)) 9 (sS x9a x9n x9c)) 0 (sV (.string x0))) x13 k12 h_39 _) ?_ (RefOk.p 12 12 0 (Ru 13 (Ru 0 (Ru 9 (Ru 17 Rn)))) (fun e => by cases e)) (Sc rfl (Sc rfl (Sc rfl (Sc rfl (Sc rfl Sn))))) (Sc rfl Sn)
      refine mL h fun l_44 h => mC h fun u_45 h_46 h => mU h fun u_47 u_48 u_49 h => mA h fun l_50 h => mB h fun q_51 h => mI h fun i_52 h => mf h fun h => mf h fun h => mf h fun h => ?_
      refine AWP.seq' ?_
      refine AWP.seq (fun env pv hp => ∃ (x0 : ByteArray) (x9a : Option Addr) (x9n : Nat) (x9c : Nat) (x13 : Option Addr) (x133 : Bool), Sub (upd (upd (upd (upd E0 133 (sB x133)) 13 (sP x13)) 9 (sS x9a x9n x9c)) 0 (sV (.string x0))) env ∧ Sub V0 pv ∧ (F4_j3 x0 x9a x9n x9c x13 x133 hp  K)) ?_ ?_
      ·refine AWP.rgn (F4_r20 (upd (upd E0 9 (sS x9a x9n x9c)) 0 (sV (.string x0))) x13 i_37 i_52 h_46 _) ?_ (Ru 13 (Ru 17 (Ru 20 (Ru 0 (Ru 9 Rn))))) (Sc rfl (Sc rfl (Sc rfl (Sc rfl (Sc rfl Sn))))) Sn
       refine mt h (fun h => ?_) (fun h => ?_)
       ·exact ⟨x0, x9a, x9n, x9c, x13, true, (Sc rfl (Sc rfl (Sc rfl (Sc rfl Sn)))), Sn, h⟩
       ·refine mt h (fun h => ?_) (fun h => ?_)
        ·exact ⟨x0, x9a, x9n, x9c, x13, true, (Sc rfl (Sc rfl (Sc rfl (Sc rfl Sn)))), Sn, h⟩
        ·refine mC h fun u_69 h_70 h => mI h fun i_71 h => ?_
         exact ⟨x0, x9a, x9n, x9c, x13, (i_71 != 0), (Sc rfl (Sc rfl (Sc rfl (Sc rfl Sn)))), Sn, h⟩
      ·rintro env pv hp ⟨x0, x9a, x9n, x9c, x13, x133, he, hv, h⟩
       refine AWP.sub (env' := (upd (upd (upd (upd E0 133 (sB x133)) 13 (sP x13)) 9 (sS x9a x9n x9c)) 0 (sV (.string x0)))) (pv' := V0) ?_ (Ru 0 (Ru 9 (Ru 13 (Ru 133 Rn)))) he hv (HSub.refl _)
       clear he hv
       unfold F4_j3 at h
       refine AWP.cond (t := x133) rfl (fun e => ?_) (fun e => ?_)
       ·replace h := ite2_t h e
        refine AWP.seq' ?_
        refine AWP.rgn (F4_r12 E0  hp _) ?_ Rn Sn Sn
        refine AWP.ret ?_
        exact h
       ·replace h := ite2_f h e
        refine AWP.skip ?_
        refine AWP.seq (fun env pv hp => Sub E0 env ∧ Sub V0 pv ∧ (F4_j4  hp  K)) ?_ ?_
        ·refine AWP.seq (fun env pv hp => ∃ (x0 : ByteArray) (x9a : Option Addr) (x9n : Nat) (x9c : Nat) (x13 : Option Addr) (x21 : Int), Sub (upd (upd (upd (upd E0 21 (sI x21)) 13 (sP x13)) 9 (sS x9a x9n x9c)) 0 (sV (.string x0))) env ∧ Sub V0 pv ∧ (F4_j5 x0 x9a x9n x9c x13 x21 hp  K)) ?_ ?_
         ·refine AWP.rgn (F4_r19 (upd (upd (upd E0 13 (sP x13)) 9 (sS x9a x9n x9c)) 0 (sV (.string x0)))  hp _) ?_ (Ru 0 (Ru 9 (Ru 13 Rn))) (Sc rfl (Sc rfl (Sc rfl Sn))) Sn
          exact ⟨x0, x9a, x9n, x9c, x13, 0, (Sc rfl (Sc rfl (Sc rfl (Sc rfl Sn)))), Sn, h⟩
         ·rintro env pv hp ⟨x0, x9a, x9n, x9c, x13, x21, he, hv, h⟩
          refine AWP.sub (env' := (upd (upd (upd (upd E0 21 (sI x21)) 13 (sP x13)) 9 (sS x9a x9n x9c)) 0 (sV (.string x0)))) (pv' := V0) ?_ (Ru 0 (Ru 9 (Ru 13 (Ru 21 Rn)))) he hv (HSub.refl _)
          clear he hv
          unfold F4_j5 at h
          refine AWP.block ?_
          refine AWP.loop (σ := Int) (fun I s hp => F4_l6 x0 x9a x9n x9c x13  K I s hp) (fun s => (upd (upd (upd (upd E0 21 (sI s)) 13 (sP x13)) 9 (sS x9a x9n x9c)) 0 (sV (.string x0)))) (fun s => V0) x21 h (fun s => (Ru 0 (Ru 9 (Ru 13 (Ru 21 Rn))))) (Sc rfl (Sc rfl (Sc rfl (Sc rfl Sn)))) Sn ?_
          intro I6 s hp h
          obtain ⟨x21, hs⟩ : ∃ x, x = s := ⟨s, rfl⟩
          subst hs
          replace h : F4_l6 x0 x9a x9n x9c x13  K I6 x21 hp := h
          unfold F4_l6 at h
          refine AWP.seq' ?_
          refine AWP.seq' ?_
          refine AWP.rgn (F4_r14 (upd (upd E0 13 (sP x13)) 0 (sV (.string x0))) x9a x9n x9c x21 hp _) ?_ (Ru 9 (Ru 21 (Ru 0 (Ru 13 Rn)))) (Sc rfl (Sc rfl (Sc rfl (Sc rfl Sn)))) Sn
          refine AWP.cond (t := (decide (x21 < x9n))) rfl (fun e => ?_) (fun e => ?_)
          ·replace h := ite2_t h e
           refine AWP.skip ?_
           refine AWP.seq' ?_
           refine AWP.block ?_
           refine AWP.seq' ?_
           refine AWP.rgn (F4_r15 (upd E0 0 (sV (.string x0))) x9a x9n x9c x13 x21 hp _) ?_ (Ru 9 (Ru 13 (Ru 21 (Ru 0 Rn)))) (Sc rfl (Sc rfl (Sc rfl (Sc rfl Sn)))) Sn
           refine ⟨h.1, h.2.1, mN h.2.2 fun b_56 o_57 h => mL h fun l_58 h => mC h fun u_59 h_60 h => mU h fun u_61 u_62 u_63 h => mA h fun l_64 h => mB h fun q_65 h => mI h fun i_66 h => mf h fun h => mf h fun h => mf h fun h => ?_⟩
           refine AWP.seq (fun env pv hp => ∃ (x21 : Int) (x169 : Bool), Sub (upd (upd (upd (upd (upd E0 169 (sB x169)) 21 (sI x21)) 13 (sP x13)) 9 (sS x9a x9n x9c)) 0 (sV (.string x0))) env ∧ Sub V0 pv ∧ (F4_j7 x0 x9a x9n x9c x13 x21 x169 hp I6 K)) ?_ ?_
           ·refine AWP.rgn (F4_r18 (upd E0 13 (sP x13)) x0 x9a x9n x9c x21 q_65 i_66 (splice [.string ⟨#[]⟩, .string ⟨#[]⟩, .string ⟨#[]⟩, .int .i64 0] 0 l_64) h_60 _) ?_ (Ru 0 (Ru 9 (Ru 21 (RefOk.p 22 22 0 (Ru 23 (Ru 24 (Ru 13 Rn))) (fun e => by cases e))))) (Sc rfl (Sc rfl (Sc rfl (Sc rfl (Sc rfl (Sc rfl (Sc rfl Sn))))))) (Sc rfl Sn)
            refine mt h (fun h => ?_) (fun h => ?_)
            ·exact ⟨x21, true, (Sc rfl (Sc rfl (Sc rfl (Sc rfl (Sc rfl Sn))))), Sn, h⟩
            ·refine mt h (fun h => ?_) (fun h => ?_)
             ·exact ⟨x21, true, (Sc rfl (Sc rfl (Sc rfl (Sc rfl (Sc rfl Sn))))), Sn, h⟩
             ·refine mt h (fun h => ?_) (fun h => ?_)
              ·refine mV h fun v_67 h => ms h fun s_68 h => ?_
               exact ⟨x21, (!((ByteArray.toList s_68) == (ByteArray.toList x0))), (Sc rfl (Sc rfl (Sc rfl (Sc rfl (Sc rfl Sn))))), Sn, h⟩
              ·exact ⟨x21, false, (Sc rfl (Sc rfl (Sc rfl (Sc rfl (Sc rfl Sn))))), Sn, h⟩
           ·rintro env pv hp ⟨x21, x169, he, hv, h⟩
            refine AWP.sub (env' := (upd (upd (upd (upd (upd E0 169 (sB x169)) 21 (sI x21)) 13 (sP x13)) 9 (sS x9a x9n x9c)) 0 (sV (.string x0)))) (pv' := V0) ?_ (Ru 0 (Ru 9 (Ru 13 (Ru 21 (Ru 169 Rn))))) he hv (HSub.refl _)
            clear he hv
            unfold F4_j7 at h
            refine AWP.cond (t := x169) rfl (fun e => ?_) (fun e => ?_)
            ·replace h := ite2_t h e
             refine AWP.seq' ?_
             refine AWP.rgn (F4_r16 E0  hp _) ?_ Rn Sn Sn
             refine AWP.ret ?_
             exact h
            ·replace h := ite2_f h e
             refine AWP.skip ?_
             refine AWP.rgn (F4_r17 (upd (upd (upd E0 13 (sP x13)) 9 (sS x9a x9n x9c)) 0 (sV (.string x0))) x21 hp _) ?_ (Ru 21 (Ru 0 (Ru 9 (Ru 13 Rn)))) (Sc rfl (Sc rfl (Sc rfl (Sc rfl Sn)))) Sn
             exact ⟨(wr (x21 + 1)), (Sc rfl (Sc rfl (Sc rfl (Sc rfl Sn)))), Sn, h⟩
          ·replace h := ite2_f h e
           refine AWP.exit ?_
           exact ⟨Sn, Sn, h⟩
        ·rintro env pv hp ⟨he, hv, h⟩
         refine AWP.sub (env' := E0) (pv' := V0) ?_ Rn he hv (HSub.refl _)
         clear he hv
         unfold F4_j4 at h
         refine AWP.seq' ?_
         refine AWP.rgn (F4_r13 E0  hp _) ?_ Rn Sn Sn
         refine mC h fun u_53 h_54 h => mB h fun q_55 h => ?_
         refine AWP.ret ?_
         exact h
end
-- 23 interpreter/interpreterlaw16.cut
section
variable (e : Env) (x0 x1 x2 : ByteArray) (x3 : Int) (x9a : Option Addr) (x9n x9c : Nat) (x10 : Int) (hp : HP) (K : Env → PV → HP → Prop)
abbrev R23 (p : List Nat) (n : Nat) := RW Try.prog 43 [] (opsAt Try.f23 p) (List.range n)
theorem F23_r0 : R23 [0] 1 e V0 hp K =
    (K (upd e 8 (sS none 0 0)) V0 hp) := by kernel_rfl
theorem F23_r1 : R23 [1, 0] 1 e V0 hp K =
    (K (upd e 9 (sS none 0 0)) V0 hp) := by kernel_rfl
theorem F23_r2 : R23 [1, 1, 1, 0, 0, 0, 0, 0, 0] 6 (upd (upd (upd e 10 (sI x10)) 3 (sI x3)) 2 (sV (.string x2))) V0 hp K =
    (K (upd (upd (upd (upd (upd (upd (upd (upd (upd e 10 (sI x10)) 3 (sI x3)) 2 (sV (.string x2))) 14 (sI x10)) 15 (sI x3)) 16 (sI ((wr (x10 + x3))))) 17 (sV (.string x2))) 18 (sI ((ByteArray.size x2 : Nat)))) 19 (sB ((decide (((wr (x10 + x3)) : Int) ≥ (ByteArray.size x2 : Nat)))))) V0 hp) := by kernel_rfl
theorem F23_r3 : R23 [1, 1, 1, 0, 0, 0, 0, 0, 1, 0, 0] 11 (upd (upd (upd (upd (upd e 10 (sI x10)) 9 (sS x9a x9n x9c)) 2 (sV (.string x2))) 1 (sV (.string x1))) 0 (sV (.string x0))) V0 hp K =
    ((0 ≤ x10) ∧ (x10 ≤ (ByteArray.size x2 : Nat)) ∧ (if List.length [(Value.string x0), (.string (⟨#[115]⟩ : ByteArray)), (.int .i64 x10), .bool false, (.string (ByteArray.extract x2 (Int.toNat x10) (ByteArray.size x2))), (.string x1)] = 6 then (∀ b1 : Nat, hp b1 = .none → (opS Try.prog (Builtin.append_ #[26, 26] 26 ⟨[(.slice x9a x9n x9c), (.slice (some ⟨b1, 0, none⟩) 1 1)]⟩) (HP.set hp b1 (.cells 29 (splice [.string ⟨#[]⟩, .string ⟨#[]⟩, .int .i64 0, .bool false, .string ⟨#[]⟩, .string ⟨#[]⟩] 0 [(.string x0), (.string (⟨#[115]⟩ : ByteArray)), (.int .i64 x10), .bool false, (.string (ByteArray.extract x2 (Int.toNat x10) (ByteArray.size x2))), (.string x1)]) 0)) fun u2 h3 => (slcV u2 fun a4 n5 c6 => (K (upd (upd (upd (upd (upd (upd (upd (upd (upd (upd (upd (upd (upd (upd (upd (upd e 10 (sI x10)) 9 (sS x9a x9n x9c)) 2 (sV (.string x2))) 1 (sV (.string x1))) 0 (sV (.string x0))) 20 (sS x9a x9n x9c)) 21 (sV (.string x0))) 22 (sI x10)) 23 (sV (.string x2))) 24 (sI x10)) 25 (sV (.string (ByteArray.extract x2 (Int.toNat x10) (ByteArray.size x2))))) 26 (sV (.string x1))) 27 (sV (.agg ⟨[(.string x0), (.string (⟨#[115]⟩ : ByteArray)), (.int .i64 x10), .bool false, (.string (ByteArray.extract x2 (Int.toNat x10) (ByteArray.size x2))), (.string x1)]⟩))) 28 (sV (.slice (some ⟨b1, 0, none⟩) 1 1))) 29 (sS a4 n5 c6)) 8 (sS a4 n5 c6)) V0 h3)))) else False)) := by kernel_rfl
theorem F23_r4 : R23 [1, 1, 1, 0, 0, 0, 0, 1] 14 (upd (upd (upd (upd (upd (upd e 10 (sI x10)) 9 (sS x9a x9n x9c)) 3 (sI x3)) 2 (sV (.string x2))) 1 (sV (.string x1))) 0 (sV (.string x0))) V0 hp K =
    ((0 ≤ x10) ∧ (x10 ≤ ((wr (x10 + x3)) : Int)) ∧ (((wr (x10 + x3)) : Int) ≤ (ByteArray.size x2 : Nat)) ∧ (if List.length [(Value.string x0), (.string (⟨#[115]⟩ : ByteArray)), (.int .i64 x10), (.bool true), (.string (ByteArray.extract x2 (Int.toNat x10) (Int.toNat (wr (x10 + x3))))), (.string x1)] = 6 then (∀ b1 : Nat, hp b1 = .none → (opS Try.prog (Builtin.append_ #[26, 26] 26 ⟨[(.slice x9a x9n x9c), (.slice (some ⟨b1, 0, none⟩) 1 1)]⟩) (HP.set hp b1 (.cells 29 (splice [.string ⟨#[]⟩, .string ⟨#[]⟩, .int .i64 0, .bool false, .string ⟨#[]⟩, .string ⟨#[]⟩] 0 [(.string x0), (.string (⟨#[115]⟩ : ByteArray)), (.int .i64 x10), (.bool true), (.string (ByteArray.extract x2 (Int.toNat x10) (Int.toNat (wr (x10 + x3))))), (.string x1)]) 0)) fun u2 h3 => (slcV u2 fun a4 n5 c6 => (K (upd (upd (upd (upd (upd (upd (upd (upd (upd (upd (upd (upd (upd (upd (upd (upd (upd (upd (upd (upd e 10 (sI x10)) 9 (sS x9a x9n x9c)) 3 (sI x3)) 2 (sV (.string x2))) 1 (sV (.string x1))) 0 (sV (.string x0))) 30 (sS x9a x9n x9c)) 31 (sV (.string x0))) 32 (sI x10)) 33 (sV (.string x2))) 34 (sI x10)) 35 (sI x10)) 36 (sI x3)) 37 (sI ((wr (x10 + x3))))) 38 (sV (.string (ByteArray.extract x2 (Int.toNat x10) (Int.toNat (wr (x10 + x3))))))) 39 (sV (.string x1))) 40 (sV (.agg ⟨[(.string x0), (.string (⟨#[115]⟩ : ByteArray)), (.int .i64 x10), (.bool true), (.string (ByteArray.extract x2 (Int.toNat x10) (Int.toNat (wr (x10 + x3))))), (.string x1)]⟩))) 41 (sV (.slice (some ⟨b1, 0, none⟩) 1 1))) 42 (sS a4 n5 c6)) 9 (sS a4 n5 c6)) V0 h3)))) else False)) := by kernel_rfl
theorem F23_r5 : R23 [1, 1, 1, 0, 0, 1] 4 (upd (upd e 10 (sI x10)) 3 (sI x3)) V0 hp K =
    (K (upd (upd (upd (upd (upd (upd e 10 (sI x10)) 3 (sI x3)) 11 (sI x10)) 12 (sI x3)) 13 (sI ((wr (x10 + x3))))) 10 (sI ((wr (x10 + x3))))) V0 hp) := by kernel_rfl
def F23_l2 (x0 : ByteArray) (x1 : ByteArray) (x2 : ByteArray) (x3 : Int) (K : Value → HP → Prop) (I2 : ((Option Addr) × Nat × Nat × Int) → HP → Prop) (x9a : Option Addr) (x9n : Nat) (x9c : Nat) (x10 : Int) (hp : HP) : Prop :=
  (ite2 (decide (((IntKind.wrap .i64 (x10 + x3)) : Int) ≥ (ByteArray.size x2 : Nat))) ((0 ≤ x10) ∧ (x10 ≤ (ByteArray.size x2 : Nat)) ∧ (if List.length [(Value.string x0), (.string (⟨#[115]⟩ : ByteArray)), (.int .i64 x10), .bool false, (.string (ByteArray.extract x2 (Int.toNat x10) (ByteArray.size x2))), (.string x1)] = 6 then (∀ b_1 : Nat, hp b_1 = .none → (opS Try.prog (Builtin.append_ #[26, 26] 26 ⟨[(.slice x9a x9n x9c), (.slice (some ⟨b_1, 0, none⟩) 1 1)]⟩) (HP.set hp b_1 (.cells 29 (splice [.string ⟨#[]⟩, .string ⟨#[]⟩, .int .i64 0, .bool false, .string ⟨#[]⟩, .string ⟨#[]⟩] 0 [(.string x0), (.string (⟨#[115]⟩ : ByteArray)), (.int .i64 x10), .bool false, (.string (ByteArray.extract x2 (Int.toNat x10) (ByteArray.size x2))), (.string x1)]) 0)) fun u_2 h_3 => (slcV u_2 fun a_4 n_5 c_6 => (K (.slice a_4 n_5 c_6) h_3)))) else False)) ((0 ≤ x10) ∧ (x10 ≤ ((IntKind.wrap .i64 (x10 + x3)) : Int)) ∧ (((IntKind.wrap .i64 (x10 + x3)) : Int) ≤ (ByteArray.size x2 : Nat)) ∧ (if List.length [(Value.string x0), (.string (⟨#[115]⟩ : ByteArray)), (.int .i64 x10), (.bool true), (.string (ByteArray.extract x2 (Int.toNat x10) (Int.toNat (IntKind.wrap .i64 (x10 + x3))))), (.string x1)] = 6 then (∀ b_7 : Nat, hp b_7 = .none → (opS Try.prog (Builtin.append_ #[26, 26] 26 ⟨[(.slice x9a x9n x9c), (.slice (some ⟨b_7, 0, none⟩) 1 1)]⟩) (HP.set hp b_7 (.cells 29 (splice [.string ⟨#[]⟩, .string ⟨#[]⟩, .int .i64 0, .bool false, .string ⟨#[]⟩, .string ⟨#[]⟩] 0 [(.string x0), (.string (⟨#[115]⟩ : ByteArray)), (.int .i64 x10), (.bool true), (.string (ByteArray.extract x2 (Int.toNat x10) (Int.toNat (IntKind.wrap .i64 (x10 + x3))))), (.string x1)]) 0)) fun u_8 h_9 => (slcV u_8 fun a_10 n_11 c_12 => (I2 (a_10, n_11, c_12, (IntKind.wrap .i64 (x10 + x3))) h_9)))) else False)))
def F23_j1 (x0 : ByteArray) (x1 : ByteArray) (x2 : ByteArray) (x3 : Int) (x9a : Option Addr) (x9n : Nat) (x9c : Nat) (x10 : Int) (hp : HP) (K : Value → HP → Prop) : Prop :=
  (LoopP (σ := (Option Addr) × Nat × Nat × Int) (fun I s hp => F23_l2 x0 x1 x2 x3  K I s.1 s.2.1 s.2.2.1 s.2.2.2 hp) (x9a, x9n, x9c, x10) hp)
theorem F23_r6 : R23 [1, 1, 0] 1 e V0 hp K =
    (K (upd e 10 (sI 0)) V0 hp) := by kernel_rfl
def F23 (x0 : ByteArray) (x1 : ByteArray) (x2 : ByteArray) (x3 : Int) (hp : HP) (K : Value → HP → Prop) : Prop :=
  (F23_j1 x0 x1 x2 x3 none 0 0 0 hp  K)
noncomputable def F23_code : Code := (.seq (.region 0 (opsAt Try.f23 [0]) false) (.seq (.region 1 (opsAt Try.f23 [1, 0]) false) (.seq (.region 2 (opsAt Try.f23 [1, 1, 0]) false) (.block 0 (.loop (.seq (.block 1 (.seq (.seq (.region 4 (opsAt Try.f23 [1, 1, 1, 0, 0, 0, 0, 0, 0]) false) (.cond (.tmp 19) (.seq (.region 5 (opsAt Try.f23 [1, 1, 1, 0, 0, 0, 0, 0, 1, 0, 0]) false) .ret) .skip)) (.region 6 (opsAt Try.f23 [1, 1, 1, 0, 0, 0, 0, 1]) false))) (.region 3 (opsAt Try.f23 [1, 1, 1, 0, 0, 1]) false)))))))
theorem F23_body : Try.f23.body = some F23_code := by kernel_rfl
theorem F23_ok (x0 : ByteArray) (x1 : ByteArray) (x2 : ByteArray) (x3 : Int) (hp : HP) (K : Value → HP → Prop) (h : F23 x0 x1 x2 x3 hp K) : CF Try.prog 23 [(.string x0), (.string x1), (.string x2), (.int .i64 x3)] hp K := by
 refine .inl ⟨by kernel_rfl, AC.intro (N := 43) Try.func23 F23_body rfl (Nat.le_of_ble_eq_true rfl) ?_⟩
 unfold F23 at h
 unfold F23_code
 refine AWP.seq' ?_
 refine AWP.rgn (F23_r0 (upd (upd (upd (upd E0 3 (sI x3)) 2 (sV (.string x2))) 1 (sV (.string x1))) 0 (sV (.string x0)))  hp _) ?_ (Ru 0 (Ru 1 (Ru 2 (Ru 3 Rn)))) (Sc rfl (Sc rfl (Sc rfl (Sc rfl Sn)))) Sn
 refine AWP.seq' ?_
 refine AWP.rgn (F23_r1 (upd (upd (upd (upd E0 3 (sI x3)) 2 (sV (.string x2))) 1 (sV (.string x1))) 0 (sV (.string x0)))  hp _) ?_ (Ru 0 (Ru 1 (Ru 2 (Ru 3 Rn)))) (Sc rfl (Sc rfl (Sc rfl (Sc rfl Sn)))) Sn
 refine AWP.seq (fun env pv hp => ∃ (x0 : ByteArray) (x1 : ByteArray) (x2 : ByteArray) (x3 : Int) (x9a : Option Addr) (x9n : Nat) (x9c : Nat) (x10 : Int), Sub (upd (upd (upd (upd (upd (upd E0 10 (sI x10)) 9 (sS x9a x9n x9c)) 3 (sI x3)) 2 (sV (.string x2))) 1 (sV (.string x1))) 0 (sV (.string x0))) env ∧ Sub V0 pv ∧ (F23_j1 x0 x1 x2 x3 x9a x9n x9c x10 hp  K)) ?_ ?_
 ·refine AWP.rgn (F23_r6 (upd (upd (upd (upd (upd E0 9 (sS none 0 0)) 3 (sI x3)) 2 (sV (.string x2))) 1 (sV (.string x1))) 0 (sV (.string x0)))  hp _) ?_ (Ru 0 (Ru 1 (Ru 2 (Ru 3 (Ru 9 Rn))))) (Sc rfl (Sc rfl (Sc rfl (Sc rfl (Sc rfl Sn))))) Sn
  exact ⟨x0, x1, x2, x3, none, 0, 0, 0, (Sc rfl (Sc rfl (Sc rfl (Sc rfl (Sc rfl (Sc rfl Sn)))))), Sn, h⟩
 ·rintro env pv hp ⟨x0, x1, x2, x3, x9a, x9n, x9c, x10, he, hv, h⟩
  refine AWP.sub (env' := (upd (upd (upd (upd (upd (upd E0 10 (sI x10)) 9 (sS x9a x9n x9c)) 3 (sI x3)) 2 (sV (.string x2))) 1 (sV (.string x1))) 0 (sV (.string x0)))) (pv' := V0) ?_ (Ru 0 (Ru 1 (Ru 2 (Ru 3 (Ru 9 (Ru 10 Rn)))))) he hv (HSub.refl _)
  clear he hv
  unfold F23_j1 at h
  refine AWP.block ?_
  refine AWP.loop (σ := (Option Addr) × Nat × Nat × Int) (fun I s hp => F23_l2 x0 x1 x2 x3  K I s.1 s.2.1 s.2.2.1 s.2.2.2 hp) (fun s => (upd (upd (upd (upd (upd (upd E0 10 (sI (s.2.2.2))) 9 (sV (.slice s.1 s.2.1 s.2.2.1))) 3 (sI x3)) 2 (sV (.string x2))) 1 (sV (.string x1))) 0 (sV (.string x0)))) (fun s => V0) (x9a, x9n, x9c, x10) h (fun s => (Ru 0 (Ru 1 (Ru 2 (Ru 3 (Ru 9 (Ru 10 Rn))))))) (Sc rfl (Sc rfl (Sc rfl (Sc rfl (Sc rfl (Sc rfl Sn)))))) Sn ?_
  intro I2 s hp h
  obtain ⟨x9a, x9n, x9c, x10⟩ := s
  replace h : F23_l2 x0 x1 x2 x3  K I2 x9a x9n x9c x10 hp := h
  unfold F23_l2 at h
  refine AWP.seq' ?_
  refine AWP.block ?_
  refine AWP.seq' ?_
  refine AWP.seq' ?_
  refine AWP.rgn (F23_r2 (upd (upd (upd E0 9 (sS x9a x9n x9c)) 1 (sV (.string x1))) 0 (sV (.string x0))) x2 x3 x10 hp _) ?_ (Ru 2 (Ru 3 (Ru 10 (Ru 0 (Ru 1 (Ru 9 Rn)))))) (Sc rfl (Sc rfl (Sc rfl (Sc rfl (Sc rfl (Sc rfl Sn)))))) Sn
  refine AWP.cond (t := (decide (((wr (x10 + x3)) : Int) ≥ (ByteArray.size x2 : Nat)))) rfl (fun e => ?_) (fun e => ?_)
  ·replace h := ite2_t h e
   refine AWP.seq' ?_
   refine AWP.rgn (F23_r3 E0 x0 x1 x2 x9a x9n x9c x10 hp _) ?_ (Ru 0 (Ru 1 (Ru 2 (Ru 9 (Ru 10 Rn))))) (Sc rfl (Sc rfl (Sc rfl (Sc rfl (Sc rfl Sn))))) Sn
   refine ⟨h.1, h.2.1, mf h.2.2 fun h => ?_⟩
   refine fun b_1 hb_b_1 => ?_
   replace h := h b_1 hb_b_1
   refine mO h fun u_2 h_3 h => mS h fun a_4 n_5 c_6 h => ?_
   refine AWP.ret ?_
   exact h
  ·replace h := ite2_f h e
   refine AWP.skip ?_
   refine AWP.rgn (F23_r4 E0 x0 x1 x2 x3 x9a x9n x9c x10 hp _) ?_ (Ru 0 (Ru 1 (Ru 2 (Ru 3 (Ru 9 (Ru 10 Rn)))))) (Sc rfl (Sc rfl (Sc rfl (Sc rfl (Sc rfl (Sc rfl Sn)))))) Sn
   refine ⟨h.1, h.2.1, h.2.2.1, ?_⟩
   replace h := h.2.2.2
   refine mf h fun h => ?_
   refine fun b_7 hb_b_7 => ?_
   replace h := h b_7 hb_b_7
   refine mO h fun u_8 h_9 h => mS h fun a_10 n_11 c_12 h => ?_
   refine AWP.rgn (F23_r5 (upd (upd (upd (upd E0 9 (sS a_10 n_11 c_12)) 2 (sV (.string x2))) 1 (sV (.string x1))) 0 (sV (.string x0))) x3 x10 h_9 _) ?_ (Ru 3 (Ru 10 (Ru 0 (Ru 1 (Ru 2 (Ru 9 Rn)))))) (Sc rfl (Sc rfl (Sc rfl (Sc rfl (Sc rfl (Sc rfl Sn)))))) Sn
   exact ⟨(a_10, n_11, c_12, (wr (x10 + x3))), (Sc rfl (Sc rfl (Sc rfl (Sc rfl (Sc rfl (Sc rfl Sn)))))), Sn, h⟩
end
end Go.Proofs

set_option linter.unusedVariables false
set_option maxRecDepth 20000
namespace Go.Proofs
open Go Go.HL

theorem C24 {n many : Int} {hp : HP} {K : Value → HP → Prop} (hm : 0 < many) (hb : many ≤ 1000000000) (h : ∀ r : Int, 0 ≤ r → r < many → K (.int .i64 r) hp) : CF Try.prog 24 [.int .i64 n, .int .i64 many] hp K := by
  refine F24_ok n many hp K ?_
  unfold F24
  refine ⟨by omega, ?_⟩
  have t1 := Int.tmod_lt_of_pos n hm
  have t2 := Int.lt_tmod_of_pos n hm
  generalize n.tmod many = r at *
  unfold F24_j1
  by_cases hneg : r < 0
  · rw [decide_eq_true hneg, ite2_true, w64 (by omega) (by omega)]
    exact h _ (by omega) (by omega)
  · rw [decide_eq_false hneg, ite2_false]
    exact h _ (by omega) (by omega)

/-- The i-th piece of a datagram that is cut by n bytes. -/
def cutP (key head data : ByteArray) (n i : Nat) : Pc := ⟨key, ⟨#[115]⟩, ((n * i : Nat) : Int), decide (n * i + n < data.size), data.extract (n * i) (if n * i + n < data.size then n * i + n else data.size), head⟩
def cutN' (data : ByteArray) (n : Nat) : Nat := (data.size - 1) / n + 1
def cutL (key head data : ByteArray) (n : Nat) : List Pc := (List.range (cutN' data n)).map (cutP key head data n)

theorem C23 {key head data : ByteArray} {n : Nat} {hp : HP} {K : Value → HP → Prop} (hn : 0 < n) (hnb : n ≤ 1000000) (hd : data.size ≤ 1000000)
    (hK : ∀ (hp' : HP) (s' : Option Addr) (c' : Nat), HSub hp hp' → Row hp' s' (cutL key head data n).length c' 29 6 ((cutL key head data n).flatMap pc) → (∀ b, s' = some ⟨b, 0, none⟩ → hp b = .none) → K (.slice s' (cutL key head data n).length c') hp') :
    CF Try.prog 23 [.string key, .string head, .string data, .int .i64 n] hp K := by
  refine F23_ok key head data (n : Int) hp K ?_
  unfold F23 F23_j1
  refine LoopP.by (J := fun k (st : Option Addr × Nat × Nat × Int) hp' => ∃ i : Nat, st.2.2.2 = ((n * i : Nat) : Int) ∧ k = data.size + 1 - n * i ∧ n * i ≤ data.size ∧ (0 < i → n * i < data.size) ∧ HSub hp hp' ∧ Row hp' st.1 st.2.1 st.2.2.1 29 6 (((List.range i).map (cutP key head data n)).flatMap pc) ∧ st.2.1 = i ∧ ∀ b, st.1 = some ⟨b, 0, none⟩ → hp b = .none) ?_
    (n := data.size + 1) ⟨0, by simp, by simp, by simp, by simp, HSub.refl _, .inl ⟨rfl, rfl, rfl, by simp⟩, rfl, (fun b e => by cases e)⟩
  rintro I k ⟨s, m, c, x⟩ hp1 ⟨i, hx, hk, hle, hlt, h01, hrow, hm, hfr⟩ hI
  simp only at hx hrow hm hfr
  subst hx hm
  unfold F23_l2
  simp only []
  have w1 : IntKind.wrap .i64 (((n * m : Nat) : Int) + (n : Int)) = ((n * m + n : Nat) : Int) := wiN (by omega) (by omega)
  rw [w1]
  have hmn : m ≤ n * m := Nat.le_mul_of_pos_left m hn
  have hz : ∀ p : Pc, splice [(Value.string ⟨#[]⟩), (Value.string ⟨#[]⟩), (Value.int .i64 0), (Value.bool false), (Value.string ⟨#[]⟩), (Value.string ⟨#[]⟩)] 0 (pc p) = pc p := fun p => splice_all rfl
  have hsucc : ∀ p, cutP key head data n m = p → ((List.range m).map (cutP key head data n)).flatMap pc ++ pc p = ((List.range (m + 1)).map (cutP key head data n)).flatMap pc := fun p hp => by
    rw [List.range_succ, List.map_append, List.flatMap_append]; simp [hp]
  by_cases hlast : data.size ≤ n * m + n
  · rw [decide_eq_true (by omega : ((n * m + n : Nat) : Int) ≥ (data.size : Nat)), ite2_true]
    refine ⟨by omega, by omega, ?_⟩
    refine ifI rfl ?_
    have hp0 : cutP key head data n m = ⟨key, ⟨#[115]⟩, ((n * m : Nat) : Int), false, data.extract (n * m) data.size, head⟩ := by
      unfold cutP
      rw [if_neg (by omega), decide_eq_false (by omega)]
    have hcells : [(Value.string key), (Value.string ⟨#[115]⟩), (Value.int .i64 ((n * m : Nat) : Int)), (Value.bool false), (Value.string (data.extract (n * m) data.size)), (Value.string head)] = pc (cutP key head data n m) := by rw [hp0]; rfl
    rw [Int.toNat_natCast, hcells, hz]
    intro b hb
    have sb := HSub.set_fresh hp1 (.cells 29 (pc (cutP key head data n m)) 0) hb
    refine opS_appF (e := 29) (size := 6) (bytes := 80) (by kernel_rfl) (hrow.sub sb) (.inr ⟨b, 0, rfl, by rw [HP.cellN_of (HP.set_eq ..)]; exact cellsN_all rfl⟩) (pc_one _) (by omega) (by omega) ?_
    intro s2 c2 hp2 hrow2 hf
    obtain ⟨k1, k2⟩ := hf hp (h01.trans sb) hfr
    rw [slcV_slice]
    have hN : cutN' data n = m + 1 := by
      unfold cutN'
      congr 1
      refine Nat.div_eq_of_lt_le ?_ ?_
      · rw [Nat.mul_comm]
        by_cases h0 : m = 0
        · subst h0; simp
        · have := hlt (by omega); omega
      · rw [Nat.mul_comm, Nat.mul_succ]; omega
    have hL : cutL key head data n = (List.range (m + 1)).map (cutP key head data n) := by unfold cutL; rw [hN]
    rw [hsucc _ rfl, ← hL] at hrow2
    have hlen : m + 1 = (cutL key head data n).length := by rw [hL]; simp
    rw [hlen] at hrow2 ⊢
    exact hK hp2 s2 c2 k1 hrow2 k2
  · rw [decide_eq_false (by omega : ¬ ((n * m + n : Nat) : Int) ≥ (data.size : Nat)), ite2_false]
    refine ⟨by omega, by omega, by omega, ?_⟩
    refine ifI rfl ?_
    have hp0 : cutP key head data n m = ⟨key, ⟨#[115]⟩, ((n * m : Nat) : Int), true, data.extract (n * m) (n * m + n), head⟩ := by
      unfold cutP
      rw [if_pos (by omega), decide_eq_true (by omega)]
    have hcells : [(Value.string key), (Value.string ⟨#[115]⟩), (Value.int .i64 ((n * m : Nat) : Int)), (Value.bool true), (Value.string (data.extract (n * m) (n * m + n))), (Value.string head)] = pc (cutP key head data n m) := by rw [hp0]; rfl
    rw [Int.toNat_natCast, Int.toNat_natCast, hcells, hz]
    intro b hb
    have sb := HSub.set_fresh hp1 (.cells 29 (pc (cutP key head data n m)) 0) hb
    refine opS_appF (e := 29) (size := 6) (bytes := 80) (by kernel_rfl) (hrow.sub sb) (.inr ⟨b, 0, rfl, by rw [HP.cellN_of (HP.set_eq ..)]; exact cellsN_all rfl⟩) (pc_one _) (by omega) (by omega) ?_
    intro s2 c2 hp2 hrow2 hf
    obtain ⟨k1, k2⟩ := hf hp (h01.trans sb) hfr
    rw [slcV_slice]
    rw [hsucc _ rfl] at hrow2
    have hms : n * (m + 1) = n * m + n := Nat.mul_succ n m
    exact hI (data.size + 1 - (n * m + n)) _ _ (by omega) ⟨m + 1, by simp only [hms], by rw [hms], by omega, fun _ => by omega, k1, hrow2, rfl, k2⟩
end Go.Proofs

set_option linter.unusedVariables false
set_option maxRecDepth 20000
namespace Go.Proofs
open Go Go.HL

/-- A store of room 50 that has one datagram. -/
def sOne (last : Int) (i : Nat) (k s : ByteArray) (d : Dg) : Stt := ⟨50, 50, last, i, [(k, d)], [(s, (i : Int))]⟩
def sNil (last : Int) : Stt := ⟨50, 50, last, 0, [], []⟩
theorem okDue5 : okDue 5 := by constructor <;> decide

theorem put_first {last : Int} {p : Pc} (hr : rightP p = true) (hno : ¬ (p.at_ = 0 ∧ p.more = false)) {w : List Value} {b : Bool} {e : Int} {S' : Stt} (h : PutR (sNil last) p 5 w b e S') :
    w = zeroW ∧ b = false ∧ e = 0 ∧ ∃ (d : Dg), d.l = [p] ∧ d.fin = (if p.more then -1 else p.toW) ∧ S' = sOne (IntKind.wrap .i64 (last + 1)) 1 p.key p.src d := by
  have w1 : IntKind.wrap .i64 ((0 : Int) + 1) = 1 := by decide
  have took : ∀ {last' : Int} {d' : Dg}, Took (sNil last) p 5 last' d' → last' = IntKind.wrap .i64 (last + 1) ∧ d'.l = [p] ∧ d'.fin = (if p.more then -1 else p.toW) := by
    intro last' d' htk
    rcases htk with ⟨_, h1, _, _, hf, hl⟩ | ⟨d2, hg, _⟩
    · exact ⟨h1, hl, hf⟩
    · cases hg
  cases h with
  | arg h => exact absurd okDue5 h
  | form _ h => rw [hr] at h; cases h
  | again d _ _ h => cases h
  | clash d _ _ h => cases h
  | alone _ _ _ h h' => exact absurd ⟨h, h'⟩ hno
  | full _ _ _ h =>
    have h1 : (0 : Int) ≥ 50 := h
    omega
  | state _ _ _ _ h =>
    have h1 : (0 : Int) ≥ 50 := h
    omega
  | part d' last' _ _ _ _ _ htk hn =>
    obtain ⟨t1, t2, t3⟩ := took htk
    refine ⟨rfl, rfl, rfl, d', t2, t3, ?_⟩
    subst t1
    unfold takeS sOne sNil
    simp only [putL, getL, Option.getD_none, w1]
    rfl
  | none d' last' l' _ _ _ _ _ htk hp hperm hs hw =>
    obtain ⟨t1, t2, t3⟩ := took htk
    rw [t2] at hperm
    have hl' := List.perm_singleton.1 hperm
    refine ⟨rfl, rfl, rfl, { d' with l := l' }, hl', t3, ?_⟩
    subst t1
    unfold setS takeS sOne sNil
    simp only [putL, getL, Option.getD_none, w1, if_true]
    rfl
  | whole d' last' l' w _ _ _ _ _ htk hp hperm hs hw =>
    exfalso
    obtain ⟨t1, t2, t3⟩ := took htk
    rw [t2] at hperm
    rw [List.perm_singleton.1 hperm] at hw
    unfold wholeQ at hw
    simp only [joinG] at hw
    have hz : e0s.size = 0 := rfl
    by_cases ha : p.at_ = ((e0s.size : Nat) : Int)
    · rw [hz] at ha
      have hm : p.more = true := by
        cases hm : p.more
        · exact absurd ⟨ha, hm⟩ hno
        · rfl
      rw [hm] at t3
      simp only [if_true] at t3
      omega
    · rw [if_neg ha] at hw; cases hw

theorem put_clash {last : Int} {p q : Pc} {d : Dg} (hr : rightP q = true) (hk : q.key = p.key) (hl : d.l = [p]) (hs : sameP q p = false) (hc : clash q p = true) {w : List Value} {b : Bool} {e : Int} {S' : Stt} (h : PutR (sOne last 1 p.key p.src d) q 5 w b e S') :
    w = zeroW ∧ b = false ∧ e = 5 ∧ S' = sNil last := by
  have hg : getL q.key (sOne last 1 p.key p.src d).D = some d := by rw [hk]; unfold sOne; simp [getL]
  have hs' : d.l.any (sameP q) = false := by rw [hl]; simp [hs]
  have hf : fitsQ d.fin d.l q = false := by
    unfold fitsQ; rw [hl]; simp [hc]
  have no : ¬ Room (sOne last 1 p.key p.src d) q := by
    unfold Room; rw [hg]; simp only; rw [hf]; simp
  have w0 : IntKind.wrap .i64 ((1 : Int) - 1) = 0 := by decide
  cases h with
  | arg h => exact absurd okDue5 h
  | form _ h => rw [hr] at h; cases h
  | again d' _ _ h h' => rw [hg] at h; cases h; rw [hs'] at h'; cases h'
  | clash d' _ _ h _ _ =>
    rw [hg] at h; cases h
    refine ⟨rfl, rfl, rfl, ?_⟩
    unfold cutS sOne sNil
    rw [hl, hk]
    have w00 : IntKind.wrap .i64 (0 : Int) = 0 := by decide
    simp [cutN, cutOf, getL, putL, delL, w0, w00]
  | alone _ _ h => rw [hg] at h; cases h
  | full _ _ h => exact absurd h no
  | state _ _ h => exact absurd h no
  | part _ _ _ _ h => exact absurd h no
  | none _ _ _ _ _ h => exact absurd h no
  | whole _ _ _ _ _ _ h => exact absurd h no

/-- A further one that is not the last. -/
theorem put_next {last : Int} {i : Nat} {k s : ByteArray} {p : Pc} {d : Dg} (hi : i < 50) (hr : rightP p = true) (hk : p.key = k) (hs : p.src = s) (hm : p.more = true) (hfin : d.fin = -1) (h1 : d.l.any (sameP p) = false) (h2 : d.l.any (clash p) = false)
    {w : List Value} {b : Bool} {e : Int} {S' : Stt} (h : PutR (sOne last i k s d) p 5 w b e S') :
    w = zeroW ∧ b = false ∧ e = 0 ∧ ∃ (d' : Dg), d'.l = d.l ++ [p] ∧ d'.fin = -1 ∧ S' = sOne last (i + 1) k s d' := by
  subst hk hs
  have hg : getL p.key (sOne last i p.key p.src d).D = some d := by unfold sOne; simp [getL]
  have hf : fitsQ d.fin d.l p = true := by unfold fitsQ; rw [h2, hfin]; simp
  have w1 : IntKind.wrap .i64 ((i : Int) + 1) = ((i + 1 : Nat) : Int) := wiN (by omega) (by omega)
  have took : ∀ {last' : Int} {d' : Dg}, Took (sOne last i p.key p.src d) p 5 last' d' → last' = last ∧ d'.l = d.l ++ [p] ∧ d'.fin = -1 := by
    intro last' d' htk
    rcases htk with ⟨hg', _⟩ | ⟨d2, hg', e1, _, _, hf', hl⟩
    · rw [hg] at hg'; cases hg'
    · rw [hg] at hg'; cases hg'
      exact ⟨e1, hl, by rw [hf', hm]; exact hfin⟩
  cases h with
  | arg h => exact absurd okDue5 h
  | form _ h => rw [hr] at h; cases h
  | again d' _ _ h h' => rw [hg] at h; cases h; rw [h1] at h'; cases h'
  | clash d' _ _ h _ h' => rw [hg] at h; cases h; rw [hf] at h'; cases h'
  | alone _ _ h => rw [hg] at h; cases h
  | full _ _ _ h =>
    have h1 : (i : Int) ≥ 50 := h
    omega
  | state _ _ _ _ h =>
    have h0 : (getL p.src (sOne last i p.key p.src d).of).getD 0 = (i : Int) := by unfold sOne; simp [getL]
    rw [h0] at h
    have h1 : (i : Int) ≥ 50 := h
    omega
  | part d' last' _ _ _ _ _ htk hn =>
    obtain ⟨t1, t2, t3⟩ := took htk
    refine ⟨rfl, rfl, rfl, d', t2, t3, ?_⟩
    subst t1
    unfold takeS sOne
    simp [putL, getL, w1]
  | none d' last' l' _ _ _ _ _ htk hp => have := (took htk).2.2; omega
  | whole d' last' l' w _ _ _ _ _ htk hp => have := (took htk).2.2; omega

/-- The last one. -/
theorem put_last {last : Int} {i : Nat} {k s : ByteArray} {p : Pc} {d : Dg} {data : ByteArray} (hi : i < 50) (hr : rightP p = true) (hk : p.key = k) (hs : p.src = s) (hm : p.more = false) (hfin : d.fin = -1) (h1 : d.l.any (sameP p) = false) (h2 : d.l.any (clash p) = false)
    (hto : 0 ≤ p.toW) (hsort : ∀ l' : List Pc, l'.Perm (d.l ++ [p]) → l'.Pairwise (fun x y => ltC cfP y x = false) → l' = d.l ++ [p]) (hw : wholeQ p.toW (d.l ++ [p]) = some data)
    {w : List Value} {b : Bool} {e : Int} {S' : Stt} (h : PutR (sOne last i k s d) p 5 w b e S') :
    (∃ head n, w = wh k head data n) ∧ b = true ∧ e = 0 := by
  subst hk hs
  have hg : getL p.key (sOne last i p.key p.src d).D = some d := by unfold sOne; simp [getL]
  have hf : fitsQ d.fin d.l p = true := by unfold fitsQ; rw [h2, hfin]; simp
  have took : ∀ {last' : Int} {d' : Dg}, Took (sOne last i p.key p.src d) p 5 last' d' → d'.l = d.l ++ [p] ∧ d'.fin = p.toW := by
    intro last' d' htk
    rcases htk with ⟨hg', _⟩ | ⟨d2, hg', e1, _, _, hf', hl⟩
    · rw [hg] at hg'; cases hg'
    · rw [hg] at hg'; cases hg'
      exact ⟨hl, by rw [hf', hm]; rfl⟩
  cases h with
  | arg h => exact absurd okDue5 h
  | form _ h => rw [hr] at h; cases h
  | again d' _ _ h h' => rw [hg] at h; cases h; rw [h1] at h'; cases h'
  | clash d' _ _ h _ h' => rw [hg] at h; cases h; rw [hf] at h'; cases h'
  | alone _ _ h => rw [hg] at h; cases h
  | full _ _ _ h =>
    have h1 : (i : Int) ≥ 50 := h
    omega
  | state _ _ _ _ h =>
    have h0 : (getL p.src (sOne last i p.key p.src d).of).getD 0 = (i : Int) := by unfold sOne; simp [getL]
    rw [h0] at h
    have h1 : (i : Int) ≥ 50 := h
    omega
  | part d' last' _ _ _ _ _ htk hn => have := (took htk).2; omega
  | none d' last' l' _ _ _ _ _ htk hp hperm hs hw' =>
    obtain ⟨t1, t2⟩ := took htk
    rw [t1] at hperm
    rw [hsort l' hperm hs, t2, hw] at hw'; cases hw'
  | whole d' last' l' w' _ _ _ _ _ htk hp hperm hs hw' =>
    obtain ⟨t1, t2⟩ := took htk
    rw [t1] at hperm
    rw [hsort l' hperm hs, t2, hw] at hw'
    cases hw'
    exact ⟨⟨_, _, rfl⟩, rfl, rfl⟩
end Go.Proofs

set_option linter.unusedVariables false
set_option maxRecDepth 20000
namespace Go.Proofs
open Go Go.HL

/-- Two lists of the same, in the same order, are one. -/
theorem same_ord {α : Type} {lt : α → α → Bool} : ∀ {u v : List α}, u.Nodup → v.Nodup → (∀ x, x ∈ u ↔ x ∈ v) → u.Pairwise (fun x y => lt y x = false) → v.Pairwise (fun x y => lt x y = true) → u = v
  | [], [], _, _, _, _, _ => rfl
  | [], b :: v, _, _, hm, _, _ => by have := (hm b).2 (by simp); simp at this
  | a :: u, [], _, _, hm, _, _ => by have := (hm a).1 (by simp); simp at this
  | a :: u, b :: v, hu, hv', hm, pu, pv => by
    rw [List.nodup_cons] at hu hv'
    rw [List.pairwise_cons] at pu pv
    by_cases he : a = b
    · subst he
      rw [same_ord (u := u) (v := v) hu.2 hv'.2 (fun x => ?_) pu.2 pv.2]
      have h := hm x
      simp only [List.mem_cons] at h
      constructor
      · intro hx
        rcases h.1 (.inr hx) with e | h'
        · subst e; exact absurd hx hu.1
        · exact h'
      · intro hx
        rcases h.2 (.inr hx) with e | h'
        · subst e; exact absurd hx hv'.1
        · exact h'
    · have h1 : a ∈ v := by
        have := (hm a).1 (by simp)
        rcases List.mem_cons.1 this with e | h'
        · exact absurd e he
        · exact h'
      have h2 : b ∈ u := by
        have := (hm b).2 (by simp)
        rcases List.mem_cons.1 this with e | h'
        · exact absurd e.symm he
        · exact h'
      have g1 := pu.1 b h2
      have g2 := pv.1 a h1
      rw [g1] at g2; cases g2

section
variable {key head data : ByteArray} {n i j : Nat}

theorem cut_more (hn : 0 < n) (hi : i < cutN' data n) : n * i + n < data.size ↔ i + 1 < cutN' data n := by
  unfold cutN' at *
  have hd : i ≤ (data.size - 1) / n := by omega
  rw [Nat.le_div_iff_mul_le hn] at hd
  constructor
  · intro h
    have : i + 1 ≤ (data.size - 1) / n := by
      rw [Nat.le_div_iff_mul_le hn, Nat.mul_comm, Nat.mul_succ]; omega
    omega
  · intro h
    have : i + 1 ≤ (data.size - 1) / n := by omega
    rw [Nat.le_div_iff_mul_le hn, Nat.mul_comm, Nat.mul_succ] at this
    by_cases h0 : data.size = 0
    · rw [h0] at this; omega
    · omega

theorem cut_at (hn : 0 < n) (hs : 0 < data.size) (hi : i < cutN' data n) : n * i < data.size := by
  unfold cutN' at hi
  have hd : i ≤ (data.size - 1) / n := by omega
  rw [Nat.le_div_iff_mul_le hn, Nat.mul_comm] at hd
  omega

theorem cutP_size (hn : 0 < n) (hs : 0 < data.size) (hi : i < cutN' data n) : (cutP key head data n i).data.size = (if n * i + n < data.size then n else data.size - n * i) := by
  have := cut_at hn hs hi
  unfold cutP
  simp only [ByteArray.size_extract]
  split <;> omega

theorem cutP_to (hn : 0 < n) (hn' : n ≤ 1000) (hs : 0 < data.size) (hs' : data.size ≤ 10000) (hi : i < cutN' data n) : (cutP key head data n i).toW = ((if n * i + n < data.size then n * i + n else data.size : Nat) : Int) := by
  have ha := cut_at hn hs hi
  have hz := cutP_size (key := key) (head := head) hn hs hi
  have e : (cutP key head data n i).at_ = ((n * i : Nat) : Int) := rfl
  rw [Pc.toW_eq (by rw [e]; omega) (by rw [e]; omega) (by rw [hz]; split <;> omega)]
  unfold Pc.to
  rw [hz, e]
  split <;> omega

theorem cutP_right (h8 : n % 8 = 0) (hn : 0 < n) (hn' : n ≤ 1000) (hs : 0 < data.size) (hs' : data.size ≤ 10000) (hi : i < cutN' data n) : rightP (cutP key head data n i) = true := by
  have ha := cut_at hn hs hi
  have hz := cutP_size (key := key) (head := head) hn hs hi
  have e : (cutP key head data n i).at_ = ((n * i : Nat) : Int) := rfl
  rw [rightP_iff, hz, e]
  refine ⟨by omega, by omega, ?_, by split <;> omega, ?_⟩
  · have : Int.tmod ((n * i : Nat) : Int) 8 = ((n * i % 8 : Nat) : Int) := rfl
    rw [this, Nat.mul_mod, h8]; simp
  · intro hm
    have : n * i + n < data.size := of_decide_eq_true hm
    rw [if_pos this]
    exact ⟨hn, h8⟩

/-- Two pieces of one datagram: the later one begins where the earlier one has ended. -/
theorem cutP_apart (hn : 0 < n) (hn' : n ≤ 1000) (hs : 0 < data.size) (hs' : data.size ≤ 10000) (hi : i < j) (hj : j < cutN' data n) : (cutP key head data n i).toW ≤ (cutP key head data n j).at_ ∧ (cutP key head data n i).at_ < (cutP key head data n j).at_ ∧ (cutP key head data n i).more = true := by
  have hm := (cut_more hn (show i < cutN' data n by omega)).2 (by omega)
  have ht := cutP_to (key := key) (head := head) hn hn' hs hs' (show i < cutN' data n by omega)
  rw [if_pos hm] at ht
  have e : ∀ i, (cutP key head data n i).at_ = ((n * i : Nat) : Int) := fun _ => rfl
  have hmul : n * (i + 1) ≤ n * j := Nat.mul_le_mul_left n hi
  rw [Nat.mul_succ] at hmul
  refine ⟨by rw [ht, e]; omega, by rw [e, e]; omega, ?_⟩
  show decide (n * i + n < data.size) = true
  exact decide_eq_true hm

theorem cut_len : (cutL key head data n).length = cutN' data n := by unfold cutL; simp
theorem cut_get (hi : i < (cutL key head data n).length) : (cutL key head data n)[i] = cutP key head data n i := by
  have h2 : i < cutN' data n := by rw [← cut_len (key := key) (head := head)]; exact hi
  have : (cutL key head data n)[i]? = some (cutP key head data n i) := by
    unfold cutL; rw [List.getElem?_map, List.getElem?_range h2]; rfl
  rw [List.getElem?_eq_getElem hi] at this; exact Option.some.inj this

/-- Those ahead of one are not the same, and do not speak against it. -/
theorem cut_ahead (hn : 0 < n) (hn' : n ≤ 1000) (hs : 0 < data.size) (hs' : data.size ≤ 10000) (hi : i < cutN' data n) : ((cutL key head data n).take i).any (sameP (cutP key head data n i)) = false ∧ ((cutL key head data n).take i).any (clash (cutP key head data n i)) = false := by
  have ht := cutP_to (key := key) (head := head) hn hn' hs hs' hi
  have each : ∀ x ∈ (cutL key head data n).take i, ∃ j, j < i ∧ x = cutP key head data n j := by
    intro x hx
    obtain ⟨j, hj, rfl⟩ := List.getElem_of_mem hx
    rw [List.length_take] at hj
    exact ⟨j, by omega, by rw [List.getElem_take, cut_get]⟩
  constructor
  · rw [List.any_eq_false]
    intro x hx
    obtain ⟨j, hj, rfl⟩ := each x hx
    have := (cutP_apart (key := key) (head := head) hn hn' hs hs' hj hi).2.1
    unfold sameP
    rw [decide_eq_false (by omega)]; simp
  · rw [List.any_eq_false]
    intro x hx
    obtain ⟨j, hj, rfl⟩ := each x hx
    obtain ⟨a1, a2, _⟩ := cutP_apart (key := key) (head := head) hn hn' hs hs' hj hi
    have ha := cut_at hn hs hi
    have e : (cutP key head data n i).at_ = ((n * i : Nat) : Int) := rfl
    have hge : (cutP key head data n i).at_ ≤ (cutP key head data n i).toW := by rw [ht, e]; split <;> omega
    unfold clash
    rw [decide_eq_false (by omega : ¬ (cutP key head data n i).at_ < (cutP key head data n j).toW), decide_eq_false (by omega : ¬ (cutP key head data n j).toW > (cutP key head data n i).toW)]
    simp

theorem cut_sorted (hn : 0 < n) (hn' : n ≤ 1000) (hs : 0 < data.size) (hs' : data.size ≤ 10000) : (cutL key head data n).Pairwise (fun x y => ltC cfP x y = true) := by
  rw [List.pairwise_iff_getElem]
  intro i j hi hj hij
  rw [cut_get, cut_get, cfP_lt]
  rw [cut_len] at hj
  exact .inl (cutP_apart hn hn' hs hs' hij hj).2.1

theorem cut_join (hn : 0 < n) (hs : 0 < data.size) : ∀ (k i : Nat), i + k = cutN' data n → joinG ((cutL key head data n).drop i) (if i < cutN' data n then data.extract 0 (n * i) else data) = some data := by
  intro k
  induction k with
  | zero =>
    intro i hi
    rw [List.drop_of_length_le (by rw [cut_len]; omega), if_neg (by omega)]; rfl
  | succ k ih =>
    intro i hi
    have hi' : i < cutN' data n := by omega
    have hlt : i < (cutL key head data n).length := by rw [cut_len]; exact hi'
    rw [List.drop_eq_getElem_cons hlt, cut_get, if_pos hi', joinG]
    have ha := cut_at hn hs hi'
    have hsz : (data.extract 0 (n * i)).size = n * i := by rw [ByteArray.size_extract]; omega
    rw [if_pos (by rw [hsz]; rfl)]
    have hj := ih (i + 1) (by omega)
    have hm := cut_more hn hi'
    have : data.extract 0 (n * i) ++ (cutP key head data n i).data = (if i + 1 < cutN' data n then data.extract 0 (n * (i + 1)) else data) := by
      unfold cutP
      simp only
      by_cases h : n * i + n < data.size
      · rw [if_pos h, if_pos (hm.1 h), ByteArray.extract_append_extract, Nat.mul_succ]
        congr 1 <;> omega
      · rw [if_neg h, if_neg (fun h' => h (hm.2 h')), ByteArray.extract_append_extract]
        have e1 : min 0 (n * i) = 0 := by omega
        have e2 : max (n * i) data.size = data.size := by omega
        rw [e1, e2]; exact ByteArray.extract_zero_size
    rw [this]; exact hj
end
end Go.Proofs

set_option linter.unusedVariables false
set_option maxRecDepth 20000
namespace Go.Proofs
open Go Go.HL

theorem sOne_get {last : Int} {i : Nat} {k s k' : ByteArray} {d d2 : Dg} (h : getL k' (sOne last i k s d).D = some d2) : d2 = d := by
  unfold sOne at h
  simp only [getL] at h
  split at h
  · cases h; rfl
  · cases h

section
variable {x0 x3 : ByteArray} {x1 x2 : Int} {hp : HP} {K : Value → HP → Prop}

theorem C4 (h : K (.bool true) hp) : CF Try.prog 4 [.string x0, .int .i64 x1, .int .i64 x2, .string x3] hp K := by
  refine CF.drop (F4_ok x0 x1 x2 x3 hp _ ?_)
  unfold F4
  have hk : ∀ hp', HSub hp hp' → CF Try.prog 22 [] hp' fun u h => boolV u fun q => ∃ hp'', HSub hp'' h ∧ K (.bool q) hp'' := by
    intro hp' hs
    refine C22 ?_
    rw [boolV_bool]
    exact ⟨hp, hs, h⟩
  have yes : F4_j1 x0 x1 x2 x3 true hp (fun v hp' => ∃ hp'', HSub hp'' hp' ∧ K v hp'') := by
    unfold F4_j1
    rw [ite2_true]
    exact hk hp (HSub.refl _)
  by_cases g1 : ((x0.size : Nat) : Int) < 40
  · rw [decide_eq_true g1, ite2_true]; exact yes
  rw [decide_eq_false g1, ite2_false]
  by_cases g2 : ((x0.size : Nat) : Int) > 600
  · rw [decide_eq_true g2, ite2_true]; exact yes
  rw [decide_eq_false g2, ite2_false]
  by_cases g3 : ((x3.size : Nat) : Int) < 8
  · rw [decide_eq_true g3, ite2_true]; exact yes
  rw [decide_eq_false g3, ite2_false]
  by_cases g4 : ((x3.size : Nat) : Int) > 200
  · rw [decide_eq_true g4]; exact yes
  rw [decide_eq_false g4]
  clear yes
  have s0 : 0 < x0.size := by omega
  have s1 : x0.size ≤ 10000 := by omega
  unfold F4_j1
  rw [ite2_false]
  have z32 : (Value.int .i64 32) = Value.int .i64 ((32 : Nat) : Int) := rfl
  rw [z32]
  refine C23 (by omega) (by omega) (by omega) ?_
  intro hp1 sl cl h01 hrow _
  rw [slcV_slice, cut_len]
  rw [cut_len] at hrow
  have hN2 : 2 ≤ cutN' x0 32 ∧ cutN' x0 32 ≤ 19 := by unfold cutN'; omega
  have hpieces : ∀ i, i < cutN' x0 32 → rightP (cutP ⟨#[107]⟩ ⟨#[104]⟩ x0 32 i) = true := fun i hi => cutP_right (by decide) (by omega) (by omega) s0 s1 hi
  have hpok : ∀ i, i < cutN' x0 32 → okP (cutP ⟨#[107]⟩ ⟨#[104]⟩ x0 32 i) := fun i hi => by
    have := cut_at (by omega : 0 < 32) s0 hi
    have hz := cutP_size (key := ⟨#[107]⟩) (head := ⟨#[104]⟩) (by omega : 0 < 32) s0 hi
    have e : (cutP ⟨#[107]⟩ ⟨#[104]⟩ x0 32 i).at_ = ((32 * i : Nat) : Int) := rfl
    refine ⟨by rw [e]; omega, ?_⟩
    rw [hz]; split <;> omega
  have hget : ∀ i (hi : i < cutN' x0 32), ∃ b o, sl = some ⟨b, o, none⟩ ∧ hp1.cellN b (o + i * 6) 6 = some (pc (cutP ⟨#[107]⟩ ⟨#[104]⟩ x0 32 i)) := fun i hi => by
    obtain ⟨b, o, hs, hc⟩ := hrow.shows.get pc_len (cut_len (key := ⟨#[107]⟩) (head := ⟨#[104]⟩)) hi
    rw [cut_get] at hc
    exact ⟨b, o, hs, hc⟩
  generalize hNN : cutN' x0 32 = N at *
  refine C24 (by omega) (by omega) fun r hr0 hr1 => ?_
  obtain ⟨r, rfl⟩ := Int.eq_ofNat_of_zero_le hr0
  have hrN : r < N := by omega
  rw [intV_int]
  obtain ⟨bl, ol, rfl, hcl⟩ := hget r hrN
  have hz : ∀ p : Pc, splice [(Value.string ⟨#[]⟩), (Value.string ⟨#[]⟩), (Value.int .i64 0), (Value.bool false), (Value.string ⟨#[]⟩), (Value.string ⟨#[]⟩)] 0 (pc p) = pc p := fun p => splice_all rfl
  have k2 : ∀ p : Pc, (pc p)[2]? = some (.int .i64 p.at_) := fun _ => rfl
  have k3 : ∀ p : Pc, (pc p)[3]? = some (.bool p.more) := fun _ => rfl
  have k4 : ∀ p : Pc, (pc p)[4]? = some (.string p.data) := fun _ => rfl
  have pcp := hpieces r hrN
  have pok := hpok r hrN
  have pat : (cutP ⟨#[107]⟩ ⟨#[104]⟩ x0 32 r).at_ = ((32 * r : Nat) : Int) := rfl
  have ptw := cutP_to (key := ⟨#[107]⟩) (head := ⟨#[104]⟩) (by omega : 0 < 32) (by omega) s0 s1 (hNN ▸ hrN)
  have ptail := cut_at (by omega : 0 < 32) s0 (hNN ▸ hrN)
  have pmore : (cutP ⟨#[107]⟩ ⟨#[104]⟩ x0 32 r).more = true ∨ (cutP ⟨#[107]⟩ ⟨#[104]⟩ x0 32 r).at_ ≠ 0 := by
    have hm := cut_more (by omega : 0 < 32) (hNN ▸ hrN : r < cutN' x0 32)
    rw [hNN] at hm
    by_cases hr' : r + 1 < N
    · exact .inl (decide_eq_true (hm.2 hr'))
    · right; rw [pat]; omega
  have ptoW : (cutP ⟨#[107]⟩ ⟨#[104]⟩ x0 32 r).toW = IntKind.wrap .i64 ((cutP ⟨#[107]⟩ ⟨#[104]⟩ x0 32 r).at_ + (cutP ⟨#[107]⟩ ⟨#[104]⟩ x0 32 r).data.size) := rfl
  have pkey : (cutP ⟨#[107]⟩ ⟨#[104]⟩ x0 32 r).key = ⟨#[107]⟩ := rfl
  have psrc : (cutP ⟨#[107]⟩ ⟨#[104]⟩ x0 32 r).src = ⟨#[115]⟩ := rfl
  generalize cutP ⟨#[107]⟩ ⟨#[104]⟩ x0 32 r = p at *
  simp only [ptrN_some, Int.toNat_natCast, hcl, ldL_some, pc_len, pc_one, if_true, hz, k2, ldV_some, intV_int]
  refine ⟨by omega, by omega, ?_⟩
  refine ifI (Nat.le_refl _) ?_
  refine C24 (by omega) (by omega) fun t ht0 ht1 => ?_
  rw [intV_int]
  have e8 : Int.tdiv ((x3.size : Nat) : Int) 8 = ((x3.size / 8 : Nat) : Int) := rfl
  have w8 : IntKind.wrap .i64 (IntKind.wrap .i64 (Int.tdiv ((x3.size : Nat) : Int) 8) * 8) = ((x3.size / 8 * 8 : Nat) : Int) := by
    rw [e8, w64 (n := ((x3.size / 8 : Nat) : Int)) (by omega) (by omega)]; exact wiN (by omega) (by omega)
  have wat : IntKind.wrap .i64 (p.at_ + IntKind.wrap .i64 (8 * t)) = p.at_ + 8 * t := by
    rw [w64 (n := 8 * t) (by omega) (by omega), w64 (by omega) (by omega)]
  rw [w8, wat, Int.toNat_natCast]
  refine ⟨by decide, by omega, by omega, ?_⟩
  have hq : [(Value.string ⟨#[107]⟩), (Value.string ⟨#[115]⟩), (Value.int .i64 (p.at_ + 8 * t)), (Value.bool true), (Value.string (x3.extract 0 (x3.size / 8 * 8))), (Value.string ⟨#[]⟩)] = pc ⟨⟨#[107]⟩, ⟨#[115]⟩, p.at_ + 8 * t, true, x3.extract 0 (x3.size / 8 * 8), ⟨#[]⟩⟩ := rfl
  have oz : (x3.extract 0 (x3.size / 8 * 8)).size = x3.size / 8 * 8 := by rw [ByteArray.size_extract]; omega
  generalize hqq : (⟨⟨#[107]⟩, ⟨#[115]⟩, p.at_ + 8 * t, true, x3.extract 0 (x3.size / 8 * 8), ⟨#[]⟩⟩ : Pc) = q at hq
  have qat : q.at_ = p.at_ + 8 * t := by rw [← hqq]
  have qmore : q.more = true := by rw [← hqq]
  have qdata : q.data = x3.extract 0 (x3.size / 8 * 8) := by rw [← hqq]
  have qkey : q.key = ⟨#[107]⟩ := by rw [← hqq]
  simp only [hq, pc_len, pc_one, if_true, hz, k2, k3, k4, ldV_some, intV_int, boolV_bool, strV_string, Nat.zero_add]
  refine ifI (Nat.le_refl _) ?_
  refine C25 (fun hn => absurd (by omega) hn) ?_
  intro _ sq m mo hp2 hst
  have g1' := hst hp1 (HSub.refl _)
  have pp : ∀ c : Option Addr → Prop, ptrV (ptr sq 0) c = c (some ⟨sq, 0, none⟩) := fun _ => rfl
  simp only [tup2V_mk, intV_int, pp]
  have wk : F4_j2 x0 (some ⟨bl, ol, none⟩) N cl (some ⟨sq, 0, none⟩) true (pc p) (pc q) hp2 (fun v hp' => ∃ hp'', HSub hp'' hp' ∧ K v hp'') := by
    unfold F4_j2
    rw [ite2_true]
    exact hk hp2 (h01.trans g1'.1)
  have pszb : p.data.size ≤ 1000000 := pok.2
  -- they are not the same, and the second begins ahead of the first's end
  have two : q.at_ < p.toW → sameP q p = false → F4_j2 x0 (some ⟨bl, ol, none⟩) N cl (some ⟨sq, 0, none⟩) false (pc p) (pc q) hp2 (fun v hp' => ∃ hp'', HSub hp'' hp' ∧ K v hp'') := by
    intro hlt hsame
    have qtoW : q.toW = q.at_ + (x3.size / 8 * 8 : Nat) := by
      have : q.toW = q.to := Pc.toW_eq (by rw [qat]; omega) (by rw [qat]; omega) (by rw [qdata, oz]; omega)
      rw [this]; unfold Pc.to; rw [qdata, oz]
    have hcl' : clash q p = true := by
      unfold clash
      rw [decide_eq_true hlt, decide_eq_true (by rw [qtoW, qat]; omega : p.at_ < q.toW)]; rfl
    have hqr : rightP q = true := by
      rw [rightP_iff, qdata, oz, qat]
      refine ⟨by omega, by rw [pat]; omega, ?_, by rw [pat]; omega, fun _ => ⟨by omega, by omega⟩⟩
      have : p.at_ + 8 * t = ((32 * r + 8 * t.toNat : Nat) : Int) := by rw [pat]; omega
      rw [this]
      have e : Int.tmod ((32 * r + 8 * t.toNat : Nat) : Int) 8 = (((32 * r + 8 * t.toNat) % 8 : Nat) : Int) := rfl
      rw [e]; omega
    have qok : okP q := ⟨by rw [qat]; omega, by rw [qdata, oz]; omega⟩
    have kN : ∀ x : Pc, cellsN (pc x) 0 6 = some (pc x) := fun x => cellsN_all (pc_len x)
    have zl : zeroW.length = 4 := rfl
    have zo : zeroW.all one = true := rfl
    unfold F4_j2
    simp only [ite2_false, kN, ldL_some]
    refine C26 (p := p) g1' pok (fun d hd => by cases hd) (fun d hd => by cases hd) ?_
    intro hp3 w b e S1 hput st1
    obtain ⟨rfl, rfl, rfl, d, hl, hfin, rfl⟩ := put_first (last := 0) pcp (fun hh => by rcases pmore with h' | h'; rw [hh.2] at h'; cases h'; exact h' hh.1) hput
    have g2' := st1 hp1 g1'
    simp only [tup3V_mk, aggV_agg, boolV_bool, intV_int, zl, zo, if_true, Nat.zero_add]
    refine ifI (Nat.le_refl _) ?_
    refine C27 g2' ?_
    rw [intV_int]
    show ite2 false _ _
    rw [ite2_false]
    refine C26 (p := q) g2' qok (fun d2 h2 => by rw [sOne_get h2, hl]; simp) (fun d2 h2 x hx => by rw [sOne_get h2, hl, List.mem_singleton] at hx; rw [hx]; exact pcp) ?_
    intro hp4 w b e S2 hput2 st2
    obtain ⟨rfl, rfl, rfl, rfl⟩ := put_clash hqr (by rw [qkey, pkey]) hl hsame hcl' hput2
    have g3' := st2 hp1 g2'
    simp only [tup3V_mk, aggV_agg, boolV_bool, intV_int, zl, zo, if_true, Nat.zero_add]
    refine ifI (Nat.le_refl _) ?_
    show ite2 false _ (ite2 false _ _)
    rw [ite2_false, ite2_false]
    refine C27 g3' ?_
    rw [intV_int]
    show F4_j3 _ _ _ _ _ false _ _
    unfold F4_j3 F4_j5
    rw [ite2_false]
    refine LoopP.by (J := fun k (y : Int) hp' => ∃ i : Nat, y = i ∧ i + k = N ∧ HSub hp1 hp' ∧ (i < N → ∃ last : Int, (i = 0 ∧ StR hp1 hp' sq m mo (sNil last)) ∨ (0 < i ∧ ∃ d : Dg, StR hp1 hp' sq m mo (sOne last i ⟨#[107]⟩ ⟨#[115]⟩ d) ∧ d.l = (cutL ⟨#[107]⟩ ⟨#[104]⟩ x0 32).take i ∧ d.fin = -1))) ?_ (n := N)
      ⟨0, rfl, by omega, g3'.1, fun _ => ⟨_, .inl ⟨rfl, g3'⟩⟩⟩
    rintro I k y hp5 ⟨i, rfl, hik, h15, hstate⟩ hI
    unfold F4_l6
    by_cases hi : i < N
    rotate_left
    · rw [decide_eq_false (by omega : ¬ (i : Int) < ((N : Nat) : Int)), ite2_false]
      unfold F4_j4
      exact hk hp5 (h01.trans h15)
    rw [decide_eq_true (by omega : (i : Int) < ((N : Nat) : Int)), ite2_true]
    obtain ⟨b5, o5, hs5, hc5⟩ := hget i hi
    cases hs5
    simp only [ptrN_some, Int.toNat_natCast, HP.cellN_sub h15 hc5, ldL_some]
    refine ⟨by omega, by omega, ?_⟩
    have hiC : i < cutN' x0 32 := hNN ▸ hi
    have hmi := cut_more (by omega : 0 < 32) hiC
    rw [hNN] at hmi
    obtain ⟨a1, a2⟩ := cut_ahead (key := ⟨#[107]⟩) (head := ⟨#[104]⟩) (by omega : 0 < 32) (by omega) s0 s1 hiC
    have hpi := hpieces i hi
    have hpo := hpok i hi
    have wN : IntKind.wrap .i64 (((N : Nat) : Int) - 1) = ((N - 1 : Nat) : Int) := wiN (by omega) (by omega)
    have w1 : IntKind.wrap .i64 ((i : Int) + 1) = ((i + 1 : Nat) : Int) := wiN (by omega) (by omega)
    have emore : (cutP ⟨#[107]⟩ ⟨#[104]⟩ x0 32 i).more = decide (32 * i + 32 < x0.size) := rfl
    have hsucc : (cutL ⟨#[107]⟩ ⟨#[104]⟩ x0 32).take i ++ [cutP ⟨#[107]⟩ ⟨#[104]⟩ x0 32 i] = (cutL ⟨#[107]⟩ ⟨#[104]⟩ x0 32).take (i + 1) := by
      have hlt : i < (cutL ⟨#[107]⟩ ⟨#[104]⟩ x0 32).length := by rw [cut_len]; exact hiC
      rw [List.take_succ_eq_append_getElem hlt, cut_get]
    -- one that is not the last
    have more : ∀ hp6, i + 1 < N → HSub hp1 hp6 → (∃ (last : Int) (d : Dg), StR hp1 hp6 sq m mo (sOne last (i + 1) ⟨#[107]⟩ ⟨#[115]⟩ d) ∧ d.l = (cutL ⟨#[107]⟩ ⟨#[104]⟩ x0 32).take (i + 1) ∧ d.fin = -1) →
        tup3V (.tuple ⟨[.agg ⟨zeroW⟩, .bool false, .int .i64 0]⟩) fun u_61 u_62 u_63 => aggV u_61 fun l_64 => boolV u_62 fun q_65 => intV u_63 .i64 fun i_66 => (if List.length l_64 = 4 then (if List.all l_64 one = true then (if 0 + List.length l_64 ≤ List.length [(Value.string ⟨#[]⟩), (Value.string ⟨#[]⟩), (Value.string ⟨#[]⟩), (Value.int .i64 0)] then (ite2 ((i_66 : Int) != 0) (F4_j7 x0 (some ⟨bl, ol, none⟩) N cl (some ⟨sq, 0, none⟩) i true hp6 I (fun v hp' => ∃ hp'', HSub hp'' hp' ∧ K v hp'')) (ite2 (!(q_65 == ((i : Int) == (IntKind.wrap .i64 ((N : Nat) - 1))))) (F4_j7 x0 (some ⟨bl, ol, none⟩) N cl (some ⟨sq, 0, none⟩) i true hp6 I (fun v hp' => ∃ hp'', HSub hp'' hp' ∧ K v hp'')) (ite2 q_65 (ldV ((splice [(Value.string ⟨#[]⟩), (Value.string ⟨#[]⟩), (Value.string ⟨#[]⟩), (Value.int .i64 0)] 0 l_64))[2]? fun v_67 => (strV v_67 fun s_68 => (F4_j7 x0 (some ⟨bl, ol, none⟩) N cl (some ⟨sq, 0, none⟩) i (!((ByteArray.toList s_68) == (ByteArray.toList x0))) hp6 I (fun v hp' => ∃ hp'', HSub hp'' hp' ∧ K v hp'')))) (F4_j7 x0 (some ⟨bl, ol, none⟩) N cl (some ⟨sq, 0, none⟩) i false hp6 I (fun v hp' => ∃ hp'', HSub hp'' hp' ∧ K v hp''))))) else False) else False) else False) := by
      intro hp6 hlt hs6 hst6
      simp only [tup3V_mk, aggV_agg, boolV_bool, intV_int, zl, zo, if_true, Nat.zero_add]
      refine ifI (Nat.le_refl _) ?_
      have e1 : ((i : Int) == IntKind.wrap .i64 (((N : Nat) : Int) - 1)) = false := by rw [wN, beq_eq_false_iff_ne]; omega
      rw [e1]
      show ite2 false _ (ite2 false _ (ite2 false _ _))
      simp only [ite2_false]
      unfold F4_j7
      rw [ite2_false, w1]
      obtain ⟨last, d, g, g', g''⟩ := hst6
      exact hI (k - 1) _ _ (by omega) ⟨i + 1, rfl, by omega, hs6, fun _ => ⟨last, .inr ⟨by omega, d, g, g', g''⟩⟩⟩
    obtain ⟨last, ⟨rfl, g5⟩ | ⟨hi0, d, g5, hdl, hdf⟩⟩ := hstate hi
    · -- the first one
      have hm0 : (cutP ⟨#[107]⟩ ⟨#[104]⟩ x0 32 0).more = true := by rw [emore]; exact decide_eq_true (hmi.2 (by omega))
      refine C26 g5 hpo (fun d hd => by cases hd) (fun d hd => by cases hd) ?_
      intro hp6 w b e S6 hput6 st6
      obtain ⟨rfl, rfl, rfl, d, hl6, hf6, rfl⟩ := put_first hpi (fun hh => by rw [hm0] at hh; cases hh.2) hput6
      have g6 := st6 hp1 g5
      rw [hm0] at hf6
      exact more hp6 (by omega) g6.1 ⟨_, d, g6, by rw [hl6, ← hsucc]; rfl, hf6⟩
    · have hany := a1
      rw [← hdl] at a1 a2
      have hdlen : d.l.length < 19 := by rw [hdl, List.length_take, cut_len, hNN]; omega
      have hdr : ∀ x ∈ d.l, rightP x = true := fun x hx => by
        rw [hdl] at hx
        obtain ⟨j, hj, rfl⟩ := List.getElem_of_mem hx
        rw [List.length_take, cut_len, hNN] at hj
        rw [List.getElem_take, cut_get]
        exact hpieces j (by omega)
      refine C26 g5 hpo (fun d2 h2 => by rw [sOne_get h2]; exact hdlen) (fun d2 h2 => by rw [sOne_get h2]; exact hdr) ?_
      intro hp6 w b e S6 hput6 st6
      have g6 := st6 hp1 g5
      by_cases hlast : i + 1 < N
      · have hm0 : (cutP ⟨#[107]⟩ ⟨#[104]⟩ x0 32 i).more = true := by rw [emore]; exact decide_eq_true (hmi.2 hlast)
        obtain ⟨rfl, rfl, rfl, d', hl6, hf6, rfl⟩ := put_next (by omega) hpi rfl rfl hm0 hdf a1 a2 hput6
        exact more hp6 hlast g6.1 ⟨_, d', g6, by rw [hl6, hdl, hsucc], hf6⟩
      · have hm0 : (cutP ⟨#[107]⟩ ⟨#[104]⟩ x0 32 i).more = false := by rw [emore]; exact decide_eq_false (fun hh => hlast (hmi.1 hh))
        have hall : d.l ++ [cutP ⟨#[107]⟩ ⟨#[104]⟩ x0 32 i] = cutL ⟨#[107]⟩ ⟨#[104]⟩ x0 32 := by
          rw [hdl, hsucc, List.take_of_length_le (by rw [cut_len, hNN]; omega)]
        have hsrt := cut_sorted (key := ⟨#[107]⟩) (head := ⟨#[104]⟩) (by omega : 0 < 32) (by omega) s0 s1
        have hto := cutP_to (key := ⟨#[107]⟩) (head := ⟨#[104]⟩) (by omega : 0 < 32) (by omega) s0 s1 hiC
        rw [if_neg (fun hh => hlast (hmi.1 hh))] at hto
        have hjoin := cut_join (key := ⟨#[107]⟩) (head := ⟨#[104]⟩) (by omega : 0 < 32) s0 (cutN' x0 32) 0 (by omega)
        rw [if_pos (by rw [hNN]; omega), List.drop_zero] at hjoin
        have hz00 : x0.extract 0 (32 * 0) = e0s := by rw [Nat.mul_zero]; exact ByteArray.extract_same
        rw [hz00] at hjoin
        obtain ⟨⟨head, nn, rfl⟩, rfl, rfl⟩ := put_last (data := x0) (by omega) hpi rfl rfl hm0 hdf a1 a2 (by rw [hto]; omega)
          (fun l' hp' hs' => by
            rw [hall] at hp' ⊢
            have hnd : (cutL ⟨#[107]⟩ ⟨#[104]⟩ x0 32).Nodup := hsrt.imp fun {x y} h e => by subst e; rw [swo_cfP.irrefl] at h; cases h
            exact same_ord (lt := ltC cfP) (hp'.nodup_iff.2 hnd) hnd (fun x => hp'.mem_iff) hs' hsrt)
          (by rw [hall]; unfold wholeQ; rw [hjoin, hto]; simp) hput6
        have whl : ∀ a b c d, (wh a b c d).length = 4 := fun _ _ _ _ => rfl
        have who : ∀ a b c d, (wh a b c d).all one = true := fun _ _ _ _ => rfl
        have hz0 : [(Value.string ⟨#[]⟩), (Value.string ⟨#[]⟩), (Value.string ⟨#[]⟩), (Value.int .i64 0)] = wh e0s e0s e0s 0 := rfl
        have hspw : ∀ a b c d a' b' c' d', splice (wh a b c d) 0 (wh a' b' c' d') = wh a' b' c' d' := fun _ _ _ _ _ _ _ _ => splice_all rfl
        have w2 : ∀ a b c d, (wh a b c d)[2]? = some (.string c) := fun _ _ _ _ => rfl
        simp only [tup3V_mk, aggV_agg, boolV_bool, intV_int, whl, who, if_true, hz0, Nat.zero_add, hspw, w2, ldV_some, strV_string, str_eq]
        refine ifI (Nat.le_refl _) ?_
        have e1 : ((i : Int) == IntKind.wrap .i64 (((N : Nat) : Int) - 1)) = true := by rw [wN, beq_iff_eq]; omega
        rw [e1]
        show ite2 false _ (ite2 false _ (ite2 true _ _))
        simp only [ite2_false, ite2_true, decide_true, Bool.not_true]
        unfold F4_j7
        rw [ite2_false, w1]
        exact hI (k - 1) _ _ (by omega) ⟨i + 1, rfl, by omega, g6.1, fun hh => by omega⟩
  show ite2 false _ _
  rw [ite2_false]
  by_cases hge : p.at_ + 8 * t ≥ p.toW
  · rw [← ptoW, decide_eq_true hge, ite2_true]; exact wk
  rw [← ptoW, decide_eq_false hge, ite2_false]
  have hlt : q.at_ < p.toW := by rw [qat]; omega
  rw [qat, qmore, qdata]
  by_cases h1 : p.at_ + 8 * t = p.at_
  · have e : (p.at_ + 8 * t == p.at_) = true := by simpa using h1
    rw [e, ite2_true]
    cases hm : p.more
    · show ite2 false _ _
      rw [ite2_false]
      exact two hlt (by unfold sameP; rw [qmore, hm]; simp)
    · show ite2 true _ _
      rw [ite2_true, str_eq]
      by_cases hd : x3.extract 0 (x3.size / 8 * 8) = p.data
      · rw [decide_eq_true hd]; exact wk
      · rw [decide_eq_false hd]
        exact two hlt (by unfold sameP; rw [qdata, decide_eq_false hd]; simp)
  · have e : (p.at_ + 8 * t == p.at_) = false := by simpa using h1
    rw [e, ite2_false]
    exact two hlt (by unfold sameP; rw [qat, decide_eq_false h1]; simp)
end
end Go.Proofs

